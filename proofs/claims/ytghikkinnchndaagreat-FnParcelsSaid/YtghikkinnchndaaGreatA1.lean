/- Walks and laws, printed by program and by hand: what each function comes to, for all arguments, part 1. -/
import Derived.WalkKit
import Derived.Deep.RegionHeld
import Derived.Deep.LoopGhost
import Derived.Deep.MidRow
import Derived.Great.BuildSlice
import Derived.Laws.MakeOwn
import Derived.Great.FillDense
import Derived.Maps.AppendAt
import Derived.Lib.SliceRun
import Derived.Laws.Small
import Derived.Laws.Tables
import Derived.Test.YtghikkinnchndaaGreatRows
namespace Go.Proofs.YtghikkinnchndaaGreat
variable{B T b fx c d d1 PJ Yt d12 d13 d2 d3 d4 d5 d6 d7 d8 d9 i i' id j k m n nn o off sz:Nat}{P p:Prop}{W0 w w' w0:World}{alive:List Bool}{args oG fst:Array Value}{bb fr SO:Bool}{cs vs xs ys:List Value}{dst:Option Nat}{e e' t tb ty u:TypeId}{hi iv lo:Int}{ts:Array TypeId}{v v1 PH Wc v12 Ws v2 v3 v4 v5 v6 v7 v8 v9 z:Value}{x y:Operand}
def zR(a n : Nat) : List Nat := List.range' a n
set_option linter.unusedVariables false
set_option linter.unusedSimpArgs false
set_option maxRecDepth 100000
set_option maxHeartbeats 4000000
open Go.RowKit
open Go.Proofs.Tryz
section
abbrev yLL:=List<|List Int
abbrev yLI:=List Int
abbrev yLN:=List Nat
abbrev yOA:=Option Addr
abbrev yI(x:Int):Value:=.int .i64 x
@[match_pattern]abbrev Sv(a:Option Addr)(n c:Nat):Value:=.slice a n c
@[match_pattern]abbrev Bv(b:Bool):Value:=.bool b
abbrev yN:Value:=.slice none 0 0
theorem qf(h:P:=by omega):P:=h
theorem qg(h:P:=by first|assumption|omega):P:=h
theorem qh(h:P:=by kernel_rfl):P:=h
theorem qj(h:P:=by decide):P:=h
theorem ql(h:P:=by assumption):P:=h
theorem qm(h:P:=by simp):P:=h
theorem qo(h:P:=by simp only[List.length_cons];omega):P:=h
theorem qp(h:P:=by unfold maxLen;omega):P:=h
theorem qw(h:P:=by simp[Value.oneCell',Value.cells]):P:=h
theorem qx(h:P:=by exact fun j hj=>by omega):P:=h
theorem qy(h:P:=by simp;omega):P:=h
theorem hid(h:p):Hid p:=h
def jI(w:World)(b off:Nat)(vs:List Value):Prop:=∀i v,vs[i]? =some v->w.cell? ⟨b,off+i,none⟩=some v
class qK(α:Type) where
 size:Nat
 rep:World->yLN->List Value->α->Prop
 len:∀ {w F cs x},rep w F cs x->cs.length=size
 stay:∀ {w w' F cs x},rep w F cs x->(∀b∈F,w'.heap[b]? =w.heap[b]?)->rep w' F cs x
 lt:∀ {w F cs x},rep w F cs x->∀b∈F,b<w.heap.size
 one:∀ {w F cs x},rep w F cs x->∀u∈cs,u.oneCell'=true
abbrev zP{α : Type}[qK<|List α](w : World)(F : List Nat)(a : Option Addr)(c : Nat)(l : List α) : Prop := qK.rep w F [.slice a l.length c] l
section
variable{α : Type}[qK α]
open qK
def reps(w:World):yLN->List Value->List α->Prop
 |F,vs,[]=>F=[]/\vs=[]
 |F,vs,x::l=>∃F1 F2 c1 c2,F=F1++F2/\vs=c1++c2/\rep w F1 c1 x/\reps w F2 c2 l
theorem reps_len{w:World}:∀ {F:yLN} {vs:List Value} {l:List α},reps w F vs l->vs.length=l.length*size α
 |_,_,[],⟨_,h⟩=>by simp[h]
 |_,_,x::l,⟨_,_,_,_,_,hv,h1,h2⟩=>by
  rw[hv,List.length_append,qK.len h1,reps_len h2,List.length_cons,Nat.add_mul,Nat.one_mul,Nat.add_comm]
theorem reps_stay{w w':World}:∀ {F:yLN} {vs:List Value} {l:List α},reps w F vs l->(∀b∈F,w'.heap[b]? =w.heap[b]?)->reps w' F vs l
 |_,_,[],h,_=>h
 |_,_,x::l,⟨F1,F2,c1,c2,hF,hv,h1,h2⟩,hs=>by
  subst hF
  exact⟨F1,F2,c1,c2,rfl,hv,qK.stay h1<|fun b hb=>hs b<|List.mem_append_left _ hb,reps_stay h2<|fun b hb=>hs b<|List.mem_append_right _ hb⟩
theorem reps_lt{w:World}:∀ {F:yLN} {vs:List Value} {l:List α},reps w F vs l->∀b∈F,b<w.heap.size
 |_,_,[],⟨hF,_⟩,b,hb=>by simp[hF] at hb
 |_,_,x::l,⟨F1,F2,c1,c2,hF,hv,h1,h2⟩,b,hb=>by
  subst hF
  rcases List.mem_append.1 hb with h|h
  ·exact qK.lt h1 b h
  ·exact reps_lt h2 b h
theorem reps_cells{w:World}:∀ {F:yLN} {vs:List Value} {l:List α},reps w F vs l->∀u∈vs,u.oneCell'=true
 |_,_,[],⟨_,hv⟩,u,hu=>by simp[hv] at hu
 |_,_,x::l,⟨F1,F2,c1,c2,hF,hv,h1,h2⟩,u,hu=>by
  rw[hv] at hu
  rcases List.mem_append.1 hu with h|h
  ·exact qK.one h1 u h
  ·exact reps_cells h2 u h
theorem yU{w:World}:∀ {F G:yLN} {vs us:List Value} {l m:List α},reps w F vs l->reps w G us m->reps w (F++G) (vs++us) (l++m)
 |_,_,_,_,[],_,⟨hF,hv⟩,h=>by simpa [hF,hv] using h
 |_,G,_,us,x::l,m,⟨F1,F2,c1,c2,hF,hv,h1,h2⟩,h=>
  ⟨F1,F2++G,c1,c2++us,by rw[hF,List.append_assoc],by rw[hv,List.append_assoc],h1,yU h2 h⟩
theorem reps_split{w:World}:∀ {F:yLN} {vs:List Value} (l:List α) {m:List α},reps w F vs (l++m)→
 ∃F1 F2 v1 v2,F=F1++F2/\vs=v1++v2/\reps w F1 v1 l/\reps w F2 v2 m
 |F,vs,[],m,h=>⟨[],F,[],vs,rfl,rfl,⟨rfl,rfl⟩,h⟩
 |_,_,x::l,m,⟨F1,F2,c1,c2,hF,hv,h1,h2⟩=>by
  obtain⟨G1,G2,v1,v2,hG,hw,k1,k2⟩:=reps_split l h2
  exact⟨F1++G1,G2,c1++v1,v2,by rw[hF,hG,List.append_assoc],by rw[hv,hw,List.append_assoc],⟨F1,G1,c1,v1,rfl,rfl,h1,k1⟩,k2⟩
theorem reps_one{F:yLN}{x:α}(h:rep w F cs x):reps w F cs [x]:=
 ⟨F,[],cs,[],by simp,by simp,h,rfl,rfl⟩
theorem reps_get{F:yLN}{l:List α}(h:reps w F vs l)(k:Nat)(hk:k<l.length):
 ∃F1 Fk F2 v1 cs v2,F=F1++Fk++F2/\vs=v1++cs++v2/\v1.length=k*size α/\cs.length=size α/\rep w Fk cs l[k]/\reps w F1 v1 (l.take k)/\reps w F2 v2 (l.drop<|k+1):=by
 have e:l=l.take k++(l[k]::l.drop (k+1)):=by rw[←List.drop_eq_getElem_cons hk,List.take_append_drop]
 rw[e] at h
 obtain⟨F1,F2,v1,v2,hF,hv,h1,Fk,F3,cs,v3,hF',hv',h2,h3⟩:=reps_split _ h
 refine⟨F1,Fk,F3,v1,cs,v3,by rw[hF,hF',List.append_assoc],by rw[hv,hv',List.append_assoc],?_,qK.len h2,h2,h1,h3⟩
 rw[reps_len h1,List.length_take_of_le qf]
theorem cells_mid{v1 v2:List Value}(h:jI w b off (v1++cs++v2)):jI w b (off+v1.length) cs:=by
 intro i v hv
 have hi:i<cs.length:=by
  rcases Nat.lt_or_ge i cs.length with h|h
  ·exact h
  ·simp[h] at hv
 have:=h (v1.length+i) v<|by rw[List.append_assoc,List.getElem?_append_right qf,Nat.add_sub_cancel_left,List.getElem?_append_left hi,hv]
 rwa [←Nat.add_assoc] at this
theorem cellsAt_stay(h:jI w b off vs)(hb:w'.heap[b]? =w.heap[b]?):jI w' b off vs:=
 fun i v hv=>(World.cell?_of_block (a:=⟨b,off+i,none⟩) hb).trans<|h i v hv
def RepSlice(w:World)(F:yLN)(cs:List Value)(l:List α):Prop:=
 ∃a ib,cs=[Sv a l.length ib]/\(l.length<=9223372036854775807/\l.length<=ib)/\((l=[]/\F=[])\/∃b off F' vs,a=some ⟨b,off,none⟩/\F=b::F' /\b<w.heap.size/\reps w F' vs l/\jI w b off vs)
instance:qK (List α) where
 size:=1
 rep:=RepSlice
 len:=by rintro w F cs x ⟨a,ib,rfl,_,_⟩;rfl
 one:=by rintro w F cs x ⟨a,ib,rfl,_,_⟩ u hu;simp only[List.mem_singleton] at hu;subst hu;rfl
 stay:=by
  rintro w w' F cs x ⟨a,ib,hc,hl,h⟩ hs
  refine⟨a,ib,hc,hl,?_⟩
  rcases h with h|⟨b,off,F',vs,ha,hF,hb,hr,hcells⟩
  ·exact Or.inl h
  ·subst hF
   have hbb:=hs b<|List.mem_cons_self ..
   refine Or.inr ⟨b,off,F',vs,ha,rfl,?_,reps_stay hr<|fun c hc=>hs c<|List.mem_cons_of_mem _ hc,cellsAt_stay hcells hbb⟩
   rcases Nat.lt_or_ge b w'.heap.size with h|h
   ·exact h
   ·rw[Array.getElem?_eq_none h] at hbb
    have:=Array.getElem?_eq_some_iff.2 ⟨hb,rfl⟩
    rw[this] at hbb
    cases hbb
 lt:=by
  rintro w F cs x ⟨a,ib,hc,hl,h⟩ c hcF
  rcases h with ⟨_,h⟩|⟨b,off,F',vs,ha,hF,hb,hr,hcells⟩
  ·simp[h] at hcF
  ·subst hF
   rcases List.mem_cons.1 hcF with rfl|h
   ·exact hb
   ·exact reps_lt hr c h
end
instance:qK Int where
 size:=1
 rep:=fun _ F cs x=>F=[]/\cs=[.int .i64 x]
 len:=by rintro w F cs x ⟨_,rfl⟩;rfl
 one:=by rintro w F cs x ⟨_,rfl⟩ u hu;simp only[List.mem_singleton] at hu;subst hu;rfl
 stay:=by rintro w w' F cs x h _;exact h
 lt:=by rintro w F cs x ⟨rfl,_⟩ b hb;simp at hb
instance:qK Bool where
 size:=1
 rep:=fun _ F cs x=>F=[]/\cs=[Bv x]
 len:=by rintro w F cs x ⟨_,rfl⟩;rfl
 one:=by rintro w F cs x ⟨_,rfl⟩ u hu;simp only[List.mem_singleton] at hu;subst hu;rfl
 stay:=by rintro w w' F cs x h _;exact h
 lt:=by rintro w F cs x ⟨rfl,_⟩ b hb;simp at hb
theorem reps_ints{w:World}:∀ {F:yLN} {vs:List Value} {l:yLI},reps w F vs l->F=[]/\vs=l.map (Value.int .i64)
 |_,_,[],⟨hF,hv⟩=>⟨hF,hv⟩
 |_,_,x::l,⟨F1,F2,c1,c2,hF,hv,h1,h2⟩=>by
  obtain⟨e1,e2⟩:=reps_ints h2
  obtain⟨k1,k2⟩:F1=[]/\c1=[.int .i64 x]:=h1
  subst e1 e2 k1 k2
  exact⟨hF,hv⟩
theorem reps_of_ints(w:World):∀(l:yLI),reps w [] (l.map<|Value.int .i64) l
 | []=>⟨rfl,rfl⟩
 |x::l=>⟨[],[],[.int .i64 x],l.map<|Value.int .i64,rfl,rfl,⟨rfl,rfl⟩,reps_of_ints w l⟩
theorem qM{α:Type}[qK α]{F:yLN}{a:yOA}{l:List α}(h:qK.rep w F [Sv a m c] l):l.length<=9223372036854775807/\l.length<=c:=by
 obtain⟨a',c',hc,h,_⟩:=h
 simp only[List.cons.injEq,Value.slice.injEq,and_true] at hc
 obtain⟨_,_,rfl⟩:=hc
 exact h
abbrev Is{α:Type}[qK α](w:World)(F:yLN)(v:Value)(x:α):Prop:=qK.rep w F [v] x
abbrev Ext(w w':World):Prop:=Below w.heap.size w w'
theorem Ext.trans'{a b c:World}(h:Ext a b)(k:Ext b c):Ext a c:=h.trans<|k.mono h.size
end
variable{F F' Fl Fm G rs:yLN}{L L':List yLN}{a al am:yOA}{l:yLI}
section
abbrev Env:=Nat->Value
def upd(ρ:Env)(d:Nat)(v:Value):Env:=fun i=>cond (Nat.beq i d) v<|ρ i
def env0(l:List Value):Env:=fun i=>l.getD i undef
class Dfr where
 D:List Deferred
instance dfr0:Dfr:=⟨[]⟩
def mk[Dfr](n:Nat)(ρ:Env):Act:={ tmps:=Array.ofFn (n:=n) (fun i=>ρ i),defers:=Dfr.D }
def ev(n:Nat)(ρ:Env):Operand->Value
 | .tmp t=>cond (Nat.blt t n) (ρ t) undef
 | .const v=>v
 | .global g=>.pointer<|some ⟨g,0,none⟩
 | .func f=>.func (.func f) #[] #[]
theorem upd_same(ρ:Env)(d:Nat)(v:Value):upd ρ d v d=v:=by simp[upd]
theorem upd_ne(ρ:Env)(v:Value)(h:i≠d):upd ρ d v i=ρ i:=by
 unfold upd
 have:Nat.beq i d=false:=by
  cases hb:Nat.beq i d with
  |false=>rfl
  |true=>exact absurd (Nat.eq_of_beq_eq_true hb) h
 rw[this];rfl
theorem upd_self{ρ:Env}(h:ρ d=v):upd ρ d v=ρ:=by
 funext i
 by_cases hi:i=d
 ·subst hi;rw[upd_same,h]
 ·rw[upd_ne _ _ hi]
theorem zY{ρ ρ':Env}(h:ρ=ρ')(hd:ρ d=v):ρ=upd ρ' d v:=by subst h;exact(upd_self hd).symm
theorem XN[Dfr](n:Nat)(ρ:Env):(mk n ρ).eval=ev n ρ:=by
 funext x
 cases x with
 |tmp t=>
  simp only[Act.eval,ev,mk]
  by_cases h:t<n
  ·rw[show Nat.blt t n=true from Nat.ble_eq_true_of_le h]
   simp[h]
  ·have hb:Nat.blt t n=false:=by
    cases hb:Nat.blt t n with
    |false=>rfl
    |true=>exact absurd (Nat.le_of_ble_eq_true hb) h
   rw[hb]
   simp[h]
 |const v=>rfl
 |global g=>rfl
 |func f=>rfl
theorem mk_put[Dfr](n:Nat)(ρ:Env)(d:Nat)(v:Value):(mk n ρ).put (some d) v=mk n (upd ρ d v):=by
 simp only[Act.put,mk,Act.mk.injEq,and_true]
 apply Array.ext
 ·simp
 ·intro i h1 h2
  rw[Array.getElem_setIfInBounds<|by simpa using h1]
  simp only[Array.getElem_ofFn]
  by_cases hi:d=i
  ·subst hi;simp[upd_same]
  ·rw[if_neg hi,upd_ne _ _<|Ne.symm hi]
section
variable{P : Program}{fL : Array Oper}{Q : Exit -> Act -> World -> Prop}{n : Nat}{ρ : Env}{w : World}{rest : List Oper}
@[irreducible] def WL[Dfr](P : Program)(fL : Array Oper)(Q : Exit -> Act -> World -> Prop)(n : Nat)(l : List Oper)(ρ : Env)(w : World) : Prop := wpList P fL Q l (mk n ρ) w
theorem WL.of[Dfr]{l:List Oper}(h:wpList P fL Q l (mk n ρ) w):WL P fL Q n l ρ w:=by unfold WL;exact h
theorem WL.out[Dfr]{l:List Oper}(h:WL P fL Q n l ρ w):wpList P fL Q l (mk n ρ) w:=by unfold WL at h;exact h
theorem enter{f:FuncId}{fn:Func}{c:Code}{R:Ending->World->Prop}
 (hf:P.funcs[f]? =some fn) (hb:fn.body=some c) (hn:fn.ntmps=n) (hs:args.size<=n)
 (h:c.wp P (bodyPost P fn R) (mk n<|env0 args.toList) w):Calls P f args w R:=by
 refine calls_of_wp hf hb ?_
 have e:({ tmps:=args++Array.replicate (fn.ntmps-args.size) undef,defers:=[]}:Act)=mk n (env0 args.toList):=by
  simp only[mk,Act.mk.injEq]
  refine⟨?_,rfl⟩
  apply Array.ext
  ·simp[hn];omega
  ·intro i h1 h2
   simp only[Array.getElem_ofFn,env0]
   by_cases hi:i<args.size
   ·rw[Array.getElem_append_left hi]
    simp[List.getD_eq_getElem?_getD,hi]
   ·rw[Array.getElem_append_right qf]
    simp[List.getD_eq_getElem?_getD,Array.getElem?_eq_none<|show args.size<=i by omega]
 rw[e]
 exact h
@[irreducible] def OW[Dfr](P : Program)(Q : Exit -> Act -> World -> Prop)(o : Oper)(n : Nat)(ρ : Env)(w : World)(K : Env -> World -> Prop) : Prop :=
 ∀K':Act->World->Prop,(∀ρ w,K ρ w->K' (mk n ρ) w)->o.wp P (mk n ρ) w K' Q
theorem sw[Dfr]{op:Op}{pos:String}{af:Array Edge}(h:OW P Q ⟨dst,op,ty,pos,af,none⟩ n ρ w fun ρ w=>WL P fL Q n rest ρ w):
 WL P fL Q n (⟨dst,op,ty,pos,af,none⟩::rest) ρ w:=by
 unfold OW at h
 exact WL.of<|wpList_plain rfl fun K hK=>h K fun ρ w hk=>hK _ _ hk.out
theorem xM[Dfr]{x y:Code}(h:x.wp P (Exit.then (y.wp P Q) Q) (mk n ρ) w):(x.seq y).wp P Q (mk n ρ) w:=wp_seq h
theorem xX[Dfr]{l:List Oper}(h:WL P l.toArray Q n l ρ w):(Code.region id l.toArray false).wp P Q (mk n ρ) w:=wp_region_lit h.out
theorem xU[Dfr](h:Q .normal (mk n ρ) w):WL P fL Q n [] ρ w:=WL.of h
theorem qW[Dfr](h:Q .normal (mk n ρ) w):Code.skip.wp P Q (mk n ρ) w:=wp_skip h
theorem c_ret[Dfr](h:Q .ret (mk n ρ) w):Code.ret.wp P Q (mk n ρ) w:=wp_ret h
theorem c_exit[Dfr](h:Q (.exit id) (mk n ρ) w):(Code.exit id).wp P Q (mk n ρ) w:=wp_exit h
theorem xe[Dfr]{c:Code}(h:c.wp P (Exit.inBlock id Q) (mk n ρ) w):(Code.block id c).wp P Q (mk n ρ) w:=wp_block h
theorem t_n{N:Act->World->Prop}{a:Act}(h:N a w):Exit.then N Q .normal a w:=h
theorem t_x{N:Act->World->Prop}{a:Act}(h:Q (.exit id) a w):Exit.then N Q (.exit id) a w:=h
theorem t_r{N:Act->World->Prop}{a:Act}(h:Q .ret a w):Exit.then N Q .ret a w:=h
theorem b_n{a:Act}(h:Q .normal a w):Exit.inBlock id Q .normal a w:=h
theorem b_r{a:Act}(h:Q .ret a w):Exit.inBlock id Q .ret a w:=h
theorem b_x{a:Act}(h:Q .normal a w):Exit.inBlock id Q (.exit id) a w:=by simpa [Exit.inBlock] using h
theorem b_o{a:Act}{id':Nat}(pt:Nat.beq id' id=false)(h:Q (.exit id') a w):Exit.inBlock id Q (.exit id') a w:=by
 have:id' ≠id:=fun e=>by subst e;simp at pt
 simpa [Exit.inBlock,this] using h
theorem vg[Dfr]{y z:Code}(c:Bool)(hc:ev n ρ x=Bv c)(h1:c=true->y.wp P Q (mk n ρ) w)(h2:c=false->z.wp P Q (mk n ρ) w):
 (Code.cond x y z).wp P Q (mk n ρ) w:=wp_cond_split (t:=c) (by rw[XN];exact hc) h1 h2
theorem zT[Dfr]{c:Code}(I:Nat->Env->World->Prop)(m0:Nat)(h0:I m0 ρ w)
 (hs:∀m ρ w,I m ρ w->c.wp P (Exit.then (fun a' w'=>∃m' ρ',a'=mk n ρ' /\m'<m/\I m' ρ' w') Q) (mk n ρ) w):c.loop.wp P Q (mk n ρ) w:=by
 refine wp_loop_ghost (fun m a w=>∃ρ,a=mk n ρ/\I m ρ w) m0 ⟨ρ,rfl,h0⟩ ?_
 rintro m a w ⟨ρ,rfl,hI⟩
 refine Code.wp_mono ?_<|hs m ρ w hI
 intro e a w h
 cases e with
 |normal=>obtain⟨m',ρ',e1,e2,e3⟩:=h;exact⟨m',e2,ρ',e1,e3⟩
 |exit _=>exact h
 |goto _=>exact h
 |ret=>exact h
 |panic _=>exact h
 |outgrown=>exact h
theorem xu[Dfr]{m':Nat}{I:Nat->Env->World->Prop}(hm:m'<m)(h:I m' ρ w):
 Exit.then (fun a' w'=>∃m' ρ',a'=mk n ρ' /\m'<m/\I m' ρ' w') Q .normal (mk n ρ) w:=⟨m',ρ,rfl,hm,h⟩
theorem ret0{fn:Func}{R:Ending->World->Prop}(hr:fn.results=#[])(h:R (.returned<|.tuple #[]) w):bodyPost P fn R .normal (mk n ρ) w:=
 bodyPost_end (results_none hr _ _ _) rfl h
theorem ret1{fn:Func}{R:Ending->World->Prop}{t:Nat}(v:Value)(hr:fn.results=#[.tmp t])(hv:ev n ρ (.tmp t)=v)(h:R (.returned v) w):bodyPost P fn R .ret (mk n ρ) w:=by
 refine bodyPost_ret (results_tmp hr _ _ _) rfl ?_
 have e:=congrFun (XN n ρ)<|.tmp t
 simp only[Act.eval] at e
 rw[e,hv]
 exact h
theorem ret2{fn:Func}{R:Ending->World->Prop}{t u:Nat}(v x:Value)(hr:fn.results=#[.tmp t,.tmp u])(hv:ev n ρ (.tmp t)=v)(hx:ev n ρ (.tmp u)=x)(h:R (.returned<|.tuple #[v,x]) w):bodyPost P fn R .ret (mk n ρ) w:=by
 refine bodyPost_ret (results_tmp2 hr _ _ _) rfl ?_
 have e:=congrFun (XN n ρ)<|.tmp t
 have e':=congrFun (XN n ρ)<|.tmp u
 simp only[Act.eval] at e e'
 rw[e,hv,e',hx]
 exact h
end
inductive Prv where
 |box (b:Nat) (cs:List Value) (t:TypeId)
 |row (v:Value) (e:TypeId) (size n:Nat) (xs:List Value)
def Prv.blk:Prv->Option Nat
 | .box b _ _=>some b
 | .row v _ _ _ _=>v.ownBlock
def Prv.ok(base:Nat)(w:World):Prv->Prop
 | .box b cs t=>base<=b/\w.heap[b]? =some (.cells cs.toArray t (0,0))
 | .row v e size n xs=>w.ownsRow base e size v n xs
theorem Prv.ok.lt{base:Nat}{w:World}{p:Prv}(h:p.ok base w){b:Nat}(hb:p.blk=some b):base<=b/\b<w.heap.size:=by
 cases p with
 |box b' cs t=>
  simp only[Prv.blk,Option.some.injEq] at hb
  subst hb
  exact⟨h.1,(Array.getElem?_eq_some_iff.1 h.2).1⟩
 |row v e size n xs=>exact World.ownsRow.lt h b hb
theorem Prv.ok.stay{base:Nat}{p:Prv}(h:p.ok base w)(hs:∀b,p.blk=some b->w'.heap[b]? =w.heap[b]?):p.ok base w':=by
 cases p with
 |box b cs t=>exact⟨h.1,(hs b rfl).trans h.2⟩
 |row v e size n xs=>
  refine⟨h.1,?_⟩
  rcases h.2 with hn|⟨g,ib,ij,rfl,hb,hg,rest⟩
  ·exact Or.inl hn
  ·exact Or.inr ⟨g,ib,ij,rfl,hb,(hs g rfl).trans hg,rest⟩
structure Fact where
 F:yLN
 φ:World->Prop
 stay:∀w w',φ w->(∀b∈F,w'.heap[b]? =w.heap[b]?)->φ w'
def yQ(ps:List Prv)(i:Nat):Option Nat:=(ps[i]?).bind Prv.blk
structure St(W0 w:World)(ps:List Prv)(Γ:List Fact):Prop where
 base:Ext W0 w
 has:∀p∈ps,p.ok W0.heap.size w
 dist:∀i j b,yQ ps i=some b->yQ ps j=some b->i=j
 facts:∀f∈Γ,f.φ w/\∀b∈f.F,b<w.heap.size/\∀i,yQ ps i≠some b
section
variable{W0 w : World}{ps : List Prv}{Γ : List Fact}
theorem St.start(w:World):St w w [] []:=
 ⟨Below.refl _ _,by simp,by intro i j b h;simp[yQ] at h,by simp⟩
theorem blkAt_has(H:St W0 w ps Γ)(h:yQ ps i=some b):W0.heap.size<=b/\b<w.heap.size:=by
 unfold yQ at h
 cases hp:ps[i]? with
 |none=>simp[hp] at h
 |some p=>
  simp only[hp,Option.bind_some] at h
  exact(H.has p<|List.mem_of_getElem? hp).lt h
theorem St.get(H:St W0 w ps Γ)(i:Nat){f:Fact}(h:Γ[i]? =some f):f.φ w:=(H.facts f<|List.mem_of_getElem? h).1
theorem St.add(H:St W0 w ps Γ)(f:Fact)(h:f.φ w)(hF:∀b∈f.F,b<w.heap.size/\∀i,yQ ps i≠some b):St W0 w ps (f::Γ):=
 ⟨H.base,H.has,H.dist,fun g hg=>by
  rcases List.mem_cons.1 hg with rfl|hg
  ·exact⟨h,hF⟩
  ·exact H.facts g hg⟩
theorem St.vT(H:St W0 w ps Γ)(i:Nat){g:Fact}(hg:Γ[i]? =some g)(f:Fact)(h:f.φ w)(hF:∀b∈f.F,b∈g.F):St W0 w ps (f::Γ):=
 H.add f h fun b hb=>(H.facts g<|List.mem_of_getElem? hg).2 b<|hF b hb
theorem St.sub(H:St W0 w ps Γ)(Δ:List Fact)(h:∀f∈Δ,f∈Γ):St W0 w ps Δ:=⟨H.base,H.has,H.dist,fun f hf=>H.facts f<|h f hf⟩
theorem St.change(H:St W0 w ps Γ)(i:Nat){p p':Prv}(hp:ps[i]? =some p)
 (hos:w'.os=w.os) (ht:w'.tape=w.tape) (ho:w'.output=w.output) (hz:w.heap.size<=w'.heap.size)
 (hs:∀b,b<w.heap.size->p.blk≠some b->w'.heap[b]? =w.heap[b]?) (hok:p'.ok W0.heap.size w')
 (hb:p'.blk=p.blk\/p'.blk=none\/∃b,p'.blk=some b/\w.heap.size<=b):St W0 w' (ps.set i p') Γ:=by
 have hi:i<ps.length:=by
  rcases Nat.lt_or_ge i ps.length with h|h
  ·exact h
  ·simp[h] at hp
 have hbi:yQ ps i=p.blk:=by simp[yQ,hp]
 have oO:∀j,yQ (ps.set i p') j=if j=i then p'.blk else yQ ps j:=by
  intro j
  unfold yQ
  by_cases hj:j=i
  ·subst hj;simp[hi]
  ·rw[List.getElem?_set_ne<|Ne.symm hj,if_neg hj]
 have apQ:∀j b,j≠i->yQ ps j=some b->p'.blk≠some b:=by
  intro j b hj hjb he
  rcases hb with h|h|⟨c,h,hc⟩
  ·rw[h,←hbi] at he;exact hj<|H.dist j i b hjb he
  ·rw[h] at he;cases he
  ·rw[h] at he
   simp only[Option.some.injEq] at he
   subst he
   have:=(blkAt_has H hjb).2
   omega
 refine⟨⟨hos.trans H.base.os,ht.trans H.base.tape,ho.trans H.base.output,Nat.le_trans H.base.size hz,fun k hk=>?_⟩,?_,?_,?_⟩
 ·refine(hs k (Nat.lt_of_lt_of_le hk H.base.size) fun he=>?_).trans (H.base.block k hk)
  rw[←hbi] at he
  have:=(blkAt_has H he).1
  omega
 ·intro q hq
  obtain⟨j,hj⟩:=List.getElem?_of_mem hq
  by_cases hji:j=i
  ·subst hji
   rw[List.getElem?_set_self hi] at hj
   simp only[Option.some.injEq] at hj
   subst hj
   exact hok
  ·rw[List.getElem?_set_ne<|Ne.symm hji] at hj
   have hq':=H.has q<|List.mem_of_getElem? hj
   refine hq'.stay fun b hqb=>hs b (hq'.lt hqb).2 fun he=>?_
   rw[←hbi] at he
   exact hji<|H.dist j i b (by simp[yQ,hj,hqb]) he
 ·intro j k b hj hk
  rw[oO] at hj hk
  by_cases h1:j=i <;> by_cases h2:k=i
  ·rw[h1,h2]
  ·rw[if_pos h1] at hj;rw[if_neg h2] at hk;exact absurd hj<|apQ k b h2 hk
  ·rw[if_neg h1] at hj;rw[if_pos h2] at hk;exact absurd hk<|apQ j b h1 hj
  ·rw[if_neg h1] at hj;rw[if_neg h2] at hk;exact H.dist j k b hj hk
 ·intro f hf
  obtain⟨h1,h2⟩:=H.facts f hf
  refine⟨f.stay w w' h1 fun b N5=>hs b (h2 b N5).1 fun he=>?_,fun b N5=>⟨Nat.lt_of_lt_of_le (h2 b N5).1 hz,fun j he=>?_⟩⟩
  ·rw[←hbi] at he;exact(h2 b N5).2 i he
  ·rw[oO] at he
   by_cases hj:j=i
   ·rw[if_pos hj] at he
    rcases hb with h|h|⟨c,h,hc⟩
    ·rw[h,←hbi] at he;exact(h2 b N5).2 i he
    ·rw[h] at he;cases he
    ·rw[h] at he
     simp only[Option.some.injEq] at he
     subst he
     have:=(h2 c N5).1
     omega
   ·rw[if_neg hj] at he;exact(h2 b N5).2 j he
theorem St.ext(H:St W0 w ps Γ)(e:Ext w w'):St W0 w' ps Γ:=
 ⟨Ext.trans' H.base e,fun p hp=>(H.has p hp).stay fun b hb=>e.block b ((H.has p hp).lt hb).2,H.dist,
  fun f hf=>⟨f.stay w w' (H.facts f hf).1 fun b hb=>e.block b ((H.facts f hf).2 b hb).1,
   fun b hb=>⟨Nat.lt_of_lt_of_le ((H.facts f hf).2 b hb).1 e.size,((H.facts f hf).2 b hb).2⟩⟩⟩
theorem St.own(H:St W0 w ps Γ)(e:Ext w w')(p:Prv)(hp:p.ok W0.heap.size w')(hb:∀b,p.blk=some b->w.heap.size<=b):St W0 w' (p::ps) Γ:=by
 have H':=H.ext e
 refine⟨H'.base,fun q hq=>?_,?_,fun f hf=>⟨(H'.facts f hf).1,fun b N5=>⟨((H'.facts f hf).2 b N5).1,fun i=>?_⟩⟩⟩
 ·rcases List.mem_cons.1 hq with rfl|hq
  ·exact hp
  ·exact H'.has q hq
 ·intro i j b hi hj
  cases i with
  |zero=>
   cases j with
   |zero=>rfl
   |succ j=>
    have h1:=hb b<|by simpa [yQ] using hi
    have h2:=(blkAt_has H (i:=j) (b:=b)<|by simpa [yQ] using hj).2
    omega
  |succ i=>
   cases j with
   |zero=>
    have h1:=hb b<|by simpa [yQ] using hj
    have h2:=(blkAt_has H (i:=i) (b:=b)<|by simpa [yQ] using hi).2
    omega
   |succ j=>rw[H.dist i j b (by simpa [yQ] using hi)<|by simpa [yQ] using hj]
 ·cases i with
  |zero=>
   intro he
   have h1:=hb b<|by simpa [yQ] using he
   have h2:=((H.facts f hf).2 b N5).1
   omega
  |succ i=>simpa [yQ] using ((H'.facts f hf).2 b N5).2 i
theorem ext_alloc(w:World)(o:Obj):Ext w (w.alloc o):=(Below.refl _ _).alloc (Nat.le_refl _) o
theorem ext_drew(w:World):Ext w w.drew:=(Below.refl _ _).drew
theorem St.alloc(H:St W0 w ps Γ)(cs:Array Value)(t:TypeId):St W0 (w.alloc<|.cells cs t) (.box w.heap.size cs.toList t::ps) Γ:=
 H.own (ext_alloc _ _) _ ⟨H.base.size,by simpa using heap_alloc_new w (.cells cs t)⟩ (by intro b hb;simp only[Prv.blk,Option.some.injEq] at hb;omega)
theorem heap_setCell_same{cs:Array Value}{fr:Nat×Nat}(h:w.heap[b]? =some (.cells cs t fr))(v:Value):
 (w.setCell ⟨b,off,none⟩ v).heap[b]? =some (.cells (cs.setIfInBounds off v) t fr):=by
 simp[World.setCell,Array.getElem?_modify,h]
theorem St.set(H:St W0 w ps Γ)(i:Nat){b:Nat}{cs:List Value}{t:TypeId}(hp:ps[i]? =some (.box b cs t))(off:Nat)(v:Value):
 St W0 (w.setCell ⟨b,off,none⟩ v) (ps.set i<|.box b (cs.set off v) t) Γ:=by
 have hb:=H.has _<|List.mem_of_getElem? hp
 refine H.change i hp rfl rfl rfl (by simp[World.setCell]) (fun c _ hc=>Below.heap_setCell _ _ _ _ ?_) ⟨hb.1,?_⟩<|Or.inl rfl
 ·intro e;exact hc (by simp[Prv.blk,e])
 ·rw[heap_setCell_same hb.2]
  simp
end
def pv(ρ:Operand->Value):Op->Option Value
 | .move x=>some<|ρ x
 | .assign x=>some<|ρ x
 | .pick c a b=>match ρ c with | .bool t=>some (cond t (ρ a) (ρ b))|_=>none
 | .nilCheck x=>match ρ x with | .pointer (some a)=>some (.pointer (some a))|_=>none
 | .unOp .not _ x=>match ρ x with | .bool b=>some (.bool !b)|_=>none
 | .extract x i=>match ρ x with | .tuple vs=>vs[i]?|_=>none
 | .makeFunc f a c=>some<|.func f (a.toList.map ρ).toArray (c.toList.map ρ).toArray
 | .binOp .lss _ x y _=>match ρ x,ρ y with | .int .i64 a,.int .i64 b=>some (Bv (decide (a<b)))|_,_=>none
 | .binOp .leq _ x y _=>match ρ x,ρ y with | .int .i64 a,.int .i64 b=>some (Bv (decide (a<=b)))|_,_=>none
 | .binOp .gtr _ x y _=>match ρ x,ρ y with | .int .i64 a,.int .i64 b=>some (Bv (decide (a>b)))|_,_=>none
 | .binOp .geq _ x y _=>match ρ x,ρ y with | .int .i64 a,.int .i64 b=>some (Bv (decide (a>=b)))|_,_=>none
 | .binOp .eql _ x y _=>match ρ x,ρ y with | .int .i64 a,.int .i64 b=>some (Bv (a == b)) | .string a,.string b=>some (Bv (a.toList == b.toList))|_,_=>none
 | .binOp .neq _ x y _=>match ρ x,ρ y with | .int .i64 a,.int .i64 b=>some (Bv (a != b)) | .string a,.string b=>some (Bv !(a.toList == b.toList))|_,_=>none
 |_=>none
theorem pv_run{P:Program}{ρ:Operand->Value}{o:Oper}(h:pv ρ o.op=some v)(w:World):(execOp ρ o).run P w=.ok (.value v) w:=by
 unfold execOp
 cases ho:o.op <;> rw[ho] at h <;> simp only[pv] at h <;> try (cases h;done)
 case move x=>cases h;simp
 case assign x=>cases h;simp
 case pick c a b=>
  split at h <;> cases h
  rename_i t ht
  cases t <;> simp[ht,asBool]
 case nilCheck x=>
  split at h <;> cases h
  rename_i a ha
  simp[ha]
 case makeFunc f a c=>cases h;simp[Instr.makeFunc,←List.map_toArray]
 case extract x i=>
  split at h
  ·rename_i vs EO
   simp[EO,Instr.extract,h]
  ·cases h
 case unOp op t x=>
  cases op <;> simp only[pv] at h <;> try (cases h;done)
  split at h <;> cases h
  rename_i b hb
  simp[hb,Op.unary]
 case binOp op t x y u=>
  cases op <;> simp only[pv] at h <;> try (cases h;done)
  all_goals split at h
  all_goals first
   |(cases h;done)
   |(rename_i h1 h2;cases h;simp[h1,h2,eqGuard,binOp,Op.intCmp];done)
   |(rename_i h1 h2;cases h;simp[h1,h2,eqGuard,binOp,Op.stringOp];done)
section
variable{P : Program}{fL : Array Oper}{Q : Exit -> Act -> World -> Prop}{n : Nat}{ρ : Env}{W0 w : World}{rest : List Oper}{ps : List Prv}{Γ : List Fact}
 {d:Nat} {op:Op} {ty:TypeId} {pos:String} {af:Array Edge} {K:Env->World->Prop}
theorem Q8[Dfr](v:Value)(h:(execOp (ev n ρ) ⟨some d,op,ty,pos,af,none⟩).run P w=.ok (.value v) w')(k:K (upd ρ d v) w'):
 OW P Q ⟨some d,op,ty,pos,af,none⟩ n ρ w K:=by
 unfold OW
 intro K' hK
 unfold Oper.wp
 rw[XN,h]
 show K' ((mk n ρ).put (some d) v) w'
 rw[mk_put]
 exact hK _ _ k
theorem o_unit[Dfr](h:(execOp (ev n ρ) ⟨none,op,ty,pos,af,none⟩).run P w=.ok .skip w')(k:K ρ w'):
 OW P Q ⟨none,op,ty,pos,af,none⟩ n ρ w K:=by
 unfold OW
 intro K' hK
 unfold Oper.wp
 rw[XN,h]
 exact hK _ _ k
theorem o_pure[Dfr](v:Value)(h:pv (ev n ρ) op=some v)(k:K (upd ρ d v) w):OW P Q ⟨some d,op,ty,pos,af,none⟩ n ρ w K:=
 Q8 v (pv_run (by exact h) w) k
theorem yielded_of[Dfr]{e:Nat}{b:Bool}(hd:(fL[j]?).bind (·.dst)=some e)(hv:ev n ρ (.tmp e)=Bv b):yielded fL (mk n ρ).tmps j=some b:=by
 have oe:e<n:=by
  rcases Nat.lt_or_ge e n with h|h
  ·exact h
  ·have hb:Nat.blt e n=false:=by
    cases hb:Nat.blt e n with
    |false=>rfl
    |true=>exact absurd (Nat.le_of_ble_eq_true hb) qf
   simp[ev,hb,undef] at hv
 have hv':ρ e=Bv b:=by simpa [ev,show Nat.blt e n=true from Nat.ble_eq_true_of_le oe] using hv
 simp[yielded,hd,mk,oe,hv']
theorem yielded_un[Dfr]{e:Nat}(hd:(fL[j]?).bind (·.dst)=some e)(hv:ev n ρ (.tmp e)=undef):yielded fL (mk n ρ).tmps j=none:=by
 rcases Nat.lt_or_ge e n with oe|h
 ·have hv':ρ e=undef:=by simpa [ev,show Nat.blt e n=true from Nat.ble_eq_true_of_le oe] using hv
  simp[yielded,hd,mk,oe,hv',undef]
 ·simp[yielded,hd,mk,show ¬e<n by omega]
def dstAt:List Oper->Nat->Option Nat
 | [],_=>none
 |o::_,0=>o.dst
 |_::l,j+1=>dstAt l j
theorem dstAt_eq:∀(l:List Oper) (j:Nat),(l.toArray[j]?).bind (·.dst)=dstAt l j
 | [],j=>by simp[dstAt]
 |o::l,0=>by simp[dstAt]
 |o::l,j+1=>by
  have:=dstAt_eq l j
  simp only[List.getElem?_toArray,List.getElem?_cons_succ,dstAt] at this ⊢
  exact this
theorem qJ[Dfr]{l:List Oper}{b:Bool}(e:Nat)(hd:dstAt l j=some e)(hv:ev n ρ (.tmp e)=Bv b)
 (k:WL P l.toArray Q n (⟨dst,op,ty,pos,af,none⟩::rest) ρ w):WL P l.toArray Q n (⟨dst,op,ty,pos,af,some (j,b)⟩::rest) ρ w:=by
 have hw:Region.wanted ⟨dst,op,ty,pos,af,some (j,b)⟩ (yielded l.toArray (mk n ρ).tmps)=true:=by simp[Region.wanted,yielded_of ((dstAt_eq l j).trans hd) hv]
 replace k:=k.out
 refine WL.of ?_
 unfold wpList at k ⊢
 rw[if_pos hw]
 rw[if_pos<|by rfl] at k
 exact k
theorem wrap_in{a:Int}(h: -9223372036854775808<=a/\a<=9223372036854775807):IntKind.i64.wrap a=a:=by
 exact IntWalk.i64_in a h
theorem zS[Dfr](a b:Int)(hx:ev n ρ x=.int .i64 a)(hy:ev n ρ y=.int .i64 b)(h: -9223372036854775808<=a+b/\a+b<=9223372036854775807)
 (k:K (upd ρ d<|.int .i64<|a+b) w):OW P Q ⟨some d,.binOp .add t x y u,ty,pos,af,none⟩ n ρ w K:=
 Q8 _ (by simp[execOp,hx,hy,eqGuard,binOp,Op.intArith,wrap_in h]) k
theorem o_sub[Dfr](a b:Int)(hx:ev n ρ x=.int .i64 a)(hy:ev n ρ y=.int .i64 b)(h: -9223372036854775808<=a-b/\a-b<=9223372036854775807)
 (k:K (upd ρ d<|.int .i64<|a-b) w):OW P Q ⟨some d,.binOp .sub t x y u,ty,pos,af,none⟩ n ρ w K:=
 Q8 _ (by simp[execOp,hx,hy,eqGuard,binOp,Op.intArith,wrap_in h]) k
theorem o_mul[Dfr](a b:Int)(hx:ev n ρ x=.int .i64 a)(hy:ev n ρ y=.int .i64 b)(h: -9223372036854775808<=a*b/\a*b<=9223372036854775807)
 (k:K (upd ρ d<|.int .i64<|a*b) w):OW P Q ⟨some d,.binOp .mul t x y u,ty,pos,af,none⟩ n ρ w K:=
 Q8 _ (by simp[execOp,hx,hy,eqGuard,binOp,Op.intArith,wrap_in h]) k
theorem o_len[Dfr](hu:P.underlying t=some (.slice e))(a:yOA)(m c:Nat)(hx:ev n ρ x=Sv a m c)
 (k:K (upd ρ d<|.int .i64 m) w):OW P Q ⟨some d,.call ⟨.builtin .len,#[x],#[t]⟩,ty,pos,af,none⟩ n ρ w K:=
 Q8 _ (by simp[execOp,resolve,invoke,builtin,Builtin.len_,hx,run_underlying hu,goInt]) k
end
def TI(P:Program)(t:TypeId)(z:Value)(size bytes:Nat):Prop:=(P.info? t).map (fun i=>(i.zero,i.size,i.bytes))=some (some z,size,bytes)
theorem TI.sizeOf{P:Program}{t:TypeId}{z:Value}{m fx :Nat}(h:TI P t z m fx)(w:World):(Go.sizeOf t).run P w=.ok m w:=by
 obtain⟨i,hi,_,h2,_⟩:=info_parts h
 simp[Go.sizeOf,typeInfo,hi,h2]
theorem TI.zero{P:Program}(h:TI P t z m fx)(w:World):(zeroValue t).run P w=.ok z w:=by
 obtain⟨i,hi,h1,_,_⟩:=info_parts h
 simp[zeroValue,typeInfo,hi,h1]
def jS(w:World)(F:yLN):Prop:=∀b∈F,∃cs t,w.heap[b]? =some (.cells cs t (0,0))
theorem jS.stay(h:jS w F)(hs:∀b∈F,w'.heap[b]? =w.heap[b]?):jS w' F:=fun b hb=>by rw[hs b hb];exact h b hb
theorem jS.sub(h:jS w F)(hs:∀b∈G,b∈F):jS w G:=fun b hb=>h b<|hs b hb
theorem jS.app(h:jS w F)(k:jS w G):jS w (F++G):=fun b hb=>by
 rcases List.mem_append.1 hb with h'|h'
 ·exact h b h'
 ·exact k b h'
theorem jS.nil(w:World):jS w []:=fun b hb=>by simp at hb
section
variable{α : Type}[qK α]
def isF(fr:Bool)(F:yLN)(v:Value)(x:α):Fact:=⟨F,fun w=>qK.rep w F [v] x/\(fr=true->jS w F),fun _ _ h hs=>⟨qK.stay h.1 hs,fun e=>(h.2 e).stay hs⟩⟩
def qQ(fr:Bool)(F:yLN)(xs:List Value)(l:List α):Fact:=⟨F,fun w=>reps w F xs l/\(fr=true->jS w F),fun _ _ h hs=>⟨reps_stay h.1 hs,fun e=>(h.2 e).stay hs⟩⟩
end
def atF(b off:Nat)(cs:List Value):Fact:=⟨[b],fun w=>jI w b off cs,fun _ _ h hs=>cellsAt_stay h<|hs b qm⟩
section
variable{P : Program}{fL : Array Oper}{Q : Exit -> Act -> World -> Prop}{n : Nat}{ρ : Env}{W0 w : World}{rest : List Oper}{ps : List Prv}{Γ : List Fact}
 {d:Nat} {ty:TypeId} {pos:String} {af:Array Edge} {K:Env->World->Prop}
theorem St.cell(H:St W0 w ps Γ)(i:Nat){b:Nat}{cs:List Value}{t:TypeId}(hp:ps[i]? =some (.box b cs t)){off:Nat}{v:Value}(hv:cs[off]? =some v):w.cell? ⟨b,off,none⟩=some v:=by
 have:=(H.has _<|List.mem_of_getElem? hp).2
 rw[World.cell?,this]
 simpa using hv
theorem St.zG(H:St W0 w ps Γ)(i:Nat)(hf:Γ[i]? =some (atF b off cs))(j:Nat)(hv:cs[j]? =some v):w.cell? ⟨b,off+j,none⟩=some v:=
 H.get i hf j v hv
theorem St.cells(H:St W0 w ps Γ)(i:Nat)(hp:ps[i]? =some (.box b cs t)):jI w b 0 cs:=by
 intro j v hv
 rw[Nat.zero_add]
 exact H.cell i hp hv
theorem qH(h:jI w b off cs)(j m:Nat):jI w b (off+j) ((cs.drop j).take m):=by
 intro i v hv
 rw[List.getElem?_take] at hv
 split at hv
 ·rw[List.getElem?_drop] at hv
  rw[Nat.add_assoc]
  exact h (j+i) v hv
 ·cases hv
theorem o_alloc[Dfr](H:St W0 w ps Γ)(ht:TI P t z m fx)
 (k:∀b w',St W0 w' (.box b z.cells.toList t::ps) Γ->K (upd ρ d<|.pointer<|some ⟨b,0,none⟩) w'):
 OW P Q ⟨some d,.alloc t,ty,pos,af,none⟩ n ρ w K:=
 Q8 (w':=w.alloc<|.cells z.cells t) _ (by simp[execOp,Instr.alloc,ht.zero,newVar,newRow]) (k _ _<|H.alloc _ _)
theorem o_box[Dfr](H:St W0 w ps Γ)(v:Value)(hx:ev n ρ x=v)
 (k:∀b w',St W0 w' (.box b v.cells.toList t::ps) Γ->K (upd ρ d<|.pointer<|some ⟨b,0,none⟩) w'):
 OW P Q ⟨some d,.box t x,ty,pos,af,none⟩ n ρ w K:=
 Q8 (w':=w.alloc<|.cells v.cells t) _ (by simp[execOp,Instr.box,hx,newVar,newRow]) (k _ _<|H.alloc _ _)
theorem run_load1(ha:∀w,(isAgg t).run P w=.ok false w)(hc:w.cell? ⟨b,off,none⟩=some v):
 (Instr.loadAt t<|.pointer<|some ⟨b,off,none⟩).run P w=.ok v w:=by
 simp[Instr.loadAt,Instr.sureAddr,loadVar,ha,hc]
theorem zJ[Dfr](v:Value)(ha:∀w,(isAgg t).run P w=.ok false w)(hx:ev n ρ x=.pointer (some ⟨b,off,none⟩))
 (hc:w.cell? ⟨b,off,none⟩=some v) (k:K (upd ρ d v) w):OW P Q ⟨some d,.load t x,ty,pos,af,none⟩ n ρ w K:=
 Q8 v (by simp[execOp,hx,run_load1 ha hc]) k
theorem run_loadN(ha:∀w,(isAgg t).run P w=.ok true w)(hs:∀w,(Go.sizeOf t).run P w=.ok cs.length w)
 (hc:jI w b off cs):(Instr.loadAt t<|.pointer<|some ⟨b,off,none⟩).run P w=.ok (.agg cs.toArray) w:=by
 have:=run_loadCells_list (P:=P) w ⟨b,off,none⟩ cs (fun j v hv=>by rw[Addr.add_mid];exact hc j v hv)
 simp[Instr.loadAt,Instr.sureAddr,loadVar,ha,hs,this]
theorem xW[Dfr](cs:List Value)(ha:∀w,(isAgg t).run P w=.ok true w)(hs:∀w,(Go.sizeOf t).run P w=.ok cs.length w)
 (hx:ev n ρ x=.pointer (some ⟨b,off,none⟩)) (hc:jI w b off cs) (k:K (upd ρ d<|.agg cs.toArray) w):
 OW P Q ⟨some d,.load t x,ty,pos,af,none⟩ n ρ w K:=
 Q8 _ (by simp[execOp,hx,run_loadN ha hs hc]) k
theorem o_field[Dfr]{fs:Array Field}{f:Field}(b off j:Nat)(hu:P.underlying t=some (.struct fs))(hf:fs[i]? =some f)(hj:f.offset=j)
 (hs:∀w,(Go.sizeOf f.type).run P w=.ok (m+1) w) (hx:ev n ρ x=.pointer (some ⟨b,off,none⟩)) (k:K (upd ρ d<|.pointer<|some ⟨b,off+j,none⟩) w):
 OW P Q ⟨some d,.fieldAddr t x i,ty,pos,af,none⟩ n ρ w K:=
 Q8 _ (by subst hj;simp[execOp,hx,Instr.fieldAt,Instr.sureAddr,fieldPlace,run_underlying hu,hf,hs,Addr.add_mid]) k
theorem St.setAll(H:St W0 w ps Γ)(i:Nat)(hp:ps[i]? =some (.box b cs t))(JW :List Value):
 St W0 (w.setRow b JW.toArray) (ps.set i<|.box b JW t) Γ:=by
 have hb:=H.has _<|List.mem_of_getElem? hp
 refine H.change i hp rfl rfl rfl (by simp[World.setRow]) (fun c _ hc=>?_) ⟨hb.1,?_⟩<|Or.inl rfl
 ·have pt:b≠c:=fun e=>hc (by simp[Prv.blk,e])
  simp[World.setRow,Array.getElem?_modify,pt]
 ·simp[World.setRow,Array.getElem?_modify,hb.2]
theorem o_store[Dfr](H:St W0 w ps Γ)(i:Nat)(hp:ps[i]? =some (.box b cs tb))(v:Value)
 (hs:∀w,(Go.sizeOf t).run P w=.ok v.cells.size w) (hx:ev n ρ x=.pointer (some ⟨b,off,none⟩)) (hy:ev n ρ y=v) (h1:∀u∈v.cells.toList,u.oneCell'=true) (ho:off+v.cells.size<=cs.length)
 (k:∀w',St W0 w' (ps.set i<|.box b (cs.take off++v.cells.toList++cs.drop (off+v.cells.size)) tb) Γ->K ρ w'):
 OW P Q ⟨none,.store t x y,ty,pos,af,none⟩ n ρ w K:=by
 have hb:=(H.has _<|List.mem_of_getElem? hp).2
 have hr:=run_storeCells_at P b off tb v.cells.toList 0 cs.toArray w hb (by simpa using ho) h1
 refine o_unit (w':=w.setRow b (cs.take off++v.cells.toList++cs.drop (off+v.cells.size)).toArray) ?_<|k _<|H.setAll i hp _
 simp only[Nat.add_zero,Array.length_toList] at hr
 simp[execOp,hx,hy,Instr.storeAt,Instr.sureAddr,storeVar,hs,hr]
theorem o_store1[Dfr](H:St W0 w ps Γ)(i:Nat)(hp:ps[i]? =some (.box b cs tb))(v:Value)
 (hs:∀w,(Go.sizeOf t).run P w=.ok 1 w) (hx:ev n ρ x=.pointer (some ⟨b,off,none⟩)) (hy:ev n ρ y=v) (h1:v.oneCell'=true) (ho:off<cs.length)
 (k:∀w',St W0 w' (ps.set i<|.box b (cs.set off v) tb) Γ->K ρ w'):
 OW P Q ⟨none,.store t x y,ty,pos,af,none⟩ n ρ w K:=by
 have hc:v.cells=#[v]:=by cases v <;> first|rfl|(simp[Value.oneCell'] at h1)
 refine o_store H i hp v (by simpa [hc] using hs) hx hy (by simp[hc,h1]) (by simp[hc];omega) ?_
 simp only[hc,List.size_toArray,List.length_cons,List.length_nil,Nat.zero_add]
 rw[show cs.take off++[v]++cs.drop (off+1)=cs.set off v by rw[List.set_eq_take_append_cons_drop,if_pos ho];simp]
 exact k
variable{α : Type}[qK α][Inhabited α]
theorem o_idxAt[Dfr](iv:Int)(hu:P.underlying t=some (.slice e))(he:TI P e z sz fx)
 (hx:ev n ρ x=Sv (some ⟨b,off,none⟩) m c) (hy:ev n ρ y=.int .i64 iv) (h0:0<=iv) (h1:iv<m)
 (k:K (upd ρ d<|.pointer<|some ⟨b,off+iv.toNat*sz,none⟩) w):OW P Q ⟨some d,.indexAddr t x y,ty,pos,af,none⟩ n ρ w K:=
 Q8 _ (by simp[execOp,hx,hy,Instr.indexAt,asIntOf,run_underlying hu,he.sizeOf,h0,h1,Addr.add_mid]) k
theorem o_call[Dfr]{xs:Array Operand}{f:FuncId}{R:Value->World->Prop}(args:Array Value)(hv:ev n ρ x=.func (.func f) fst oG)
 (mT:fst.toList++xs.toList.map (ev n ρ)++oG.toList=args.toList) (hf:∀args w,(callFunc f args).run P w=.ok (.enter f args) w)
 (hc:Calls P f args w fun e w'=>∃v,e=.returned v/\R v w' /\Ext w w') (k:∀v w',R v w' ->Ext w w' ->K (upd ρ d v) w'):
 OW P Q ⟨some d,.call ⟨.value x,xs,ts⟩,ty,pos,af,none⟩ n ρ w K:=by
 have hr:(execOp (ev n ρ) ⟨some d,.call ⟨.value x,xs,ts⟩,ty,pos,af,none⟩).run P w=.ok (.enter f args) w:=by
  have e:fst++xs.map (ev n ρ)++oG=args:=by apply Array.toList_inj.1;rw[←mT];simp
  simp[execOp,resolve,Deferred.ofValue,hv,invoke,hf,e]
 unfold OW
 intro K' hK
 unfold Oper.wp
 rw[XN,hr]
 refine hc.mono fun e w' ⟨v,he,hR,hE⟩=>?_
 subst he
 show K' ((mk n ρ).put (some d) v) w'
 rw[mk_put]
 exact hK _ _<|k v w' hR hE
theorem o_callV[Dfr]{xs:Array Operand}{f:FuncId}{R:Value->World->Prop}(as0:List Value)(hv:ev n ρ x=.func (.func f) #[] oG)
 (mT:xs.toList.map (ev n ρ)=as0) (hf:∀args w,(callFunc f args).run P w=.ok (.enter f args) w)
 (hc:Calls P f (as0++oG.toList).toArray w fun e w'=>∃v,e=.returned v/\R v w' /\Ext w w') (k:∀v w',R v w' ->Ext w w' ->K (upd ρ d v) w'):
 OW P Q ⟨some d,.call ⟨.value x,xs,ts⟩,ty,pos,af,none⟩ n ρ w K:=
 o_call _ hv (by rw[←mT];simp) hf hc k
end
def Ret(R:Value->World->Prop)(w:World)(e:Ending)(w':World):Prop:=∃v,e=.returned v/\R v w' /\Ext w w'
section
variable{α : Type}[qK α]
def OwnNew(w0 w:World)(e:TypeId)(v:Value)(l:List α):Prop:=
 ∃xs F,w.ownsRow w0.heap.size e (qK.size α) v l.length xs/\reps w F xs l/\(∀b∈F,w0.heap.size<=b)/\(∀b∈F,v.ownBlock≠some b)/\F.Nodup/\jS w F
end
theorem start_lt{α:Type}[qK α]{x:α}(h:qK.rep w F [v] x):∀b∈F,b<w.heap.size/\∀i,yQ [] i≠some b:=
 fun b hb=>⟨qK.lt h b hb,fun i=>by simp[yQ]⟩
theorem start_at(h:jI w b off (v::cs)):∀c∈[b],c<w.heap.size/\∀i,yQ [] i≠some c:=by
 intro c hc
 simp only[List.mem_singleton] at hc
 subst hc
 exact⟨World.block_lt_of_cell? w _<|h 0 v rfl,fun i=>by simp[yQ]⟩
theorem St.arg{α:Type}[qK α]{Γ:List Fact}{x:α}(H:St w w [] Γ)(h:qK.rep w F [v] x):St w w [] (isF false F v x::Γ):=H.add _ ⟨h,by simp⟩<|start_lt h
theorem St.argAt{Γ:List Fact}(H:St w w [] Γ)(h:jI w b off (v::cs)):St w w [] (atF b off (v::cs)::Γ):=H.add _ h<|start_at h
theorem ne_of_beq_false{α:Type}[BEq α][LawfulBEq α]{a b:α}(h:(a == b)=false):a≠b:=by simpa using h
theorem xK{α:Type}[BEq α][LawfulBEq α]{a b:α}(h:(a != b)=false):a=b:=by simpa using h
theorem xq{b:Bool}(h:(!b)=true):b=false:=by simpa using h
theorem xf{b:Bool}(h:(!b)=false):b=true:=by simpa using h
section
variable{W0 w w': World}{ps : List Prv}{Γ : List Fact}
end
section
variable{P : Program}{Q : Exit -> Act -> World -> Prop}{n : Nat}{ρ : Env}{W0 w : World}{ps : List Prv}{Γ : List Fact}
 {d:Nat} {ty:TypeId} {pos:String} {af:Array Edge} {K:Env->World->Prop}
theorem madeCells_one(z:Value)(n:Nat):(madeCells #[z] n).toList=List.replicate n z:=by
 apply List.ext_getElem
 ·simp[madeCells]
 ·intro i h1 h2
  simp[madeCells,Nat.mod_one]
theorem o_make1[Dfr](H:St W0 w ps Γ)(hu:P.underlying t=some (.slice e))(he:TI P e z 1 fx)(hz:z.cells=#[z])(nn:Nat)
 (hx:ev n ρ x=.int .i64 nn) (hy:ev n ρ y=.int .i64 nn) (hb:fx*nn<=281474976710656) (hm:nn<=9223372036854775807)
 (k:∀b w',St W0 w' (.box b (List.replicate nn z) e::ps) Γ->K (upd ρ d<|Sv (some ⟨b,0,none⟩) nn nn) w'):
 OW P Q ⟨some d,.makeSlice t x y,ty,pos,af,none⟩ n ρ w K:=by
 obtain⟨i,hi,h1,h2,h3⟩:=info_parts he
 have hr:=run_make (P:=P) (w:=w) t e i z hu hi h1 .i64 .i64 nn nn qf qf (by rw[h3];omega) qf
 refine Q8 (w':=w.alloc<|.cells (madeCells z.cells ((nn:Int).toNat*i.size)) e) _ (by simp[execOp,hx,hy,hr])<|k w.heap.size _ ?_
 have:=H.alloc (madeCells z.cells ((nn:Int).toNat*i.size)) e
 rw[hz,h2] at this
 rw[hz,h2]
 simpa [madeCells_one] using this
theorem jH[Dfr](H:St W0 w ps Γ)(hu:P.underlying t=some (.slice e))(he:TI P e z sz fx)
 (k:∀b w',St W0 w' (.box b [] e::ps) Γ->K (upd ρ d<|Sv (some ⟨b,0,none⟩) 0 0) w'):
 OW P Q ⟨some d,.buildSlice t 0 #[],ty,pos,af,none⟩ n ρ w K:=
 Q8 (w':=w.alloc<|.cells #[] e) _ (by simp[execOp,Instr.buildSlice,run_underlying hu,he.sizeOf,Instr.fill,newRow,Array.range_zero']) (k _ _<|H.alloc _ _)
theorem o_build1[Dfr](H:St W0 w ps Γ)(hu:P.underlying t=some (.slice e))(he:TI P e z sz fx)(h0:0<sz)(hs:sz<=16777216)(v:Value)
 (hx:ev n ρ x=v) (hv:v.cells.size=sz) (k:∀b w',St W0 w' (.box b v.cells.toList e::ps) Γ->K (upd ρ d<|Sv (some ⟨b,0,none⟩) 1 1) w'):
 OW P Q ⟨some d,.buildSlice t 1 #[(0,x)],ty,pos,af,none⟩ n ρ w K:=by
 obtain⟨i,hi,h1,h2,h3⟩:=info_parts he
 have hr:=run_buildSlice (P:=P) w t e 1 #[(0,v)] v.cells i z hu hi h1 (by rw[h2];omega) (by rw[h2];omega) (by
  have:=Great.fill_whole h0 [v] (madeCells z.cells<|1*sz) (by simpa using hv) (by simp[madeCells])
  rw[h2]
  simpa [madeCells] using this)
 exact Q8 (w':=w.alloc<|.cells v.cells e) _ (by simp[execOp,hx,hr])<|k _ _<|H.alloc _ _
theorem o_buildF[Dfr]{xs:Array (Nat×Operand)}(H:St W0 w ps Γ)(hu:P.underlying t=some (.slice e))(he:TI P e z 1 fx)(vs:List Value)
 (hx:xs.toList.map (fun p=>(p.1,ev n ρ p.2))=vs.zipIdx.map (fun p=>(p.2,p.1))) (hv:∀v∈vs,v.cells=#[v]) (hm:vs.length=m) (h0:0<m) (hs:m<=16777216)
 (k:∀b w',St W0 w' (.box b vs e::ps) Γ->K (upd ρ d<|Sv (some ⟨b,0,none⟩) m m) w'):
 OW P Q ⟨some d,.buildSlice t m xs,ty,pos,af,none⟩ n ρ w K:=by
 obtain⟨i,hi,h1,h2,h3⟩:=info_parts he
 have hr:=run_buildSlice (P:=P) w t e m (xs.map fun p=>(p.1,ev n ρ p.2)) vs.toArray i z hu hi h1 (by rw[h2];omega) (by rw[h2];omega) (by
  have:=Great.fill_flat vs (madeCells z.cells<|m*1) hv (by simp[madeCells,hm])
  rw[h2,Array.toList_map,hx]
  simpa [madeCells] using this)
 exact Q8 (w':=w.alloc<|.cells vs.toArray e) _ (by simp[execOp,hr])<|k _ _<|H.alloc _ _
end
section
variable{P : Program}{Q : Exit -> Act -> World -> Prop}{n : Nat}{ρ : Env}{W0 w : World}{ps : List Prv}{Γ : List Fact}
 {d:Nat} {ty:TypeId} {pos:String} {af:Array Edge} {K:Env->World->Prop}
theorem St.nilRow(H:St W0 w ps Γ)(e:TypeId)(sz:Nat):St W0 w (.row (Sv none 0 0) e sz 0 []::ps) Γ:=
 H.own (Below.refl _ _) _ (World.ownsRow_nil _ _ _ _) (by intro b hb;simp[Prv.blk,Value.ownBlock] at hb)
theorem St.turn(H:St W0 w ps Γ)(i:Nat){p p':Prv}(hp:ps[i]? =some p)(hok:p.ok W0.heap.size w->p'.ok W0.heap.size w)(hb:p'.blk=p.blk):St W0 w (ps.set i p') Γ:=
 H.change i hp rfl rfl rfl (Nat.le_refl _) (fun _ _ _=>rfl) (hok<|H.has _<|List.mem_of_getElem? hp) (Or.inl hb)
theorem St.boxRow(H:St W0 w ps Γ)(i:Nat)(hp:ps[i]? =some (.box b cs e))(sz nn:Nat)(hl:cs.length=nn*sz)(hm:nn<=maxLen):
 St W0 w (ps.set i<|.row (Sv (some ⟨b,0,none⟩) nn nn) e sz nn cs) Γ:=
 H.turn i hp (fun h=>⟨hl,Or.inr ⟨b,nn,cs.toArray,rfl,h.1,h.2,Nat.le_refl _,hm,by simpa using hl,by rw[←hl];simp⟩⟩) rfl
theorem o_append[Dfr]{s:Operand}(H:St W0 w ps Γ)(i:Nat)(hp:ps[i]? =some (.row v e sz nn xs))(j:Nat)(hq:ps[j]? =some (.box b cs tb))
 (hu:P.underlying t=some (.slice e)) (he:TI P e z sz fx) (wL:z.cells.size=sz) (h0:0<sz) (hs:ev n ρ s=v) (hx:ev n ρ x=Sv (some ⟨b,0,none⟩) m c) (hl:cs.length=m*sz)
 (h1:∀u∈cs,u.oneCell'=true) (hm:nn+m<=maxLen) (hb:(nn+m)*fx <=140737488355328)
 (k:∀v' w',St W0 w' (ps.set i<|.row v' e sz (nn+m)<|xs++cs) Γ->K (upd ρ d v') w'):
 OW P Q ⟨some d,.call ⟨.builtin .append,#[s,x],#[t,t]⟩,ty,pos,af,none⟩ n ρ w K:=by
 obtain⟨i',hi,S9,NI,SR⟩:=info_parts he
 have ff:w.ownsRow W0.heap.size e sz v nn xs:=H.has _<|List.mem_of_getElem? hp
 obtain⟨v',w',hr,ho,hg,_,hbl⟩:=run_append_own_at (P:=P) w W0.heap.size t ty e i' z sz fx hu hi S9 NI SR wL h0 v nn xs ff ⟨b,0,none⟩ m c cs hl
  (fun k' u hk=>by rw[Addr.add_mid];simpa using H.cells j hq k' u hk) h1 hm hb H.base.size
 refine Q8 v' (by simp[execOp,resolve,invoke,builtin,hs,hx,hr])<|k v' w'<|H.change i hp hg.os hg.tape hg.output hg.size (fun c hc pt=>hg.block c hc<|fun e'=>pt e'.symm) ho ?_
 rcases hbl with h|h
 ·exact Or.inl h
 ·exact Or.inr<|Or.inr ⟨_,h,Nat.le_refl _⟩
end
section
variable{P : Program}{Q : Exit -> Act -> World -> Prop}{n : Nat}{ρ : Env}{W0 w : World}{ps : List Prv}{Γ : List Fact}
 {d:Nat} {ty:TypeId} {pos:String} {af:Array Edge} {K:Env->World->Prop}
theorem run_append_none{i:TypeInfo}(hu:P.underlying t=some (.slice e))(hi:P.info? e=some i){b:yOA}{c':Nat}(hn:n<=c):
 (Builtin.append_ #[t,t] ty #[Sv b n c,Sv none 0 c']).run P w=.ok (Sv b n c) w:=by
 cases b <;> simp[Builtin.append_,run_underlying hu,sizeOf,typeInfo,hi,Builtin.lenOf,Builtin.firstCells,hn,loadCells,loadCellsFrom,storeCells]
theorem o_appendF[Dfr]{α:Type}[qK α]{s:Operand}{l:List α}(H:St W0 w ps Γ)(i:Nat)(hp:ps[i]? =some (.row v e (qK.size α) nn xs))
 (j:Nat) (hf:Γ[j]? =some (isF fr F (Sv a m c) l)) (hu:P.underlying t=some (.slice e)) (he:TI P e z (qK.size α) fx) (wL:z.cells.size=qK.size α) (h0:0<qK.size α) (hs:ev n ρ s=v)
 (hx:ev n ρ x=Sv a m c) (hm:nn+m<=maxLen) (hb:(nn+m)*fx <=140737488355328)
 (k:∀v' w' vs G,St W0 w' (ps.set i<|.row v' e (qK.size α) (nn+m)<|xs++vs) (qQ fr G vs l::Γ)->(∀b∈G,b∈F)->K (upd ρ d v') w'):
 OW P Q ⟨some d,.call ⟨.builtin .append,#[s,x],#[t,t]⟩,ty,pos,af,none⟩ n ρ w K:=by
 obtain⟨i',hi,S9,NI,SR⟩:=info_parts he
 have ff:w.ownsRow W0.heap.size e (qK.size α) v nn xs:=H.has _<|List.mem_of_getElem? hp
 obtain⟨⟨a',ib,hc,hl,h⟩,ep⟩:=H.get j hf
 simp only[List.cons.injEq,Value.slice.injEq,and_true] at hc
 obtain⟨rfl,rfl,rfl⟩:=hc
 have hfF:=(H.facts _<|List.mem_of_getElem? hf).2
 rcases a with _|⟨b,off,sp⟩
 ·rcases h with ⟨rfl,rfl⟩|⟨b,off,F',vs,ha,_⟩
  ·have hv:∃b0 c0,v=Sv b0 nn c0/\nn<=c0:=by
    rcases ff.2 with ⟨rfl,rfl⟩|⟨g,cap',ij,rfl,_,_,Uu,_⟩
    ·exact⟨none,0,rfl,Nat.le_refl _⟩
    ·exact⟨_,_,rfl,Uu⟩
   obtain⟨b0,c0,rfl,Uu⟩:=hv
   refine Q8 (Sv b0 nn c0) (by simp[execOp,resolve,invoke,builtin,hs,hx,run_append_none hu hi Uu])<|k _ w [] [] ?_ qm
   simp only[List.append_nil,List.length_nil,Nat.add_zero]
   have:ps.set i (.row (Sv b0 nn c0) e (qK.size α) nn xs)=ps:=by
    apply List.ext_getElem?
    intro j'
    by_cases hj:i=j'
    ·subst hj
     rw[hp]
     have BG :i<ps.length:=(List.getElem?_eq_some_iff.1 hp).1
     rw[List.getElem?_set_self BG]
    ·rw[List.getElem?_set_ne hj]
   rw[this]
   exact H.add _ ⟨⟨rfl,rfl⟩,fun _=>jS.nil _⟩<|by simp[qQ]
  ·cases ha
 ·rcases h with ⟨rfl,rfl⟩|⟨b',off',F',vs,ha,hF,hbl,hr,hcells⟩
  ·obtain⟨v',w',hr,ho,hg,_,hbl⟩:=run_append_own_at (P:=P) w W0.heap.size t ty e i' z _ fx hu hi S9 NI SR wL h0 v nn xs ff ⟨b,off,sp⟩ 0 c [] qm qm qm hm hb H.base.size
   refine Q8 v' (by simp[execOp,resolve,invoke,builtin,hs,hx,hr])<|k v' w' [] [] ?_ qm
   have H':=H.change (p':=.row v' e (qK.size α) (nn+0)<|xs++[]) i hp hg.os hg.tape hg.output hg.size (fun c hc pt=>hg.block c hc<|fun e'=>pt e'.symm) ho (by
    rcases hbl with h|h
    ·exact Or.inl h
    ·exact Or.inr<|Or.inr ⟨_,h,Nat.le_refl _⟩)
   exact H'.add _ ⟨⟨rfl,rfl⟩,fun _=>jS.nil _⟩<|by simp[qQ]
  ·simp only[Option.some.injEq,Addr.mk.injEq] at ha
   obtain⟨rfl,rfl,rfl⟩:=ha
   obtain⟨v',w',A6,ho,hg,_,av4⟩:=run_append_own_at (P:=P) w W0.heap.size t ty e i' z _ fx hu hi S9 NI SR wL h0 v nn xs ff ⟨b,off,none⟩ l.length c vs (reps_len hr)
    (fun k' u hk=>by rw[Addr.add_mid];exact hcells k' u hk) (reps_cells hr) hm hb H.base.size
   refine Q8 v' (by simp[execOp,resolve,invoke,builtin,hs,hx,A6])<|k v' w' vs F' ?_<|by rw[hF];exact fun b hb=>List.mem_cons_of_mem _ hb
   have H0:St W0 w ps (qQ fr F' vs l::Γ):=H.add _ ⟨hr,fun e=>(ep e).sub<|by rw[hF];exact fun b hb=>List.mem_cons_of_mem _ hb⟩ fun b hb=>hfF b<|by show b∈F;rw[hF];exact List.mem_cons_of_mem _ hb
   exact H0.change i hp hg.os hg.tape hg.output hg.size (fun c hc pt=>hg.block c hc<|fun e'=>pt e'.symm) ho (by
    rcases av4 with h|h
    ·exact Or.inl h
    ·exact Or.inr<|Or.inr ⟨_,h,Nat.le_refl _⟩)
theorem o_appendInts[Dfr]{s:Operand}(H:St W0 w ps Γ)(i:Nat)(hp:ps[i]? =some (.row v e 1 nn xs))
 (j:Nat) (hf:Γ[j]? =some (isF fr F (Sv a m c) l)) (hu:P.underlying t=some (.slice e)) (he:TI P e z 1 fx) (wL:z.cells.size=1) (hs:ev n ρ s=v)
 (hx:ev n ρ x=Sv a m c) (hm:nn+m<=maxLen) (hb:(nn+m)*fx <=140737488355328)
 (k:∀v' w',St W0 w' (ps.set i<|.row v' e 1 (nn+m)<|xs++l.map (Value.int .i64)) Γ->K (upd ρ d v') w'):
 OW P Q ⟨some d,.call ⟨.builtin .append,#[s,x],#[t,t]⟩,ty,pos,af,none⟩ n ρ w K:=
 o_appendF (α:=Int) H i hp j hf hu he wL qj hs hx hm hb fun v' w' vs G H' _=>by
  obtain⟨_,rfl⟩:=reps_ints (H'.get 0 rfl).1
  exact k v' w'<|H'.sub _ fun f hf=>List.mem_cons_of_mem _ hf
theorem run_eqB{P:Program}(hu:P.underlying t=some .bool)(a b:Bool)(w:World):(Op.equal t (Bv a)<|Bv b).run P w=.ok (a == b) w:=by
 have h:∀d:Nat,(Op.equalIn (d+1) t (Bv a)<|Bv b).run P w=.ok (a == b) w:=fun d=>by simp[Op.equalIn,run_underlying hu]
 simp[Op.equal,Op.maxDepth,h 9999]
theorem o_eqB[Dfr](hu:P.underlying t=some .bool)(a b:Bool)(hx:ev n ρ x=Bv a)(hy:ev n ρ y=Bv b)(k:K (upd ρ d<|Bv<|a == b) w):
 OW P Q ⟨some d,.binOp .eql t x y u,ty,pos,af,none⟩ n ρ w K:=
 Q8 _ (by simp[execOp,hx,hy,eqGuard,binOp,run_eqB hu]) k
theorem o_neB[Dfr](hu:P.underlying t=some .bool)(a b:Bool)(hx:ev n ρ x=Bv a)(hy:ev n ρ y=Bv b)(k:K (upd ρ d<|Bv<|a != b) w):
 OW P Q ⟨some d,.binOp .neq t x y u,ty,pos,af,none⟩ n ρ w K:=
 Q8 _ (by simp[execOp,hx,hy,eqGuard,binOp,run_eqB hu,bne]) k
theorem o_eqnil[Dfr](hu:P.underlying t=some (.slice e))(a:yOA)(m c:Nat)(hx:ev n ρ x=Sv a m c)(k:K (upd ρ d<|Bv a.isNone) w):
 OW P Q ⟨some d,.binOp .eql t x (.const<|Sv none 0 0) u,ty,pos,af,none⟩ n ρ w K:=
 Q8 _ (by
  have hc:ev n ρ (.const<|Sv none 0 0)=Sv none 0 0:=rfl
  simp[execOp,hx,hc,eqGuard,Lib.run_eql_slice_nil w t e a m c 0 0 hu]) k
end
section
variable{W0 w : World}{ps : List Prv}{Γ : List Fact}
theorem St.rowRep{α:Type}[qK α](H:St W0 w ps Γ)(i:Nat)(hp:ps[i]? =some (.row v e (qK.size α) nn xs)){l:List α}
 (h:reps w F xs l) (hn:nn=l.length) (hF:∀b∈F,W0.heap.size<=b):
 ∃a c G,v=Sv a l.length c/\qK.rep w G [v] l/\∀b∈G,W0.heap.size<=b:=by
 subst hn
 obtain⟨hl,ho⟩:=(H.has _ (List.mem_of_getElem? hp):w.ownsRow W0.heap.size e (qK.size α) v l.length xs)
 rcases ho with ⟨rfl,h0⟩|⟨g,ib,ij,rfl,hb,hg,Uu,hcm,Ka,htake⟩
 ·have:l=[]:=List.eq_nil_of_length_eq_zero h0
  subst this
  exact⟨none,0,[],rfl,⟨none,0,rfl,by simp,Or.inl ⟨rfl,rfl⟩⟩,by simp⟩
 ·refine⟨_,ib,(if l=[] then [] else g::F),rfl,⟨some ⟨g,0,none⟩,ib,rfl,by unfold maxLen at hcm;omega,?_⟩,?_⟩
  ·by_cases h0:l=[]
   ·exact Or.inl ⟨h0,by simp[h0]⟩
   ·refine Or.inr ⟨g,0,F,xs,rfl,by simp[h0],(Array.getElem?_eq_some_iff.1 hg).1,h,?_⟩
    intro j u hj
    rw[Nat.zero_add,World.cell?,hg]
    rw[←htake,List.getElem?_take] at hj
    split at hj
    ·simpa using hj
    ·cases hj
  ·intro b hbm
   split at hbm
   ·simp at hbm
   ·rcases List.mem_cons.1 hbm with rfl|hbm
    ·exact hb
    ·exact hF b hbm
theorem St.rowInts(H:St W0 w ps Γ)(i:Nat)(hp:ps[i]? =some (.row v e 1 nn<|l.map<|Value.int .i64))(hn:nn=l.length):
 ∃a c G,v=Sv a l.length c/\qK.rep w G [v] l/\∀b∈G,W0.heap.size<=b:=
 H.rowRep (α:=Int) i hp (reps_of_ints w l) hn qm
theorem St.newInts(H:St W0 w ps Γ)(i:Nat)(hp:ps[i]? =some (.row v e 1 nn<|l.map<|Value.int .i64))(hn:nn=l.length):OwnNew W0 w e v l:=by
 subst hn
 exact⟨_,[],H.has _<|List.mem_of_getElem? hp,reps_of_ints w l,by simp,by simp,by simp,jS.nil _⟩
theorem St.newRow{α:Type}[qK α](H:St W0 w ps Γ)(i:Nat)(hp:ps[i]? =some (.row v e (qK.size α) nn xs))(j:Nat){l:List α}
 (hf:Γ[j]? =some (qQ true F xs l)) (hn:nn=l.length) (hF:∀b∈F,W0.heap.size<=b) (hd:F.Nodup):OwnNew W0 w e v l:=by
 subst hn
 refine⟨_,F,H.has _<|List.mem_of_getElem? hp,(H.get j hf).1,hF,fun b hb he=>((H.facts _<|List.mem_of_getElem? hf).2 b hb).2 i ?_,hd,(H.get j hf).2 rfl⟩
 simpa [yQ,hp,Prv.blk] using he
theorem St.addr{α:Type}[qK α](H:St W0 w ps Γ)(i:Nat){l:List α}(hf:Γ[i]? =some (isF fr F (Sv a m c) l))(hl:0<l.length):∃b o,a=some ⟨b,o,none⟩:=by
 obtain⟨⟨a',ib,hc,_,h⟩,_⟩:=H.get i hf
 simp only[List.cons.injEq,Value.slice.injEq,and_true] at hc
 obtain⟨rfl,rfl,rfl⟩:=hc
 rcases h with ⟨rfl,_⟩|⟨b,off,F',vs,rfl,_⟩
 ·simp at hl
 ·exact⟨b,off,rfl⟩
theorem St.elem{α:Type}[qK α][Inhabited α](H:St W0 w ps Γ)(i:Nat){l:List α}(hf:Γ[i]? =some (isF fr F (Sv (some ⟨b,o,none⟩) m c) l))(iv:Int)(h0:0<=iv)(h1:iv<l.length):
 ∃cs Fk,jI w b (o+iv.toNat*qK.size α) cs/\qK.rep w Fk cs (l[iv.toNat]!)/\∀x∈b::Fk,x∈F:=by
 obtain⟨⟨a',ib,hc,hl,h⟩,_⟩:=H.get i hf
 simp only[List.cons.injEq,Value.slice.injEq,and_true] at hc
 obtain⟨rfl,rfl,rfl⟩:=hc
 have hk:iv.toNat<l.length:=by omega
 rcases h with ⟨rfl,_⟩|⟨b',off,F',vs,ha,hF,hb,hr,hcells⟩
 ·simp at hk
 ·simp only[Option.some.injEq,Addr.mk.injEq,and_true] at ha
  obtain⟨rfl,rfl⟩:=ha
  obtain⟨F1,Fk,F2,v1,cs,v2,dl,EO,DZ,Ka,aa2,_,_⟩:=reps_get hr _ hk
  refine⟨cs,Fk,?_,by rw[getElem!_pos l iv.toNat hk];exact aa2,?_⟩
  ·rw[EO] at hcells
   rw[←DZ]
   exact cells_mid hcells
  ·intro x hx
   rw[hF,dl]
   rcases List.mem_cons.1 hx with rfl|hx
   ·exact List.mem_cons_self ..
   ·exact List.mem_cons_of_mem _<|List.mem_append_left _<|List.mem_append_right _ hx
theorem St.elemInt(H:St W0 w ps Γ)(i:Nat)(hf:Γ[i]? =some (isF fr F (Sv (some ⟨b,o,none⟩) m c) l))(iv:Int)(h0:0<=iv)(h1:iv<l.length):
 w.cell? ⟨b,o+iv.toNat*1,none⟩=some (.int .i64<|l[iv.toNat]!):=by
 obtain⟨cs,Fk,h2,h3,_⟩:=H.elem i hf iv h0 h1
 obtain⟨_,rfl⟩:Fk=[]/\cs=[.int .i64 (l[iv.toNat]!)]:=h3
 exact h2 0 _ rfl
theorem St.elemBool(H:St W0 w ps Γ)(i:Nat){l:List Bool}(hf:Γ[i]? =some (isF fr F (Sv (some ⟨b,o,none⟩) m c) l))(iv:Int)(h0:0<=iv)(h1:iv<l.length):
 w.cell? ⟨b,o+iv.toNat*1,none⟩=some (Bv<|l[iv.toNat]!):=by
 obtain⟨cs,Fk,h2,h3,_⟩:=H.elem i hf iv h0 h1
 obtain⟨_,rfl⟩:Fk=[]/\cs=[Bv (l[iv.toNat]!)]:=h3
 exact h2 0 _ rfl
theorem St.sel(H:St W0 w ps Γ)(ph :List Prv)(hps:ph.Sublist ps)(Γ':List Fact)(hΓ:∀f∈Γ',f∈Γ):St W0 w ph Γ':=by
 have aiv:ps.Pairwise fun p q=>∀b,p.blk=some b->q.blk≠some b:=by
  rw[List.pairwise_iff_getElem]
  intro i j hi hj hij b h1 h2
  have:=H.dist i j b (by simp[yQ,hi,h1])<|by simp[yQ,hj,h2]
  omega
 have Et :=aiv.sublist hps
 refine⟨H.base,fun p hp=>H.has p<|hps.subset hp,?_,fun f hf=>⟨(H.facts f<|hΓ f hf).1,fun b hb=>⟨((H.facts f<|hΓ f hf).2 b hb).1,fun i hi=>?_⟩⟩⟩
 ·intro i j b hi hj
  unfold yQ at hi hj
  rw[List.pairwise_iff_getElem] at Et
  cases h1:ph[i]? with
  |none=>simp[h1] at hi
  |some p=>
   cases h2:ph[j]? with
   |none=>simp[h2] at hj
   |some q=>
    obtain⟨BG,e1⟩:=List.getElem?_eq_some_iff.1 h1
    obtain⟨SJ,e2⟩:=List.getElem?_eq_some_iff.1 h2
    simp only[h1,Option.bind_some] at hi
    simp only[h2,Option.bind_some] at hj
    rcases Nat.lt_trichotomy i j with h|h|h
    ·exact absurd (by rw[e2];exact hj)<|Et i j BG SJ h b<|by rw[e1];exact hi
    ·exact h
    ·exact absurd (by rw[e1];exact hi)<|Et j i SJ BG h b<|by rw[e2];exact hj
 ·unfold yQ at hi
  cases h1:ph[i]? with
  |none=>simp[h1] at hi
  |some p=>
   simp only[h1,Option.bind_some] at hi
   obtain⟨j,hj⟩:=List.getElem?_of_mem<|hps.subset<|List.mem_of_getElem? h1
   exact((H.facts f<|hΓ f hf).2 b hb).2 j<|by simp[yQ,hj,hi]
end
section
variable{W0 w w': World}{ps : List Prv}{Γ : List Fact}
theorem ownsRow_up{B':Nat}(h:w.ownsRow B e sz v n xs)(hb:B' <=B):w.ownsRow B' e sz v n xs:=by
 refine⟨h.1,?_⟩
 rcases h.2 with h|⟨g,ib,ij,h1,h2,r⟩
 ·exact Or.inl h
 ·exact Or.inr ⟨g,ib,ij,h1,Nat.le_trans hb h2,r⟩
theorem St.zV(H:St W0 w ps Γ)(e:Ext w w')(h:OwnNew w w' t v l):
 St W0 w' (.row v t 1 l.length (l.map<|Value.int .i64)::ps) Γ:=by
 obtain⟨xs,F,ho,hr,hF,_⟩:=h
 obtain⟨_,rfl⟩:=reps_ints hr
 exact H.own e (.row v t _ l.length _) (ownsRow_up ho H.base.size) fun b hb=>(World.ownsRow.lt ho b hb).1
end
section
variable{W0 w : World}{ps : List Prv}{Γ : List Fact}
theorem St.yD{α:Type}[qK α](H:St W0 w ps Γ):St W0 w ps (qQ true [] [] ([]:List α)::Γ):=H.add _ ⟨⟨rfl,rfl⟩,fun _=>jS.nil _⟩<|by simp[qQ]
theorem St.Q5{α:Type}[qK α](H:St W0 w ps Γ)(i:Nat){l:List α}(hf:Γ[i]? =some (qQ fr F xs l))(j:Nat){x:α}(hg:Γ[j]? =some (isF fr G v x)):
 St W0 w ps (qQ fr (F++G) (xs++[v]) (l++[x])::Γ):=by
 refine H.add _ ⟨yU (H.get i hf).1<|reps_one (H.get j hg).1,fun e=>((H.get i hf).2 e).app ((H.get j hg).2 e)⟩ fun b hb=>?_
 rcases List.mem_append.1 hb with h|h
 ·exact(H.facts _<|List.mem_of_getElem? hf).2 b h
 ·exact(H.facts _<|List.mem_of_getElem? hg).2 b h
end
theorem ownNew_nil{α:Type}[qK α](w0 w:World)(e:TypeId):OwnNew w0 w e (Sv none 0 0) ([]:List α):=
 ⟨[],[],World.ownsRow_nil _ _ _ _,⟨rfl,rfl⟩,by simp,by simp,by simp,jS.nil _⟩
theorem St.nilOf{α:Type}[qK α]{ps:List Prv}{Γ:List Fact}(H:St W0 w ps Γ)(i:Nat){l:List α}(hf:Γ[i]? =some (isF fr F (Sv a m c) l))(ha:a.isNone=true):l=[]:=by
 obtain⟨⟨a',ib,hc,_,h⟩,_⟩:=H.get i hf
 simp only[List.cons.injEq,Value.slice.injEq,and_true] at hc
 obtain⟨rfl,rfl,rfl⟩:=hc
 rcases h with ⟨rfl,_⟩|⟨b,off,F',vs,rfl,_⟩
 ·rfl
 ·simp at ha
section
variable{P : Program}{n : Nat}{ρ : Env}{W0 w : World}{ps : List Prv}{Γ : List Fact}
theorem retC{fn:Func}{R:Ending->World->Prop}{t:Nat}(H:St W0 w ps Γ)(i:Nat)(hp:ps[i]? =some (.box b cs tb))(hr:fn.results=#[.cell t T])
 (ha:∀w,(isAgg T).run P w=.ok true w) (hs:∀w,(Go.sizeOf T).run P w=.ok cs.length w) (hv:ev n ρ (.tmp t)=.pointer (some ⟨b,0,none⟩)) (h:R (.returned<|.agg cs.toArray) w):bodyPost P fn R .ret (mk n ρ) w:=by
 have hl:=run_loadCells_list (P:=P) w ⟨b,0,none⟩ cs (fun j v hv=>by rw[Addr.add_mid];exact H.cells i hp j v hv)
 have e:=congrFun (XN n ρ)<|.tmp t
 simp only[Act.eval,Array.getD_eq_getD_getElem?] at e
 rw[hv] at e
 exact bodyPost_ret (v:=.agg cs.toArray) (by simp[results,hr,e,asAddr,loadVar,ha,hs,hl]) rfl h
end
section
variable{P : Program}{Q : Exit -> Act -> World -> Prop}{n : Nat}{ρ : Env}{w : World}{S : World -> Prop}{l : List Oper}{fuel : Nat}{ae : Array Bool}
@[irreducible] def RW[Dfr](P : Program)(l : List Oper)(Q : Exit -> Act -> World -> Prop)(S : World -> Prop)(n fuel : Nat)(ae : Array Bool)(ρ : Env)(w : World) : Prop :=
 wpAnyH P .any l.toArray Q S fuel ae (mk n ρ) w
theorem c_draw[Dfr](S:World->Prop)(hm:P.follows .mixedOrders=true)(hS:S w.drew)(h:RW P l Q S n l.toArray.size (Array.replicate l.toArray.size false) ρ w.drew):
 (Code.region id l.toArray true).wp P Q (mk n ρ) w:=
 wp_region_held_drew hm hS fun _=>by unfold RW at h;exact h
theorem r_take[Dfr]{op:Op}{pos:String}{af:Array Edge}(i:Nat)(v:Value)(hi:l.toArray[i]? =some ⟨some d,op,ty,pos,af,none⟩)(Ze:Region.noSelect l.toArray=true)
 (OO:Region.free .any l.toArray ae i=true) (Ee:(Region.ready .any l.toArray ae).contains i=true) (hQ:∀c a w,Q (.panic c) (a.put (some d) v) w->Q (.panic c) a w)
 (hy:∀w',S w' ->(execOp (ev n ρ) ⟨some d,op,ty,pos,af,none⟩).run P w'=.ok (.value v) w') (hS:S w) (h:RW P l Q S n fuel (ae.setIfInBounds i true) (upd ρ d v) w):
 RW P l Q S n (fuel+1) ae ρ w:=by
 unfold RW at h ⊢
 refine wpAnyH_take hi Ze OO Ee hQ (Or.inl ⟨rfl,fun w' hw'=>by rw[XN];exact hy w' hw'⟩) hS ?_
 show wpAnyH P .any l.toArray Q S fuel _ ((mk n ρ).put (some d) v) w
 rw[mk_put]
 exact h
theorem r_takeG[Dfr]{e:Nat}{b:Bool}{op:Op}{pos:String}{af:Array Edge}(i:Nat)(v:Value)(hi:l.toArray[i]? =some ⟨some d,op,ty,pos,af,some (j,b)⟩)(Ze:Region.noSelect l.toArray=true)
 (OO:Region.free .any l.toArray ae i=true) (Ee:(Region.ready .any l.toArray ae).contains i=true) (hQ:∀c a w,Q (.panic c) (a.put (some d) v) w->Q (.panic c) a w)
 (hd:dstAt l j=some e) (hv:ev n ρ (.tmp e)=Bv b)
 (hy:∀w',S w' ->(execOp (ev n ρ) ⟨some d,op,ty,pos,af,some (j,b)⟩).run P w'=.ok (.value v) w') (hS:S w) (h:RW P l Q S n fuel (ae.setIfInBounds i true) (upd ρ d v) w):
 RW P l Q S n (fuel+1) ae ρ w:=by
 unfold RW at h ⊢
 refine wpAnyH_take hi Ze OO Ee hQ (Or.inl ⟨by simp[Region.wanted,yielded_of ((dstAt_eq l j).trans hd) hv],fun w' hw'=>by rw[XN];exact hy w' hw'⟩) hS ?_
 show wpAnyH P .any l.toArray Q S fuel _ ((mk n ρ).put (some d) v) w
 rw[mk_put]
 exact h
theorem xy[Dfr](hr:Region.ready .any l.toArray ae=[])(h:Q .normal (mk n ρ) w):RW P l Q S n fuel ae ρ w:=by
 unfold RW
 exact wpAnyH_done hr h fuel
theorem jC[Dfr](rs:yLN)(hr:Region.ready .any l.toArray ae=rs)(pt:rs≠[])(h:AllReadyH P .any l.toArray Q S fuel ae (mk n ρ) w rs):RW P l Q S n (fuel+1) ae ρ w:=by
 unfold RW
 exact wpAnyH_ready hr pt h
theorem yV[Dfr]{op:Op}{pos:String}{af:Array Edge}(hi:l.toArray[i]? =some ⟨dst,op,ty,pos,af,none⟩)
 (h:OW P Q ⟨dst,op,ty,pos,af,none⟩ n ρ w fun ρ w=>S w/\RW P l Q S n fuel (ae.setIfInBounds i true) ρ w) (hs:AllReadyH P .any l.toArray Q S fuel ae (mk n ρ) w rs):
 AllReadyH P .any l.toArray Q S fuel ae (mk n ρ) w (i::rs):=by
 refine AllReadyH.cons hi (fun K' hK=>?_) hs
 unfold OW at h
 rw[if_pos<|by rfl]
 refine h K' fun ρ' w' ⟨h1,h2⟩=>hK.out _ _ h1 fun _=>?_
 unfold RW at h2
 exact h2
theorem Xj[Dfr]{op:Op}{pos:String}{af:Array Edge}{e:Nat}{b:Bool}(hi:l.toArray[i]? =some ⟨dst,op,ty,pos,af,some (j,b)⟩)
 (hd:dstAt l j=some e) (hv:ev n ρ (.tmp e)=Bv b)
 (h:OW P Q ⟨dst,op,ty,pos,af,none⟩ n ρ w fun ρ w=>S w/\RW P l Q S n fuel (ae.setIfInBounds i true) ρ w) (hs:AllReadyH P .any l.toArray Q S fuel ae (mk n ρ) w rs):
 AllReadyH P .any l.toArray Q S fuel ae (mk n ρ) w (i::rs):=by
 refine AllReadyH.cons hi (fun K' hK=>?_) hs
 unfold OW at h
 rw[if_pos<|by simp[Region.wanted,yielded_of ((dstAt_eq l j).trans hd) hv]]
 have:=h K' fun ρ' w' ⟨h1,h2⟩=>hK.out _ _ h1 fun _=>(by unfold RW at h2;exact h2)
 exact this
section
variable{d : Nat}{ty : TypeId}{pos : String}{af : Array Edge}{gd : Option (Nat × Bool)}
theorem y_pure{op:Op}(h:pv (ev n ρ) op=some v):∀w',S w' ->(execOp (ev n ρ) ⟨some d,op,ty,pos,af,gd⟩).run P w'=.ok (.value v) w':=
 fun w' _=>pv_run (by exact h) w'
theorem y_add(a b:Int)(hx:ev n ρ x=.int .i64 a)(hy:ev n ρ y=.int .i64 b)(h: -9223372036854775808<=a+b/\a+b<=9223372036854775807):
 ∀w',S w' ->(execOp (ev n ρ) ⟨some d,.binOp .add t x y u,ty,pos,af,gd⟩).run P w'=.ok (.value<|.int .i64<|a+b) w':=
 fun w' _=>by simp[execOp,hx,hy,eqGuard,binOp,Op.intArith,wrap_in h]
theorem y_sub(a b:Int)(hx:ev n ρ x=.int .i64 a)(hy:ev n ρ y=.int .i64 b)(h: -9223372036854775808<=a-b/\a-b<=9223372036854775807):
 ∀w',S w' ->(execOp (ev n ρ) ⟨some d,.binOp .sub t x y u,ty,pos,af,gd⟩).run P w'=.ok (.value<|.int .i64<|a-b) w':=
 fun w' _=>by simp[execOp,hx,hy,eqGuard,binOp,Op.intArith,wrap_in h]
theorem y_mul(a b:Int)(hx:ev n ρ x=.int .i64 a)(hy:ev n ρ y=.int .i64 b)(h: -9223372036854775808<=a*b/\a*b<=9223372036854775807):
 ∀w',S w' ->(execOp (ev n ρ) ⟨some d,.binOp .mul t x y u,ty,pos,af,gd⟩).run P w'=.ok (.value<|.int .i64<|a*b) w':=
 fun w' _=>by simp[execOp,hx,hy,eqGuard,binOp,Op.intArith,wrap_in h]
theorem y_neB(hu:P.underlying t=some .bool)(a b:Bool)(hx:ev n ρ x=Bv a)(hy:ev n ρ y=Bv b):
 ∀w',S w' ->(execOp (ev n ρ) ⟨some d,.binOp .neq t x y u,ty,pos,af,gd⟩).run P w'=.ok (.value<|Bv<|a != b) w':=
 fun w' _=>by simp[execOp,hx,hy,eqGuard,binOp,run_eqB hu,bne]
theorem y_len(hu:P.underlying t=some (.slice e))(a:yOA)(m c:Nat)(hx:ev n ρ x=Sv a m c):
 ∀w',S w' ->(execOp (ev n ρ) ⟨some d,.call ⟨.builtin .len,#[x],#[t]⟩,ty,pos,af,gd⟩).run P w'=.ok (.value<|.int .i64 m) w':=
 fun w' _=>by simp[execOp,resolve,invoke,builtin,Builtin.len_,hx,run_underlying hu,goInt]
theorem y_field{fs:Array Field}{f:Field}(b off j:Nat)(hu:P.underlying t=some (.struct fs))(hf:fs[i]? =some f)(hj:f.offset=j)
 (hs:∀w,(Go.sizeOf f.type).run P w=.ok (m+1) w) (hx:ev n ρ x=.pointer (some ⟨b,off,none⟩)):
 ∀w',S w' ->(execOp (ev n ρ) ⟨some d,.fieldAddr t x i,ty,pos,af,gd⟩).run P w'=.ok (.value<|.pointer<|some ⟨b,off+j,none⟩) w':=
 fun w' _=>by subst hj;simp[execOp,hx,Instr.fieldAt,Instr.sureAddr,fieldPlace,run_underlying hu,hf,hs,Addr.add_mid]
theorem y_idxAt(b off m c:Nat)(iv:Int)(hu:P.underlying t=some (.slice e))(he:TI P e z sz fx)
 (hx:ev n ρ x=Sv (some ⟨b,off,none⟩) m c) (hy:ev n ρ y=.int .i64 iv) (h0:0<=iv) (h1:iv<m):
 ∀w',S w' ->(execOp (ev n ρ) ⟨some d,.indexAddr t x y,ty,pos,af,gd⟩).run P w'=.ok (.value<|.pointer<|some ⟨b,off+iv.toNat*sz,none⟩) w':=
 fun w' _=>by simp[execOp,hx,hy,Instr.indexAt,asIntOf,run_underlying hu,he.sizeOf,h0,h1,Addr.add_mid]
theorem jU(ha:∀w,(isAgg t).run P w=.ok false w)(hx:ev n ρ x=.pointer (some ⟨b,off,none⟩))
 (hc:∀w',S w' ->w'.cell? ⟨b,off,none⟩=some v):∀w',S w' ->(execOp (ev n ρ) ⟨some d,.load t x,ty,pos,af,gd⟩).run P w'=.ok (.value v) w':=
 fun w' h=>by simp[execOp,hx,run_load1 ha<|hc w' h]
theorem Qg(ha:∀w,(isAgg t).run P w=.ok true w)(hs:∀w,(Go.sizeOf t).run P w=.ok cs.length w)
 (hx:ev n ρ x=.pointer (some ⟨b,off,none⟩)) (hc:∀w',S w' ->jI w' b off cs):∀w',S w' ->(execOp (ev n ρ) ⟨some d,.load t x,ty,pos,af,gd⟩).run P w'=.ok (.value<|.agg cs.toArray) w':=
 fun w' h=>by simp[execOp,hx,run_loadN ha hs<|hc w' h]
end
theorem jD[Dfr]:AllReadyH P .any l.toArray Q S fuel ae (mk n ρ) w []:=AllReadyH.nil
end
end
variable{f g:Fact}{ps ph:List Prv}{Γ Γ':List Fact}{ρ:Env}
section
def inR(n lo hi:Int):Bool:=decide (lo<=n) && decide (n<=hi)
theorem inR_no{n:Int}(h:¬lo<=n):inR n lo hi=false:=by simp[inR,h]
theorem inR_yes{n:Int}(h:lo<=n):inR n lo hi=decide (n<=hi):=by simp[inR,h]
theorem QM{n:Int}:inR n lo hi=true<->lo<=n/\n<=hi:=by simp[inR]
theorem QZ{n:Int}(h:inR n lo hi=false):¬(lo<=n/\n<=hi):=fun h'=>by rw[QM.2 h'] at h;cases h
def withinTo(l m:yLI)(j:Nat):Prop:=∀k,k<j->l[k]! <=m[k]!
theorem withinTo_zero(l m:yLI):withinTo l m 0:=fun k hk=>by omega
theorem withinTo_succ{m:yLI}(h:withinTo l m k)(h1:l[k]! <=m[k]!):withinTo l m (k+1):=fun j hj=>by
 by_cases hjk:j=k
 ·subst hjk;exact h1
 ·exact h j qf
open Classical in
noncomputable def within(l m:yLI):Bool:=decide<|withinTo l m l.length
theorem within_iff{m:yLI}:within l m=true<->withinTo l m l.length:=by simp[within]
theorem within_no{m:yLI}(h:l[k]!>m[k]!)(hk:k<l.length):within l m=false:=by
 cases hw:within l m with
 |false=>rfl
 |true=>have:=within_iff.1 hw k hk;omega
theorem within_yes{m:yLI}(h:withinTo l m k)(hk:l.length<=k):within l m=true:=within_iff.2 fun j hj=>h j qf
theorem eqTo_succ{α:Type}[Inhabited α]{l m:List α}(hl:l.length=m.length)(hk:k<l.length)(h:l.take k=m.take k)(h1:l[k]! =m[k]!):l.take (k+1)=m.take (k+1):=by
 rw[List.take_succ_eq_append_getElem hk,List.take_succ_eq_append_getElem qf,h]
 rw[getElem!_pos l k hk,getElem!_pos m k qf] at h1
 rw[h1]
theorem XK{α:Type}{l m:List α}(hl:l.length=m.length)(hk:l.length<=k)(h:l.take k=m.take k):l=m:=by
 rwa [List.take_of_length_le hk,List.take_of_length_le qf] at h
theorem Vk{α:Type}[Inhabited α]{l m:List α}(h:l[k]! ≠m[k]!):l≠m:=fun e=>h<|by rw[e]
theorem take_snoc{α:Type}[Inhabited α]{l:List α}(hk:k<l.length):l.take k++[l[k]!]=l.take (k+1):=by
 rw[List.take_succ_eq_append_getElem hk,getElem!_pos l k hk]
def Small(l:yLI):Prop:=l.length<=1000000/\∀k,k<l.length-> -1000000000<=l[k]! /\l[k]! <=1000000000
def Mid(l:yLI):Prop:=l.length<=1000000/\∀k,k<l.length-> -1000000000000000<=l[k]! /\l[k]! <=1000000000000000
theorem Small.mid(h:Small l):Mid l:=⟨h.1,fun k hk=>by have:=h.2 k hk;omega⟩
def sumTo(l:yLI):Nat->Int
 |0=>0
 |k+1=>sumTo l k+l[k]!
def VN(l:yLI):Int:=sumTo l l.length
theorem sumTo_bd{l:yLI}(h:Small l):∀k,k<=l.length-> -(1000000000*(k:Int))<=sumTo l k/\sumTo l k<=1000000000*(k:Int)
 |0,_=>by simp[sumTo]
 |k+1,hk=>by
  have h1:=sumTo_bd h k qf
  have h2:=h.2 k qf
  simp only[sumTo]
  omega
theorem sumTo_small(h:Small l)(hk:k<=l.length): -1000000000000000<=sumTo l k/\sumTo l k<=1000000000000000:=by
 have h1:=sumTo_bd h k hk
 have h2:=h.1
 omega
def firstIdx(g:Nat->Bool)(n:Nat):Int:=match (List.range n).find? g with|some k=>k|none=> -1
theorem firstIdx_some{g:Nat->Bool}(hk:k<n)(h:∀j,j<k->g j=false)(h1:g k=true):firstIdx g n=k:=by
 have:(List.range n).find? g=some k:=by
  rw[List.find?_range_eq_some]
  exact⟨h1,by simpa using hk,fun j hj=>by simp[h j hj]⟩
 simp[firstIdx,this]
theorem firstIdx_none{g:Nat->Bool}(h:∀j,j<n->g j=false):firstIdx g n= -1:=by
 have:(List.range n).find? g=none:=by
  rw[List.find?_range_eq_none]
  exact fun j hj=>by simp[h j hj]
 simp[firstIdx,this]
def noneTo(g:Nat->Bool)(k:Nat):Prop:=∀j,j<k->g j=false
theorem noneTo_succ{g:Nat->Bool}(h:noneTo g k)(h1:g k=false):noneTo g (k+1):=fun j hj=>by
 by_cases hjk:j=k
 ·subst hjk;exact h1
 ·exact h j qf
open Classical in
noncomputable def anyTo(g:Nat->Bool)(n:Nat):Bool:=decide (∃k,k<n/\g k=true)
theorem anyTo_first(g:Nat->Bool)(n:Nat):decide (firstIdx g n>=0)=anyTo g n:=by
 by_cases h:∃k,k<n/\g k=true
 ·have hs:((List.range n).find? g).isSome:=by
   rw[List.find?_isSome]
   obtain⟨k,h1,h2⟩:=h
   exact⟨k,by simpa using h1,h2⟩
  obtain⟨k,hk⟩:=Option.isSome_iff_exists.1 hs
  simp[firstIdx,hk,anyTo,h]
 ·have:(List.range n).find? g=none:=by
   rw[List.find?_range_eq_none]
   intro j hj
   cases hg:g j with
   |false=>rfl
   |true=>exact absurd ⟨j,hj,hg⟩ h
  simp[firstIdx,this,anyTo,h]
theorem anyTo_iff{g:Nat->Bool}:anyTo g n=true<->∃k,k<n/\g k=true:=by simp[anyTo]
theorem anyTo_false{g:Nat->Bool}:anyTo g n=false<->noneTo g n:=by
 rw[←Bool.not_eq_true,anyTo_iff]
 constructor
 ·intro h j hj
  cases hg:g j with
  |false=>rfl
  |true=>exact absurd ⟨j,hj,hg⟩ h
 ·rintro h ⟨k,h1,h2⟩
  rw[h k h1] at h2;cases h2
def isCnt(n:Int):Bool:=inR n 0 1000
def tabTo(g:Nat->Int)(k:Nat):yLI:=(List.range k).map g
theorem tabTo_succ(g:Nat->Int)(k:Nat):tabTo g (k+1)=tabTo g k++[g k]:=by simp[tabTo,List.range_succ]
@[simp] theorem tabTo_len(g : Nat -> Int)(k : Nat) : (tabTo g k).length = k := by simp[tabTo]
def X8(m:yLI)(t:Int):Prop:=∀k,k<m.length-> -1000000000000000<=t*m[k]! /\t*m[k]! <=1000000000000000
def plusTo(l m:yLI)(t:Int)(k:Nat):yLI:=(List.range k).map fun j=>l[j]! +t*m[j]!
def jc(l m:yLI)(t:Int):yLI:=plusTo l m t l.length
theorem plusTo_succ(l m:yLI)(t:Int)(k:Nat):plusTo l m t (k+1)=plusTo l m t k++[l[k]! +t*m[k]!]:=by simp[plusTo,List.range_succ]
theorem Qy(l m:yLI)(t:Int):(jc l m t).length=l.length:=by simp[jc,plusTo]
noncomputable def dec(p:Prop):Bool:=@decide p<|Classical.propDecidable p
theorem Qx(h:p):dec p=true:=by simp[dec,h]
theorem xE(h:¬p):dec p=false:=by simp[dec,h]
theorem Qz(h:dec p=true):p:=by simpa [dec] using h
theorem vF(h:dec p=false):¬p:=by simpa [dec] using h
theorem dec_eq{b:Bool}(h:b=true<->p):b=dec p:=by
 cases b
 ·exact(xE fun hp=>by simp at h;exact h hp).symm
 ·exact(Qx<|h.1 rfl).symm
theorem dec_congr{q:Prop}(h:p<->q):dec p=dec q:=by rw[show p=q from propext h]
def Counts(l:yLI)(k:Nat):Prop:=∀j,j<k->0<=l[j]! /\l[j]! <=1000
theorem Counts.zero(l:yLI):Counts l 0:=fun j hj=>by omega
theorem Counts.succ(h:Counts l k)(h1:0<=l[k]! /\l[k]! <=1000):Counts l (k+1):=fun j hj=>by
 by_cases e:j=k
 ·subst e;exact h1
 ·exact h j qf
def VM(l:yLI):Prop:=Counts l l.length/\1<=l.length/\l.length<=8
def vW(n:Int)(l:yLI):Prop:=VM l/\(l.length:Int)=n
theorem Xf(h:VM l):Small l:=⟨by have:=h.2.2;omega,fun k hk=>by have:=h.1 k hk;omega⟩
theorem vP{n:Int}(h:vW n l):Small l:=Xf h.1
theorem isCnt_iff{n:Int}:isCnt n=true<->0<=n/\n<=1000:=QM
theorem anyCnt_iff:(!anyTo (fun k=> !isCnt (l[k]!)) l.length)=true<->Counts l l.length:=by
 rw[Bool.not_eq_true',anyTo_false]
 constructor
 ·intro h j hj
  have:=h j hj
  simp only[Bool.not_eq_false'] at this
  exact isCnt_iff.1 this
 ·intro h j hj
  simp only[Bool.not_eq_false']
  exact isCnt_iff.2<|h j hj
class Tot(α:Type) where
 tot:α->Nat
open Go.Proofs.YtghikkinnchndaaGreat.Tot (tot)
instance:Tot Int:=⟨fun _=>0⟩
instance:Tot Bool:=⟨fun _=>0⟩
section
variable{α : Type}[Tot α][Inhabited α]
def totTo(l:List α):Nat->Nat
 |0=>0
 |k+1=>totTo l k+tot (l[k]!)
instance:Tot (List α):=⟨fun l=>l.length+totTo l l.length⟩
theorem tot_list(l:List α):tot l=l.length+totTo l l.length:=rfl
theorem totTo_succ(l:List α)(k:Nat):totTo l (k+1)=totTo l k+tot (l[k]!):=rfl
end
end
open Go.Proofs.YtghikkinnchndaaGreat.Tot (tot)
section
structure Chg(F:yLN)(w w':World):Prop where
 os:w'.os=w.os
 tape:w'.tape=w.tape
 output:w'.output=w.output
 size:w.heap.size<=w'.heap.size
 block:∀k,k<w.heap.size->k∉F->w'.heap[k]? =w.heap[k]?
theorem Chg.refl(F:yLN)(w:World):Chg F w w:=⟨rfl,rfl,rfl,Nat.le_refl _,fun _ _ _=>rfl⟩
theorem Chg.mono(h:Chg F w w')(hs:∀b∈F,b∈G):Chg G w w':=⟨h.os,h.tape,h.output,h.size,fun k hk hn=>h.block k hk fun hb=>hn<|hs k hb⟩
theorem Chg.trans{F:yLN}{a b c:World}(h:Chg F a b)(k:Chg F b c):Chg F a c:=
 ⟨k.os.trans h.os,k.tape.trans h.tape,k.output.trans h.output,Nat.le_trans h.size k.size,fun i hi hn=>(k.block i (Nat.lt_of_lt_of_le hi h.size) hn).trans<|h.block i hi hn⟩
theorem Chg.rebase{W:World}(h:Ext W w)(e:Chg F w w'):∃W',Chg F W W' /\W'.heap.size=W.heap.size/\Ext W' w':=by
 refine⟨{ W with heap:=W.heap.mapIdx fun i o=>if i∈F then (w'.heap[i]?).getD o else o },⟨rfl,rfl,rfl,by simp,fun k hk hn=>?_⟩,by simp,⟨e.os.trans h.os,e.tape.trans h.tape,e.output.trans h.output,?_,fun k hk=>?_⟩⟩
 ·simp[hk,hn]
 ·simpa using Nat.le_trans h.size e.size
 ·have BJ :k<W.heap.size:=by simpa using hk
  by_cases hF:k∈F
  ·have h2:k<w'.heap.size:=Nat.lt_of_lt_of_le BJ (Nat.le_trans h.size e.size)
   simp[BJ,hF,h2]
  ·have h1:=(e.block k (Nat.lt_of_lt_of_le BJ h.size) hF).trans (h.block k BJ)
   rw[h1]
   simp[BJ,hF]
section
variable{W w w': World}{ps : List Prv}{Γ : List Fact}
end
section
variable{α : Type}[qK α]
variable{W w : World}{ps : List Prv}{Γ : List Fact}
variable{P : Program}{Q : Exit -> Act -> World -> Prop}{n : Nat}{ρ : Env}{d : Nat}{ty : TypeId}{pos : String}{af : Array Edge}{K : Env -> World -> Prop}
end
section
variable{P : Program}{Q : Exit -> Act -> World -> Prop}{n : Nat}{ρ : Env}{w : World}{d : Nat}{ty : TypeId}{pos : String}{af : Array Edge}{K : Env -> World -> Prop}
theorem o_rem[Dfr](a b:Int)(hx:ev n ρ x=.int .i64 a)(hy:ev n ρ y=.int .i64 b)(h0:0<=a)(h1:0<b)(h2:a<=9223372036854775807)(k:K (upd ρ d<|.int .i64<|a % b) w):
 OW P Q ⟨some d,.binOp .rem t x y u,ty,pos,af,none⟩ n ρ w K:=
 Q8 _ (by
  have e:a.tmod b=a % b:=Int.tmod_eq_emod_of_nonneg h0
  simp[execOp,hx,hy,eqGuard,binOp,Op.intDiv,show b≠0 by omega,e]) k
end
class Mark(α:Type) where
 dN:α->Nat
 mrk:α->Int->α
 mkd:α->Int->Prop
 mkd_mark:∀x k,mkd (mrk x k) k
 cnt_mark:∀x k,dN (mrk x k)=dN x
open Go.Proofs.YtghikkinnchndaaGreat.Mark (dN mrk mkd mkd_mark cnt_mark)
instance:Mark Int:=⟨fun _=>1,fun _ k=>k,fun x k=>x=k,fun _ _=>rfl,fun _ _=>rfl⟩
instance:Mark Bool:=⟨fun _=>1,fun _ k=>k % 3 == 0,fun x k=>x=(k % 3 == 0),fun _ _=>rfl,fun _ _=>rfl⟩
section
variable{α : Type}[Mark α][Inhabited α]
def cntTo(l:List α):Nat->Nat
 |0=>0
 |i+1=>cntTo l i+dN (l[i]!)
theorem cntTo_succ(l:List α)(i:Nat):cntTo l (i+1)=cntTo l i+dN (l[i]!):=rfl
def markTo(l:List α)(k:Int)(i:Nat):List α:=(List.range i).map (fun j=>mrk (l[j]!)<|k+(cntTo l j:Nat))++l.drop i
theorem markTo_len(l:List α)(k:Int)(h:i<=l.length):(markTo l k i).length=l.length:=by simp[markTo];omega
def markL(l:List α)(k:Int):List α:=markTo l k l.length
theorem markL_get(l:List α)(k:Int)(h:i<l.length):(markL l k)[i]! =mrk (l[i]!) (k+(cntTo l i:Nat)):=by
 rw[getElem!_pos _ i<|by rw[markL,markTo_len l k<|Nat.le_refl _];exact h]
 simp[markL,markTo,List.getElem_append,h]
theorem cntTo_markL(l:List α)(k:Int):∀i,i<=l.length->cntTo (markL l k) i=cntTo l i
 |0,_=>rfl
 |i+1,h=>by rw[cntTo_succ,cntTo_succ,cntTo_markL l k i qf,markL_get l k qf,cnt_mark]
instance:Mark (List α) where
 dN l:=cntTo l l.length
 mrk:=markL
 mkd l k:=∀i,i<l.length->mkd (l[i]!) (k+(cntTo l i:Nat))
 mkd_mark l k i hi:=by
  have BG :i<l.length:=by simpa [markL,markTo] using hi
  rw[markL_get l k BG,cntTo_markL l k i qf]
  exact mkd_mark _ _
 cnt_mark l k:=by
  show cntTo (markL l k) (markL l k).length=cntTo l l.length
  rw[show (markL l k).length=l.length from markTo_len l k<|Nat.le_refl _,cntTo_markL l k _<|Nat.le_refl _]
theorem cnt_list(l:List α):dN l=cntTo l l.length:=rfl
end
theorem ints_get(h:iv.toNat<l.length):(l.map<|Value.int .i64)[0+iv.toNat*1]? =some (.int .i64<|l[iv.toNat]!):=by
 rw[Nat.zero_add,Nat.mul_one,List.getElem?_map,List.getElem?_eq_getElem h,getElem!_pos l _ h];rfl
theorem ints_set{v:Int}:(l.map<|Value.int .i64).set (0+iv.toNat*1) (.int .i64 v)=(l.set iv.toNat v).map (Value.int .i64):=by
 rw[Nat.zero_add,Nat.mul_one,List.map_set]
theorem ints_lt(h:iv.toNat<l.length):0+iv.toNat*1<(l.map<|Value.int .i64).length:=by simpa using h
theorem ints_zero(n:Nat):List.replicate n (Value.int .i64 0)=(List.replicate n (0:Int)).map (Value.int .i64):=by simp
section
variable{P : Program}{Q : Exit -> Act -> World -> Prop}{n : Nat}{ρ : Env}{W w : World}{d : Nat}{ty : TypeId}{pos : String}{af : Array Edge}{K : Env -> World -> Prop}{ps : List Prv}{Γ : List Fact}
theorem o_tail[Dfr]{α:Type}[qK α]{l:List α}(H:St W w ps Γ)(i:Nat)(hf:Γ[i]? =some (isF fr F (Sv a m c) l))(kk:Nat)
 (hu:P.underlying t=some (.slice e)) (he:TI P e z (qK.size α) fx) (hx:ev n ρ x=Sv a m c) (hk:kk<=l.length)
 (k:∀a' G,(∀b∈G,b∈F)->St W w ps (isF fr G (Sv a' (l.drop kk).length<|c-kk) (l.drop kk)::Γ)->K (upd ρ d<|Sv a' (l.drop kk).length<|c-kk) w):
 OW P Q ⟨some d,.slice t x (some<|.const<|.int .i64 (kk:Int)) none none,ty,pos,af,none⟩ n ρ w K:=by
 obtain⟨⟨a0,c0,hc,⟨hl,ZH⟩,h⟩,ep⟩:=H.get i hf
 simp only[List.cons.injEq,Value.slice.injEq,and_true] at hc
 obtain⟨rfl,rfl,rfl⟩:=hc
 have hev:ev n ρ (.const<|.int .i64 (kk:Int))=.int .i64 (kk:Int):=rfl
 have A6:(execOp (ev n ρ) ⟨some d,.slice t x (some<|.const<|.int .i64 (kk:Int)) none none,ty,pos,af,none⟩).run P w=
  .ok (.value (Sv (if c=kk then a else a.map (·.add (kk*qK.size α))) (l.length-kk)<|c-kk)) w:=by
  simp[execOp,hx,hev,Instr.sliceAt,Instr.slice,Instr.sliceBounds,Instr.sliceBound,asIntOf,run_underlying hu,he.sizeOf,hk]
 have Jm:(l.drop kk).length=l.length-kk:=List.length_drop
 rcases h with ⟨h0,hF⟩|⟨b,off,F',vs,ha,hF,hb,hr,hcells⟩
 ·refine Q8 _ A6 ?_
  rw[←Jm]
  refine k _ [] qm<|H.add _ ⟨⟨_,_,rfl,⟨by omega,by omega⟩,Or.inl ⟨by simp[h0],rfl⟩⟩,fun _=>jS.nil _⟩<|by simp[isF]
 ·subst ha
  rw[←List.take_append_drop kk l] at hr
  obtain⟨F1,F2,v1,v2,e1,e2,r1,r2⟩:=reps_split _ hr
  have DZ:v1.length=kk*qK.size α:=by rw[reps_len r1,List.length_take,Nat.min_eq_left hk]
  have bU:∀z∈b::F2,z∈F:=by
   intro z hz
   rw[hF,e1]
   simp only[List.mem_cons,List.mem_append] at hz ⊢
   rcases hz with h|h <;> simp[h]
  refine Q8 _ A6 ?_
  rw[←Jm]
  by_cases hck:c=kk
  ·have as4:l.drop kk=[]:=List.drop_eq_nil_of_le qf
   refine k _ [] qm<|H.add _ ⟨⟨_,_,rfl,⟨by omega,by omega⟩,Or.inl ⟨as4,rfl⟩⟩,fun _=>jS.nil _⟩<|by simp[isF]
  ·rw[if_neg hck]
   refine k _ (b::F2) bU<|H.vT i hf _ ⟨⟨_,_,rfl,⟨by omega,by omega⟩,Or.inr ⟨b,off+kk*qK.size α,F2,v2,by simp[Addr.add_mid],rfl,hb,r2,?_⟩⟩,fun e=>(ep e).sub bU⟩ bU
   intro j v hv
   rw[Nat.add_assoc]
   refine hcells (kk*qK.size α+j) v ?_
   rw[e2,List.getElem?_append_right qf,DZ,Nat.add_sub_cancel_left]
   exact hv
end
abbrev pp(b o:Nat):Value:=.pointer<|some ⟨b,o,none⟩
abbrev aa(b o:Nat):yOA:=some ⟨b,o,none⟩
section
variable{P : Program}{fL : Array Oper}{Q : Exit -> Act -> World -> Prop}{n : Nat}{ρ : Env}{W0 w : World}{rest : List Oper}{ps : List Prv}{Γ : List Fact}
 {d:Nat} {op:Op} {ty:TypeId} {pos:String} {af:Array Edge} {K:Env->World->Prop} {S:World->Prop} {l:List Oper} {fuel:Nat} {ae:Array Bool}
theorem sp[Dfr](v:Value)(k:WL P fL Q n rest (upd ρ d v) w)(h:pv (ev n ρ) op=some v:=by exact rfl):WL P fL Q n (⟨some d,op,ty,pos,af,none⟩::rest) ρ w:=
 sw (o_pure v h k)
def pvs(n:Nat):List Value->List Oper->Env->Prop
 | [],_,_=>True
 |v::vs,⟨some d,op,_,_,_,none⟩::os,ρ=>pv (ev n ρ) op=some v/\pvs n vs os (upd ρ d v)
 |_::_,_,_=>False
def updP:List Value->List Oper->Env->Env
 |v::vs,o::os,ρ=>updP vs os<|upd ρ (o.dst.getD 0) v
 |_,_,ρ=>ρ
theorem sps[Dfr]:∀(vs:List Value) {os:List Oper} {ρ:Env} (_:WL P fL Q n (os.drop vs.length) (updP vs os ρ) w) (_:pvs n vs os ρ:=by(repeat refine And.intro rfl ?_);exact trivial),WL P fL Q n os ρ w
 | [],[],_,k,_=>by simpa [updP] using k
 | [],o::os,_,k,_=>by simpa [updP] using k
 |v::vs,[],_,_,h=>h.elim
 |v::vs,⟨none,op,ty,pos,af,gd⟩::os,_,_,h=>h.elim
 |v::vs,⟨some d,op,ty,pos,af,some g⟩::os,_,_,h=>h.elim
 |v::vs,⟨some d,op,ty,pos,af,none⟩::os,ρ,k,h=>sp v (sps vs (by simpa [updP] using k) h.2) h.1
def updQ(n:Nat):Nat->List Oper->Env->Env
 |j+1,o::os,ρ=>updQ n j os<|upd ρ (o.dst.getD 0) ((pv (ev n ρ) o.op).getD undef)
 |_,_,ρ=>ρ
def okQ(n:Nat):Nat->List Oper->Env->Bool
 |0,_,_=>true
 |j+1,⟨some d,op,_,_,_,none⟩::os,ρ=>(pv (ev n ρ) op).isSome && okQ n j os (upd ρ d ((pv (ev n ρ) op).getD undef))
 |_,_,_=>false
theorem some_getD{v:Option Value}(h:v.isSome=true):v=some (v.getD undef):=by
 cases v with
 |none=>cases h
 |some x=>rfl
theorem sq[Dfr]:∀(j:Nat) {os:List Oper} {ρ:Env} (_:WL P fL Q n (os.drop j) (updQ n j os ρ) w) (_:okQ n j os ρ=true:=by exact rfl),WL P fL Q n os ρ w
 |0,os,_,k,_=>by simpa [updQ] using k
 |j+1,[],_,_,h=>by cases h
 |j+1,⟨none,op,ty,pos,af,gd⟩::os,_,_,h=>by cases h
 |j+1,⟨some d,op,ty,pos,af,some g⟩::os,_,_,h=>by cases h
 |j+1,⟨some d,op,ty,pos,af,none⟩::os,ρ,k,h=>by
  simp only[okQ,Bool.and_eq_true] at h
  exact sp _ (sq j (by simpa [updQ] using k) h.2)<|some_getD h.1
theorem QE[Dfr](hm:P.follows .mixedOrders=true)(H:St W0 w ps Γ)
 (h:St W0 w.drew ps Γ->RW P l Q (fun w=>St W0 w ps Γ) n l.toArray.size (Array.replicate l.toArray.size false) ρ w.drew):(Code.region id l.toArray true).wp P Q (mk n ρ) w:=
 c_draw (fun w=>St W0 w ps Γ) hm (H.ext<|ext_drew _) (h<|H.ext<|ext_drew _)
def takeOk(l:List Oper)(ae:Array Bool)(i:Nat):Bool:=Region.noSelect l.toArray && (Region.free .any l.toArray ae i && (Region.ready .any l.toArray ae).contains i)
def NoPanic(Q:Exit->Act->World->Prop)(d:Nat)(v:Value):Prop:=∀c a w,Q (.panic c) (a.put (some d) v) w->Q (.panic c) a w
theorem Va(h:takeOk l ae i=true):Region.noSelect l.toArray=true/\Region.free .any l.toArray ae i=true/\(Region.ready .any l.toArray ae).contains i=true:=by
 simp only[takeOk,Bool.and_eq_true] at h
 exact h
theorem rt[Dfr](i:Nat)(v:Value)(hy:∀w',S w' ->(execOp (ev n ρ) ⟨some d,op,ty,pos,af,none⟩).run P w'=.ok (.value v) w')(hS:S w)
 (h:RW P l Q S n fuel (ae.setIfInBounds i true) (upd ρ d v) w) (hi:l.toArray[i]? =some ⟨some d,op,ty,pos,af,none⟩:=by exact rfl) (hk:takeOk l ae i=true:=by kernel_rfl)
 (hQ:NoPanic Q d v:=by exact fun _ _ _ h=>h):RW P l Q S n (fuel+1) ae ρ w:=
 r_take i v hi (Va hk).1 (Va hk).2.1 (Va hk).2.2 hQ hy hS h
theorem rtp[Dfr](i:Nat)(v:Value)(hS:S w)(h:RW P l Q S n fuel (ae.setIfInBounds i true) (upd ρ d v) w)(hi:l.toArray[i]? =some ⟨some d,op,ty,pos,af,none⟩:=by exact rfl)
 (hp:pv (ev n ρ) op=some v:=by exact rfl) (hk:takeOk l ae i=true:=by kernel_rfl) (hQ:NoPanic Q d v:=by exact fun _ _ _ h=>h):RW P l Q S n (fuel+1) ae ρ w:=
 rt i v (y_pure hp) hS h hi hk hQ
theorem rg[Dfr]{b:Bool}(i:Nat)(v:Value)(e:Nat)(hy:∀w',S w' ->(execOp (ev n ρ) ⟨some d,op,ty,pos,af,some (j,b)⟩).run P w'=.ok (.value v) w')(hS:S w)
 (h:RW P l Q S n fuel (ae.setIfInBounds i true) (upd ρ d v) w) (hi:l.toArray[i]? =some ⟨some d,op,ty,pos,af,some (j,b)⟩:=by exact rfl) (hk:takeOk l ae i=true:=by kernel_rfl)
 (hd:dstAt l j=some e:=by exact rfl) (hv:ev n ρ (.tmp e)=Bv b:=by exact rfl) (hQ:NoPanic Q d v:=by exact fun _ _ _ h=>h):RW P l Q S n (fuel+1) ae ρ w:=
 r_takeG i v hi (Va hk).1 (Va hk).2.1 (Va hk).2.2 hQ hd hv hy hS h
theorem rgp[Dfr]{b:Bool}(i:Nat)(v:Value)(e:Nat)(hS:S w)(h:RW P l Q S n fuel (ae.setIfInBounds i true) (upd ρ d v) w)(hi:l.toArray[i]? =some ⟨some d,op,ty,pos,af,some (j,b)⟩:=by exact rfl)
 (hp:pv (ev n ρ) op=some v:=by exact rfl) (hk:takeOk l ae i=true:=by kernel_rfl)
 (hd:dstAt l j=some e:=by exact rfl) (hv:ev n ρ (.tmp e)=Bv b:=by exact rfl) (hQ:NoPanic Q d v:=by exact fun _ _ _ h=>h):RW P l Q S n (fuel+1) ae ρ w:=
 rg i v e (y_pure hp) hS h hi hk hd hv hQ
theorem rtl[Dfr](i:Nat)(hS:S w)(h:RW P l Q S n fuel (ae.setIfInBounds i true) (upd ρ d ((pv (ev n ρ) op).getD undef)) w)(hi:l.toArray[i]? =some ⟨some d,op,ty,pos,af,none⟩:=by exact rfl)
 (hp:(pv (ev n ρ) op).isSome=true:=by exact rfl) (hk:takeOk l ae i=true:=by kernel_rfl) (hQ:NoPanic Q d ((pv (ev n ρ) op).getD undef):=by exact fun _ _ _ h=>h):RW P l Q S n (fuel+1) ae ρ w:=
 rtp i _ hS h hi (some_getD hp) hk hQ
theorem rgl[Dfr]{b:Bool}(i:Nat)(e:Nat)(hS:S w)(h:RW P l Q S n fuel (ae.setIfInBounds i true) (upd ρ d ((pv (ev n ρ) op).getD undef)) w)(hi:l.toArray[i]? =some ⟨some d,op,ty,pos,af,some (j,b)⟩:=by exact rfl)
 (hp:(pv (ev n ρ) op).isSome=true:=by exact rfl) (hk:takeOk l ae i=true:=by kernel_rfl)
 (hd:dstAt l j=some e:=by exact rfl) (hv:ev n ρ (.tmp e)=Bv b:=by exact rfl) (hQ:NoPanic Q d ((pv (ev n ρ) op).getD undef):=by exact fun _ _ _ h=>h):RW P l Q S n (fuel+1) ae ρ w:=
 rgp i _ e hS h hi (some_getD hp) hk hd hv hQ
theorem retC3{fn:Func}{R:Ending->World->Prop}{t u u':Nat}(H:St W0 w ps Γ)(i:Nat)(hp:ps[i]? =some (.box b cs tb))(x y:Value)(hr:fn.results=#[.cell t T,.tmp u,.tmp u'])
 (ha:∀w,(isAgg T).run P w=.ok true w) (hs:∀w,(Go.sizeOf T).run P w=.ok cs.length w) (hv:ev n ρ (.tmp t)=.pointer (some ⟨b,0,none⟩)) (hx:ev n ρ (.tmp u)=x) (hy:ev n ρ (.tmp u')=y)
 (h:R (.returned<|.tuple #[.agg cs.toArray,x,y]) w):bodyPost P fn R .ret (mk n ρ) w:=by
 have hl:=run_loadCells_list (P:=P) w ⟨b,0,none⟩ cs (fun j v hv=>by rw[Addr.add_mid];exact H.cells i hp j v hv)
 have e:=congrFun (XN n ρ)<|.tmp t
 have e':=congrFun (XN n ρ)<|.tmp u
 have e'' :=congrFun (XN n ρ)<|.tmp u'
 simp only[Act.eval,Array.getD_eq_getD_getElem?] at e e' e''
 rw[hv] at e
 rw[hx] at e'
 rw[hy] at e''
 exact bodyPost_ret (v:=.tuple #[.agg cs.toArray,x,y]) (by simp[results,hr,e,e',e'',asAddr,loadVar,ha,hs,hl]) rfl h
def skipOk(n:Nat)(ρ:Env)(l:List Oper)(o:Oper):Bool:=
 match o.guard with
 |some (j,b)=>match dstAt l j with
  |some e=>match ev n ρ (.tmp e) with | .bool c=>c != b | .tuple vs=>vs.isEmpty|_=>false
  |none=>false
 |none=>false
theorem skipOk_wanted[Dfr]{o:Oper}(h:skipOk n ρ l o=true):Region.wanted o (yielded l.toArray (mk n ρ).tmps)=false:=by
 unfold skipOk at h
 unfold Region.wanted
 split at h
 ·rename_i j b hg
  split at h
  ·rename_i e he
   rw[hg]
   split at h
   ·rename_i c hc
    simp[yielded_of ((dstAt_eq l j).trans he) hc]
    simpa using h
   ·rename_i vs hc
    have:vs=#[]:=by simpa using h
    subst this
    simp[yielded_un ((dstAt_eq l j).trans he) hc]
   ·cases h
  ·cases h
 ·cases h
def updU(ρ:Env):yLN->Env
 | []=>ρ
 |d::ds=>updU (upd ρ d undef) ds
def chkL(n:Nat)(l:List Oper):List Oper->yLN->Env->Bool
 |_,[],_=>true
 |o::os,d::ds,ρ=>match o.dst with
  |some d'=>Nat.beq d' d && (skipOk n ρ l o && chkL n l os ds (upd ρ d undef))
  |none=>false
 | [],_::_,_=>false
theorem xO[Dfr]:∀(ds:yLN) {os:List Oper} {ρ:Env} (_:WL P l.toArray Q n (os.drop ds.length) (updU ρ ds) w) (_:chkL n l os ds ρ=true:=by kernel_rfl),WL P l.toArray Q n os ρ w
 | [],_,_,k,_=>by simpa [updU] using k
 |d::ds,[],ρ,_,h=>by simp[chkL] at h
 |d::ds,⟨dst,op,ty,pos,af,gd⟩::os,ρ,k,h=>by
  unfold chkL at h
  split at h
  ·rename_i d' hd
   simp only[Bool.and_eq_true] at h
   obtain⟨h1,h2,h3⟩:=h
   have hd':=Nat.eq_of_beq_eq_true h1
   simp only at hd
   subst hd hd'
   have hw:=skipOk_wanted h2
   have k':=xO ds (os:=os) (ρ:=upd ρ d' undef) (by simpa [updU] using k) h3
   refine WL.of ?_
   unfold wpList
   rw[if_neg<|by rw[hw];simp,mk_put]
   exact k'.out
  ·cases h
def chkR(n:Nat)(l:List Oper):yLN->Array Bool->Env->Bool
 | [],_,_=>true
 |i::is,ae,ρ=>match l.toArray[i]? with
  |some o=>match o.dst with
   |some d=>skipOk n ρ l o && (takeOk l ae i && chkR n l is (ae.setIfInBounds i true) (upd ρ d undef))
   |none=>false
  |none=>false
def updR(l:List Oper):yLN->Env->Env
 | [],ρ=>ρ
 |i::is,ρ=>updR l is<|upd ρ ((dstAt l i).getD 0) undef
def lsts:yLN->Array Bool->Array Bool
 | [],a=>a
 |i::is,a=>lsts is<|a.setIfInBounds i true
theorem zZ[Dfr]:∀(is:yLN) (m:Nat) {fuel:Nat} {ae:Array Bool} {ρ:Env} (_:S w) (_:RW P l Q S n fuel (lsts is ae) (updR l is ρ) w) (_:chkR n l is ae ρ=true:=by kernel_rfl) (_:is.length=m:=by exact rfl)
 (_:∀d,NoPanic Q d undef:=by exact fun _ _ _ _ h=>h),RW P l Q S n (fuel+m) ae ρ w
 | [],m,_,_,_,_,k,_,hm,_=>by subst hm;exact k
 |i::is,m,fuel,ae,ρ,hS,k,h,hm,hQ=>by
  subst hm
  unfold chkR at h
  split at h
  ·rename_i o ho
   split at h
   ·rename_i d hd
    simp only[Bool.and_eq_true] at h
    obtain⟨h1,h2,h3⟩:=h
    have hw:=skipOk_wanted h1
    have e:dstAt l i=some d:=by rw[←dstAt_eq,ho];exact hd
    have k':=zZ is is.length (fuel:=fuel) (ae:=ae.setIfInBounds i true) (ρ:=upd ρ d undef) hS (by simpa [updR,lsts,e] using k) h3 rfl hQ
    show RW P l Q S n ((fuel+is.length)+1) ae ρ w
    obtain⟨dst,op,ty,pos,af,gd⟩:=o
    simp only at hd
    subst hd
    unfold RW at k' ⊢
    refine wpAnyH_take ho (Va h2).1 (Va h2).2.1 (Va h2).2.2 (hQ d) (Or.inr ⟨hw,rfl⟩) hS ?_
    show wpAnyH P .any l.toArray Q S _ _ ((mk n ρ).put (some d) undef) w
    rw[mk_put]
    exact k'
   ·cases h
  ·cases h
end
end
open Go.Proofs.YtghikkinnchndaaGreat.Mark (dN mrk mkd mkd_mark cnt_mark)
section
structure Fresh(B:Nat)(L:List yLN):Prop where
 nd:∀F∈L,F.Nodup
 ge:∀F∈L,∀b∈F,B<=b
 dj:L.Pairwise fun F G=>∀b∈F,b∉G
section
variable{B : Nat}{L : List yLN}
theorem Fresh.nil(B:Nat):Fresh B []:=⟨by simp,by simp,List.Pairwise.nil⟩
theorem Fresh.pick(N:Fresh B L)(is:yLN)(he:is.map (fun i=>L[i]?)=L'.map some:=by exact rfl)(hd:is.Nodup:=by decide):Fresh B L':=by
 have agY:∀F∈L',F∈L:=by
  intro F hF
  have:some F∈L'.map some:=List.mem_map_of_mem hF
  rw[←he] at this
  obtain⟨i,_,hi⟩:=List.mem_map.1 this
  exact List.mem_of_getElem? hi
 refine⟨fun F hF=>N.nd F<|agY F hF,fun F hF=>N.ge F<|agY F hF,?_⟩
 have hl:is.length=L'.length:=by simpa using congrArg List.length he
 have e:∀k (hk:k<L'.length) (BJ :k<is.length),L[is[k]]? =some L'[k]:=by
  intro k hk BJ
  have h1:(is.map<|fun i=>L[i]?)[k]? =(L'.map some)[k]? :=by rw[he]
  simpa [hk,BJ] using h1
 rw[List.pairwise_iff_getElem]
 intro i j hi hj hij b hb gY
 have ei:=e i hi qf
 have ej:=e j hj qf
 have pt:is[i]'(by omega)≠is[j]'(by omega):=List.pairwise_iff_getElem.1 hd i j qf qf hij
 have hp:=N.dj
 rw[List.pairwise_iff_getElem] at hp
 obtain⟨hi2,ei2⟩:=List.getElem?_eq_some_iff.1 ei
 obtain⟨hj2,ej2⟩:=List.getElem?_eq_some_iff.1 ej
 rcases Nat.lt_or_gt_of_ne pt with h|h
 ·exact hp _ _ hi2 hj2 h b (by rw[ei2];exact hb)<|by rw[ej2];exact gY
 ·exact hp _ _ hj2 hi2 h b (by rw[ej2];exact gY)<|by rw[ei2];exact hb
theorem Fresh.cons(N:Fresh B L)(hg:(∀b∈G,T<=b)/\G.Nodup)(hB:B<=T)(hl:∀F∈L,∀b∈F,b<T):Fresh B (G::L):=
 ⟨fun F hF=>by
  rcases List.mem_cons.1 hF with rfl|h
  ·exact hg.2
  ·exact N.nd F h,fun F hF b hb=>by
  rcases List.mem_cons.1 hF with rfl|h
  ·exact Nat.le_trans hB (hg.1 b hb)
  ·exact N.ge F h b hb,List.pairwise_cons.2 ⟨fun F hF b hb gY =>by have:=hl F hF b gY;have:=hg.1 b hb;omega,N.dj⟩⟩
theorem Fresh.emp(N:Fresh B L):Fresh B ([]::L):=
 ⟨fun F hF=>by
  rcases List.mem_cons.1 hF with rfl|h
  ·exact List.nodup_nil
  ·exact N.nd F h,fun F hF b hb=>by
  rcases List.mem_cons.1 hF with rfl|h
  ·simp at hb
  ·exact N.ge F h b hb,List.pairwise_cons.2 ⟨fun F _ b hb=>by simp at hb,N.dj⟩⟩
theorem Fresh.repl(N:Fresh B (F::G::L))(hs:(∀b∈F',b∈F\/b∈G)/\(F.Nodup->G.Nodup->(∀b∈F,b∉G)->F'.Nodup)):Fresh B (F'::L):=by
 have h1:=List.pairwise_cons.1 N.dj
 have h2:=List.pairwise_cons.1 h1.2
 refine⟨fun K hK=>?_,fun K hK b hb=>?_,List.pairwise_cons.2 ⟨fun K hK b hb=>?_,h2.2⟩⟩
 ·rcases List.mem_cons.1 hK with rfl|h
  ·exact hs.2 (N.nd F qm) (N.nd G qm)<|h1.1 G qm
  ·exact N.nd K<|by simp[h]
 ·rcases List.mem_cons.1 hK with rfl|h
  ·rcases hs.1 b hb with h|h
   ·exact N.ge F qm b h
   ·exact N.ge G qm b h
  ·exact N.ge K (by simp[h]) b hb
 ·rcases hs.1 b hb with h|h
  ·exact h1.1 K (by simp[hK]) b h
  ·exact h2.1 K hK b h
theorem Fresh.join(N:Fresh B (F::G::L)):Fresh B ((F++G)::L):=
 N.repl ⟨fun b hb=>List.mem_append.1 hb,fun h1 h2 h3=>List.nodup_append.2 ⟨h1,h2,fun a ha b hb e=>h3 a ha<|e▸hb⟩⟩
theorem Fresh.less(N:Fresh B (F::L))(hs:∀b∈F',b∈F)(hn:F.Nodup->F'.Nodup):Fresh B (F'::L):=by
 have h1:=List.pairwise_cons.1 N.dj
 refine⟨fun K hK=>?_,fun K hK b hb=>?_,List.pairwise_cons.2 ⟨fun K hK b hb=>h1.1 K hK b<|hs b hb,h1.2⟩⟩
 ·rcases List.mem_cons.1 hK with rfl|h
  ·exact hn<|N.nd F qm
  ·exact N.nd K<|by simp[h]
 ·rcases List.mem_cons.1 hK with rfl|h
  ·exact N.ge F qm b<|hs b hb
  ·exact N.ge K (by simp[h]) b hb
theorem Fresh.one(N:Fresh B (F::L)):(∀b∈F,B<=b)/\F.Nodup:=⟨N.ge F qm,N.nd F qm⟩
theorem Fresh.tail(N:Fresh B (F::L)):Fresh B L:=⟨fun K h=>N.nd K<|by simp[h],fun K h=>N.ge K<|by simp[h],(List.pairwise_cons.1 N.dj).2⟩
end
section
variable{W0 w w': World}{ps : List Prv}{Γ : List Fact}
theorem St.ltN(H:St W0 w ps Γ)(is:yLN)(he:is.map (fun i=>(Γ[i]?).map Fact.F)=L.map some:=by exact rfl):∀F∈L,∀b∈F,b<w.heap.size:=by
 intro F hF b hb
 have:some F∈L.map some:=List.mem_map_of_mem hF
 rw[←he] at this
 obtain⟨i,_,hi⟩:=List.mem_map.1 this
 cases hg:Γ[i]? with
 |none=>simp[hg] at hi
 |some f=>
  simp only[hg,Option.map_some,Option.some.injEq] at hi
  subst hi
  exact((H.facts f<|List.mem_of_getElem? hg).2 b hb).1
theorem St.vV(H:St W0 w ps Γ)(is:yLN)(he:is.map (fun i=>(Γ[i]?).map Fact.F)=L.map some:=by exact rfl):∀F∈L,∀b∈F,∀i,yQ ps i≠some b:=by
 intro F hF b hb
 have:some F∈L.map some:=List.mem_map_of_mem hF
 rw[←he] at this
 obtain⟨i,_,hi⟩:=List.mem_map.1 this
 cases hg:Γ[i]? with
 |none=>simp[hg] at hi
 |some f=>
  simp only[hg,Option.map_some,Option.some.injEq] at hi
  subst hi
  exact((H.facts f<|List.mem_of_getElem? hg).2 b hb).2
theorem St.yf(H:St W0 w ps Γ)(k:Nat)(hp:ps[k]? =some (.row v e sz nn xs)):
 ∃a c,v=Sv a nn c/\nn<=c/\nn<=9223372036854775807:=by
 have h:=(H.has _ (List.mem_of_getElem? hp):w.ownsRow W0.heap.size e sz v nn xs)
 rcases h.2 with ⟨rfl,rfl⟩|⟨g,ib,ij,rfl,_,_,h1,h2,_⟩
 ·exact⟨none,0,rfl,Nat.le_refl _,by omega⟩
 ·exact⟨_,ib,rfl,h1,by unfold maxLen at h2;omega⟩
theorem St.jB(H:St W0 w ps Γ)(k:Nat)(hp:ps[k]? =some (.row (Sv a nn c) e sz nn xs))(h0:0<nn):
 ∃b,a=some ⟨b,0,none⟩:=by
 have h:=(H.has _ (List.mem_of_getElem? hp):w.ownsRow W0.heap.size e sz _ nn xs)
 rcases h.2 with ⟨_,rfl⟩|⟨g,ib,ij,h,_⟩
 ·omega
 ·simp only[Value.slice.injEq] at h
  exact⟨g,h.1⟩
theorem St.rowLen(H:St W0 w ps Γ)(k:Nat)(hp:ps[k]? =some (.row v e sz nn xs)):xs.length=nn*sz:=
 (H.has _ (List.mem_of_getElem? hp):w.ownsRow W0.heap.size e sz v nn xs).1
theorem St.rowGet(H:St W0 w ps Γ)(k:Nat)(hp:ps[k]? =some (.row (Sv (some ⟨b,0,none⟩) nn c) e sz nn xs))(hv:xs[i]? =some v):
 w.cell? ⟨b,i,none⟩=some v:=by
 have h:=(H.has _ (List.mem_of_getElem? hp):w.ownsRow W0.heap.size e sz _ nn xs)
 have:=h.cells (g:=b) rfl i v hv
 rwa [Addr.add_mid,Nat.zero_add] at this
theorem ints_at(h:iv.toNat=i)(h1:i<l.length):(l.map<|Value.int .i64)[0+iv.toNat*1]? =some (.int .i64<|l[i]!):=by
 subst h
 simp[h1,getElem!_pos]
theorem bools_at{l:List Bool}(h:iv.toNat=i)(h1:i<l.length):(l.map Value.bool)[0+iv.toNat*1]? =some (Bv<|l[i]!):=by
 subst h
 simp[h1,getElem!_pos]
theorem St.rowInt(H:St W0 w ps Γ)(k:Nat)(hp:ps[k]? =some (.row (Sv (some ⟨b,0,none⟩) nn c) e 1 nn<|l.map<|Value.int .i64))(h:iv.toNat=i)(h1:i<nn):
 w.cell? ⟨b,0+iv.toNat*1,none⟩=some (.int .i64<|l[i]!):=by
 have hl:=H.rowLen k hp
 exact H.rowGet k hp<|ints_at h (by simp at hl;omega)
theorem St.rowBool(H:St W0 w ps Γ)(k:Nat){l:List Bool}(hp:ps[k]? =some (.row (Sv (some ⟨b,0,none⟩) nn c) e 1 nn<|l.map Value.bool))(h:iv.toNat=i)(h1:i<nn):
 w.cell? ⟨b,0+iv.toNat*1,none⟩=some (Bv<|l[i]!):=by
 have hl:=H.rowLen k hp
 exact H.rowGet k hp<|bools_at h (by simp at hl;omega)
theorem St.rowElem{α:Type}[qK α][Inhabited α](H:St W0 w ps Γ)(k:Nat)(hp:ps[k]? =some (.row (Sv (some ⟨b,0,none⟩) nn c) e (qK.size α) nn xs))(j:Nat){l:List α}
 (hf:Γ[j]? =some (qQ fr F xs l)) (hz:0<qK.size α) {iv:Int} {i:Nat} (h:iv.toNat=i) (h1:i<nn):
 ∃cs G,jI w b (0+iv.toNat*qK.size α) cs/\qK.rep w G cs (l[i]!)/\(∀x∈G,x∈F)/\(fr=true->jS w G)/\∃v1 v2,xs=v1++cs++v2/\v1.length=i*qK.size α:=by
 subst h
 obtain⟨hr,ep⟩:=H.get j hf
 have hl:=H.rowLen k hp
 have hl2:=reps_len hr
 have Jm:iv.toNat<l.length:=by
  have:nn=l.length:=Nat.eq_of_mul_eq_mul_right hz<|hl.symm.trans hl2
  omega
 obtain⟨F1,Fk,F2,v1,cs,v2,hF,hv,DZ,Ka,aa2,_,_⟩:=reps_get hr _ Jm
 refine⟨cs,Fk,fun i v hi=>?_,by rw[getElem!_pos l _ Jm];exact aa2,?_,fun e=>(ep e).sub ?_,v1,v2,hv,DZ⟩
 ·refine H.rowGet k hp ?_
  have hci:i<cs.length:=by
   rcases Nat.lt_or_ge i cs.length with h|h
   ·exact h
   ·simp[h] at hi
  rw[hv,List.append_assoc,Nat.zero_add,←DZ,List.getElem?_append_right qf,Nat.add_sub_cancel_left,List.getElem?_append_left hci,hi]
 ·intro x hx;rw[hF];simp[hx]
 ·intro x hx;rw[hF];simp[hx]
theorem St.xk{α:Type}[qK α](H:St W0 w ps Γ)(k:Nat)(hp:ps[k]? =some (.row v e (qK.size α) nn xs))(j:Nat){l:List α}
 (hf:Γ[j]? =some (qQ fr F xs l)) (hz:0<qK.size α):nn=l.length:=
 Nat.eq_of_mul_eq_mul_right hz ((H.rowLen k hp).symm.trans<|reps_len (H.get j hf).1)
theorem St.Xl{α:Type}[qK α](H:St W0 w ps Γ)(k:Nat)(hp:ps[k]? =some (.row (Sv (some ⟨b,0,none⟩) nn c) e 1 nn xs))(j:Nat){l:List (List α)}
 (hf:Γ[j]? =some (qQ fr F xs l)) {iv:Int} (i:Nat) (h:iv.toNat=i) (h1:i<nn):
 ∃(a:yOA) (c':Nat) (G:yLN),(∀x∈G,x∈F)/\w.cell? ⟨b,0+iv.toNat*1,none⟩=some (Sv a (l[i]!).length c')/\St W0 w ps (isF fr G (Sv a (l[i]!).length c') (l[i]!)::Γ):=by
 obtain⟨cs,G,hc,hr,bU,ep,_⟩:=H.rowElem k hp j hf Nat.one_pos h h1
 obtain⟨a,c',rfl,hx⟩:=id hr
 exact⟨a,c',G,bU,by simpa [qK.size] using hc 0 _ rfl,H.vT j hf _ ⟨hr,ep⟩ bU⟩
theorem ownsRow_set(h:w.ownsRow B e sz (Sv (some ⟨b,0,none⟩) nn c) nn xs)(off:Nat)(us:List Value)(ho:off+us.length<=xs.length)(h1:∀u∈us,u.oneCell'=true){P:Program}:
 ∃w',(storeCells ⟨b,off,none⟩ us).run P w=.ok () w' /\w'.os=w.os/\w'.tape=w.tape/\w'.output=w.output/\w'.heap.size=w.heap.size/\(∀i,b≠i->w'.heap[i]? =w.heap[i]?)∧
  w'.ownsRow B e sz (Sv (some ⟨b,0,none⟩) nn c) nn (xs.take off++us++xs.drop (off+us.length)):=by
 obtain⟨hl,h|⟨g,ib,ij,hv,hB,hg,hn,hm,Ka,ht⟩⟩:=h
 ·simp at h
 simp only[Value.slice.injEq,Option.some.injEq,Addr.mk.injEq,and_true] at hv
 obtain⟨rfl,_,rfl⟩:=hv
 have Rq:nn*sz<=ij.size:=by rw[Ka];exact Nat.mul_le_mul_right _ hn
 have hlx:xs.length=nn*sz:=hl
 have hle:off+us.length<=ij.size:=by omega
 have hr:=run_storeCells_at P b off e us 0 ij w hg qf h1
 simp only[Nat.add_zero] at hr
 have ZU:xs.take off++us++xs.drop (off+us.length)=(ij.toList.take off++us++ij.toList.drop (off+us.length)).take (nn*sz):=by
  subst ht
  apply List.ext_getElem?
  intro i
  simp only[List.getElem?_take,List.getElem?_append,List.length_append,List.length_take,List.getElem?_drop,Array.length_toList]
  rw[Nat.min_eq_left<|show off<=ij.size by omega,Nat.min_eq_left<|show nn*sz<=ij.size by omega,Nat.min_eq_left<|show off<=nn*sz by omega]
  by_cases hi:i<nn*sz
  ·by_cases h1:i<off
   ·simp[hi,h1,show i<off+us.length by omega]
   ·by_cases h2:i<off+us.length
    ·simp[hi,h1,h2]
    ·have:off+us.length+(i-(off+us.length))=i:=by omega
     simp[hi,h2,this]
  ·have h2:¬i<off+us.length:=by omega
   have:off+us.length+(i-(off+us.length))=i:=by omega
   simp[hi,h2,this]
 refine⟨w.setRow b (ij.toList.take off++us++ij.toList.drop (off+us.length)).toArray,hr,rfl,rfl,rfl,by simp[World.setRow],fun i hi=>by simp[World.setRow,Array.getElem?_modify,hi],?_,Or.inr ⟨b,c,(ij.toList.take off++us++ij.toList.drop (off+us.length)).toArray,rfl,hB,by simp[World.setRow,Array.getElem?_modify,hg],hn,hm,?_,?_⟩⟩
 ·simp;omega
 ·simp;omega
 ·rw[ZU]
theorem St.rowSet(H:St W0 w ps Γ)(k:Nat)(hp:ps[k]? =some (.row (Sv (some ⟨b,0,none⟩) nn c) e sz nn xs))(off:Nat)(us:List Value)(ho:off+us.length<=xs.length)(h1:∀u∈us,u.oneCell'=true){P:Program}:
 ∃w',(storeCells ⟨b,off,none⟩ us).run P w=.ok () w' /\St W0 w' (ps.set k<|.row (Sv (some ⟨b,0,none⟩) nn c) e sz nn<|xs.take off++us++xs.drop (off+us.length)) Γ:=by
 have h:=(H.has _ (List.mem_of_getElem? hp):w.ownsRow W0.heap.size e sz _ nn xs)
 obtain⟨w',hr,h1,h2,h3,h4,h5,h6⟩:=ownsRow_set h off us ho h1 (P:=P)
 exact⟨w',hr,H.change k hp h1 h2 h3 qf (fun i _ hi=>h5 i fun e'=>hi<|by simp[Prv.blk,Value.ownBlock,e']) h6<|Or.inl rfl⟩
end
section
variable{P : Program}{Q : Exit -> Act -> World -> Prop}{n : Nat}{ρ : Env}{W0 w : World}{ps : List Prv}{Γ : List Fact}
 {d:Nat} {ty:TypeId} {pos:String} {af:Array Edge} {K:Env->World->Prop}
theorem o_storeRow[Dfr](H:St W0 w ps Γ)(k:Nat)(hp:ps[k]? =some (.row (Sv (some ⟨b,0,none⟩) nn c) e sz nn xs))(v:Value)
 (hs:∀w,(Go.sizeOf t).run P w=.ok v.cells.size w) (hx:ev n ρ x=.pointer (some ⟨b,off,none⟩)) (hy:ev n ρ y=v) (h1:∀u∈v.cells.toList,u.oneCell'=true) (ho:off+v.cells.size<=xs.length)
 (kk:∀w',St W0 w' (ps.set k<|.row (Sv (some ⟨b,0,none⟩) nn c) e sz nn<|xs.take off++v.cells.toList++xs.drop (off+v.cells.size)) Γ->K ρ w'):
 OW P Q ⟨none,.store t x y,ty,pos,af,none⟩ n ρ w K:=by
 obtain⟨w',hr,H'⟩:=H.rowSet k hp off v.cells.toList (by simpa using ho) h1 (P:=P)
 refine o_unit (w':=w') ?_<|kk _<|by simpa using H'
 simp[execOp,hx,hy,Instr.storeAt,Instr.sureAddr,storeVar,hs,hr]
theorem o_storeRow1[Dfr](H:St W0 w ps Γ)(k:Nat)(hp:ps[k]? =some (.row (Sv (some ⟨b,0,none⟩) nn c) e 1 nn xs))(v:Value)
 (hs:∀w,(Go.sizeOf t).run P w=.ok 1 w) (hx:ev n ρ x=.pointer (some ⟨b,0+iv.toNat*1,none⟩)) (hy:ev n ρ y=v) (h1:v.oneCell'=true) (h2:iv.toNat<nn)
 (kk:∀w',St W0 w' (ps.set k<|.row (Sv (some ⟨b,0,none⟩) nn c) e 1 nn<|xs.set iv.toNat v) Γ->K ρ w'):
 OW P Q ⟨none,.store t x y,ty,pos,af,none⟩ n ρ w K:=by
 have hc:v.cells=#[v]:=by cases v <;> first|rfl|(simp[Value.oneCell'] at h1)
 have hl:=H.rowLen k hp
 refine o_storeRow H k hp v (by simpa [hc] using hs) hx hy (by simp[hc,h1]) (by simp[hc];omega) ?_
 simp only[hc,List.size_toArray,List.length_cons,List.length_nil,Nat.zero_add,Nat.mul_one]
 rw[show xs.take iv.toNat++[v]++xs.drop (iv.toNat+1)=xs.set iv.toNat v by rw[List.set_eq_take_append_cons_drop,if_pos qf];simp]
 exact kk
theorem o_storeInt[Dfr](H:St W0 w ps Γ)(k:Nat)(hp:ps[k]? =some (.row (Sv (some ⟨b,0,none⟩) nn c) e 1 nn<|l.map<|Value.int .i64))(u:Int)
 (hs:∀w,(Go.sizeOf t).run P w=.ok 1 w) (hx:ev n ρ x=.pointer (some ⟨b,0+iv.toNat*1,none⟩)) (hy:ev n ρ y=.int .i64 u) (hi:iv.toNat=i) (h2:i<nn)
 (kk:∀w',St W0 w' (ps.set k<|.row (Sv (some ⟨b,0,none⟩) nn c) e 1 nn ((l.set i u).map<|Value.int .i64)) Γ->K ρ w'):
 OW P Q ⟨none,.store t x y,ty,pos,af,none⟩ n ρ w K:=by
 subst hi
 refine o_storeRow1 H k hp (.int .i64 u) hs hx hy rfl h2 fun w' H'=>kk w' ?_
 rwa [List.map_set]
theorem o_storeBool[Dfr]{l:List Bool}(H:St W0 w ps Γ)(k:Nat)(hp:ps[k]? =some (.row (Sv (some ⟨b,0,none⟩) nn c) e 1 nn<|l.map Value.bool))(u:Bool)
 (hs:∀w,(Go.sizeOf t).run P w=.ok 1 w) (hx:ev n ρ x=.pointer (some ⟨b,0+iv.toNat*1,none⟩)) (hy:ev n ρ y=Bv u) (hi:iv.toNat=i) (h2:i<nn)
 (kk:∀w',St W0 w' (ps.set k<|.row (Sv (some ⟨b,0,none⟩) nn c) e 1 nn ((l.set i u).map Value.bool)) Γ->K ρ w'):
 OW P Q ⟨none,.store t x y,ty,pos,af,none⟩ n ρ w K:=by
 subst hi
 refine o_storeRow1 H k hp (Bv u) hs hx hy rfl h2 fun w' H'=>kk w' ?_
 rwa [List.map_set]
theorem reps_set{α:Type}[qK α]{l:List α}(h:reps w F xs l){y:α}(hy:qK.rep w G cs y)(k:Nat)(hk:k<l.length):
 ∃F',reps w F' (xs.take (k*qK.size α)++cs++xs.drop (k*qK.size α+cs.length)) (l.set k y)/\(∀b∈F',b∈F\/b∈G)/\(F.Nodup->G.Nodup->(∀b∈F,b∉G)->F'.Nodup):=by
 obtain⟨F1,Fk,F2,v1,ck,v2,hF,hv,DZ,hck,_,h1,h2⟩:=reps_get h k hk
 have Rq:=qK.len hy
 refine⟨F1++G++F2,?_,fun b hb=>?_,fun n1 n2 n3=>?_⟩
 ·subst hv
  rw[←DZ,List.append_assoc v1,List.take_left,Rq,←hck,List.drop_append,List.drop_of_length_le qf,List.nil_append,Nat.add_sub_cancel_left,List.drop_left,List.set_eq_take_append_cons_drop,if_pos hk,show List.take k l++y::List.drop (k+1) l=List.take k l++[y]++List.drop (k+1) l by simp]
  exact yU (yU h1<|reps_one hy) h2
 ·simp only[List.mem_append] at hb
  rcases hb with (hb|hb)|hb
  ·exact Or.inl<|by rw[hF];simp[hb]
  ·exact Or.inr hb
  ·exact Or.inl<|by rw[hF];simp[hb]
 ·subst hF
  have n1':=List.nodup_append.1 n1
  have n1a:=List.nodup_append.1 n1'.1
  refine List.nodup_append.2 ⟨List.nodup_append.2 ⟨n1a.1,n2,fun a ha b hb e=>n3 a (by simp[ha])<|e▸hb⟩,n1'.2.1,fun a ha b hb e=>?_⟩
  subst e
  rcases List.mem_append.1 ha with ha|ha
  ·exact n1'.2.2 a (by simp[ha]) a hb rfl
  ·exact n3 a (by simp[hb]) ha
theorem Qd[Dfr]{α:Type}[qK α]{l:List α}{z:α}(f0:Bool)(H:St W0 w ps Γ)(k:Nat)(hp:ps[k]? =some (.row (Sv (some ⟨b,0,none⟩) nn c) e 1 nn xs))
 (j:Nat) (hf:Γ[j]? =some (qQ fr F xs l)) (v:Value) (m:Nat) (hg:Γ[m]? =some (isF SO G v z)) {iv:Int} {i:Nat} (hz:qK.size α=1)
 (hs:∀w,(Go.sizeOf t).run P w=.ok 1 w) (hx:ev n ρ x=.pointer (some ⟨b,0+iv.toNat*1,none⟩)) (hy:ev n ρ y=v) (hi:iv.toNat=i) (h2:i<nn) (h3:f0=true->fr=true/\SO =true)
 (kk:∀w' yr F',((∀b∈F',b∈F\/b∈G)/\(F.Nodup->G.Nodup->(∀b∈F,b∉G)->F'.Nodup))->St W0 w' (ps.set k<|.row (Sv (some ⟨b,0,none⟩) nn c) e 1 nn yr) (qQ f0 F' yr (l.set i z)::Γ)->K ρ w'):
 OW P Q ⟨none,.store t x y,ty,pos,af,none⟩ n ρ w K:=by
 subst hi
 have H9:v.oneCell'=true:=qK.one (H.get m hg).1 v qm
 have hn:nn=l.length:=H.xk (α:=α) k (by rw[hz];exact hp) j hf qf
 obtain⟨F',hr,hs1,hs2⟩:=reps_set (H.get j hf).1 (H.get m hg).1 iv.toNat qf
 have hl:=H.rowLen k hp
 have e1:xs.take (iv.toNat*qK.size α)++[v]++xs.drop (iv.toNat*qK.size α+[v].length)=xs.set iv.toNat v:=by
  rw[hz,Nat.mul_one,List.set_eq_take_append_cons_drop,if_pos qf];simp
 rw[e1] at hr
 have H1:St W0 w ps (qQ f0 F' (xs.set iv.toNat v) (l.set iv.toNat z)::Γ):=by
  refine H.add _ ⟨hr,fun e b hb=>?_⟩ fun b hb=>?_
  ·rcases hs1 b hb with h|h
   ·exact(H.get j hf).2 (h3 e).1 b h
   ·exact(H.get m hg).2 (h3 e).2 b h
  ·rcases hs1 b hb with h|h
   ·exact(H.facts _<|List.mem_of_getElem? hf).2 b h
   ·exact(H.facts _<|List.mem_of_getElem? hg).2 b h
 exact o_storeRow1 H1 k hp v hs hx hy H9 h2 fun w' H'=>kk w' _ F' ⟨hs1,hs2⟩ H'
theorem jP[Dfr](H:St W0 w ps Γ)(hu:P.underlying t=some (.slice e))(he:TI P e (.int .i64 0) 1 fx)(nn:Nat)
 (hx:ev n ρ x=.int .i64 iv) (hy:ev n ρ y=.int .i64 iv) (hn:iv=nn) (hb:fx*nn<=281474976710656) (hm:nn<=9223372036854775807)
 (k:∀b w',St W0 w' (.row (Sv (some ⟨b,0,none⟩) nn nn) e 1 nn ((List.replicate nn (0:Int)).map<|Value.int .i64)::ps) Γ->K (upd ρ d<|Sv (some ⟨b,0,none⟩) nn nn) w'):
 OW P Q ⟨some d,.makeSlice t x y,ty,pos,af,none⟩ n ρ w K:=by
 subst hn
 refine o_make1 H hu he rfl nn hx hy hb hm fun b w' H'=>k b w' ?_
 have:=H'.boxRow 0 rfl 1 nn qm qp
 simpa using this
theorem o_makeB[Dfr](H:St W0 w ps Γ)(hu:P.underlying t=some (.slice e))(he:TI P e (Bv false) 1 fx)(nn:Nat)
 (hx:ev n ρ x=.int .i64 iv) (hy:ev n ρ y=.int .i64 iv) (hn:iv=nn) (hb:fx*nn<=281474976710656) (hm:nn<=9223372036854775807)
 (k:∀b w',St W0 w' (.row (Sv (some ⟨b,0,none⟩) nn nn) e 1 nn ((List.replicate nn false).map Value.bool)::ps) Γ->K (upd ρ d<|Sv (some ⟨b,0,none⟩) nn nn) w'):
 OW P Q ⟨some d,.makeSlice t x y,ty,pos,af,none⟩ n ρ w K:=by
 subst hn
 refine o_make1 H hu he rfl nn hx hy hb hm fun b w' H'=>k b w' ?_
 have:=H'.boxRow 0 rfl 1 nn qm qp
 simpa using this
end
section
variable{P : Program}{Q : Exit -> Act -> World -> Prop}{n : Nat}{ρ : Env}{W0 w : World}{ps : List Prv}{Γ : List Fact}
 {d:Nat} {ty:TypeId} {pos:String} {af:Array Edge} {K:Env->World->Prop}
theorem set_at{p q:Prv}(h:ps[i]? =some p):(ps.set i q)[i]? =some q:=by
 have:=(List.getElem?_eq_some_iff.1 h).1
 simp[this]
theorem zH[Dfr]{s:Operand}(H:St W0 w ps Γ)(i:Nat)(hp:ps[i]? =some (.row v e sz nn xs))(j:Nat)(hq:ps[j]? =some (.box b cs tb))
 (hu:P.underlying t=some (.slice e)) (he:TI P e z sz fx) (wL:z.cells.size=sz) (h0:0<sz) (hs:ev n ρ s=v) (hx:ev n ρ x=Sv (some ⟨b,0,none⟩) m c) (hl:cs.length=m*sz)
 (h1:∀u∈cs,u.oneCell'=true) (hm:nn+m<=maxLen) (hb:(nn+m)*fx <=140737488355328)
 (k:∀a c' w',St W0 w' (ps.set i<|.row (Sv a (nn+m) c') e sz (nn+m)<|xs++cs) Γ->K (upd ρ d<|Sv a (nn+m) c') w'):
 OW P Q ⟨some d,.call ⟨.builtin .append,#[s,x],#[t,t]⟩,ty,pos,af,none⟩ n ρ w K:=
 o_append H i hp j hq hu he wL h0 hs hx hl h1 hm hb fun v' w' H'=>by
  obtain⟨a,c',rfl,_⟩:=H'.yf i<|set_at hp
  exact k a c' w' H'
theorem VH[Dfr]{α:Type}[qK α]{s:Operand}{l:List α}(H:St W0 w ps Γ)(i:Nat)(hp:ps[i]? =some (.row v e (qK.size α) nn xs))
 (j:Nat) (hf:Γ[j]? =some (isF fr F (Sv a m c) l)) (hu:P.underlying t=some (.slice e)) (he:TI P e z (qK.size α) fx) (wL:z.cells.size=qK.size α) (h0:0<qK.size α) (hs:ev n ρ s=v)
 (hx:ev n ρ x=Sv a m c) (hm:nn+m<=maxLen) (hb:(nn+m)*fx <=140737488355328)
 (k:∀a' c' w' vs G,St W0 w' (ps.set i<|.row (Sv a' (nn+m) c') e (qK.size α) (nn+m)<|xs++vs) (qQ fr G vs l::Γ)->(∀b∈G,b∈F)->K (upd ρ d<|Sv a' (nn+m) c') w'):
 OW P Q ⟨some d,.call ⟨.builtin .append,#[s,x],#[t,t]⟩,ty,pos,af,none⟩ n ρ w K:=
 o_appendF H i hp j hf hu he wL h0 hs hx hm hb fun v' w' vs G H' hG=>by
  obtain⟨a',c',rfl,_⟩:=H'.yf i<|set_at hp
  exact k a' c' w' vs G H' hG
theorem St.dead(H:St W0 w ps Γ)(k:Nat){p:Prv}(hp:ps[k]? =some p):St W0 w (ps.set k<|.row (Sv none 0 0) 0 1 0 []) Γ:=
 H.change k hp rfl rfl rfl (Nat.le_refl _) (fun _ _ _=>rfl) (World.ownsRow_nil _ _ _ _) (Or.inr<|Or.inl rfl)
theorem St.freeze{α:Type}[qK α](H:St W0 w ps Γ)(k:Nat)(hp:ps[k]? =some (.row v e (qK.size α) nn xs))(fr:Bool){l:List α}
 (hr:reps w F xs l) (ep:fr=true->jS w F) (hF:∀b∈F,b<w.heap.size/\∀i,yQ ps i≠some b) (hn:nn=l.length):
 ∃G,(∀b∈G,b∈F\/yQ ps k=some b)/\(F.Nodup->G.Nodup)/\St W0 w (ps.set k<|.row (Sv none 0 0) 0 1 0 []) (isF fr G v l::Γ):=by
 subst hn
 have ho:=(H.has _ (List.mem_of_getElem? hp):w.ownsRow W0.heap.size e (qK.size α) v l.length xs)
 have oO:∀(b i:Nat),yQ (ps.set k<|.row (Sv none 0 0) 0 1 0 []) i=some b->i≠k/\yQ ps i=some b:=by
  intro b i h
  unfold yQ at h ⊢
  by_cases hi:i=k
  ·subst hi
   rw[set_at hp] at h
   simp[Prv.blk,Value.ownBlock] at h
  ·rw[List.getElem?_set_ne<|Ne.symm hi] at h
   exact⟨hi,h⟩
 rcases ho.2 with ⟨rfl,h0⟩|⟨g,ib,ij,rfl,hb,hg,Uu,hcm,Ka,htake⟩
 ·have:l=[]:=List.eq_nil_of_length_eq_zero h0
  subst this
  exact⟨[],by simp,by simp,(H.dead k hp).add _ ⟨⟨none,0,rfl,by simp,Or.inl ⟨rfl,rfl⟩⟩,fun _=>jS.nil _⟩<|by simp[isF]⟩
 ·have hbk:yQ ps k=some g:=by simp[yQ,hp,Prv.blk,Value.ownBlock]
  have Rq:jI w g 0 xs:=by
   intro i u hi
   rw[Nat.zero_add,World.cell?,hg]
   rw[←htake,List.getElem?_take] at hi
   split at hi
   ·simpa using hi
   ·cases hi
  refine⟨g::F,fun b hb=>?_,fun hn=>List.nodup_cons.2 ⟨fun h=>(hF g h).2 k hbk,hn⟩,(H.dead k hp).add _ ⟨⟨_,ib,rfl,by unfold maxLen at hcm;omega,Or.inr ⟨g,0,F,xs,rfl,rfl,(Array.getElem?_eq_some_iff.1 hg).1,hr,Rq⟩⟩,fun e b hb=>?_⟩ fun b hb=>?_⟩
  ·rcases List.mem_cons.1 hb with rfl|h
   ·exact Or.inr hbk
   ·exact Or.inl h
  ·rcases List.mem_cons.1 hb with rfl|h
   ·exact⟨_,_,hg⟩
   ·exact ep e b h
  ·rcases List.mem_cons.1 hb with rfl|h
   ·exact⟨(Array.getElem?_eq_some_iff.1 hg).1,fun i hi=>(oO b i hi).1<|H.dist i k b (oO b i hi).2 hbk⟩
   ·exact⟨(hF b h).1,fun i hi=>(hF b h).2 i (oO b i hi).2⟩
theorem reps_of_bools(w:World):∀(l:List Bool),reps w [] (l.map Value.bool) l
 | []=>⟨rfl,rfl⟩
 |x::l=>⟨[],[],[Bv x],l.map Value.bool,rfl,rfl,⟨rfl,rfl⟩,reps_of_bools w l⟩
theorem Fresh.ice(N:Fresh W0.heap.size (F::L))(H:St W0 w ps Γ)(k:Nat)(hs:∀b∈G,b∈F\/yQ ps k=some b)(hn:F.Nodup->G.Nodup)(ha:∀K∈L,∀b∈K,∀i,yQ ps i≠some b):Fresh W0.heap.size (G::L):=by
 have h1:=List.pairwise_cons.1 N.dj
 refine⟨fun K hK=>?_,fun K hK b hb=>?_,List.pairwise_cons.2 ⟨fun K hK b hb Yf=>?_,h1.2⟩⟩
 ·rcases List.mem_cons.1 hK with rfl|h
  ·exact hn<|N.nd F qm
  ·exact N.nd K<|by simp[h]
 ·rcases List.mem_cons.1 hK with rfl|h
  ·rcases hs b hb with h|h
   ·exact N.ge F qm b h
   ·exact(blkAt_has H h).1
  ·exact N.ge K (by simp[h]) b hb
 ·rcases hs b hb with h|h
  ·exact h1.1 K hK b h Yf
  ·exact ha K hK b Yf k h
theorem St.vJ(H:St W0 w ps Γ)(k:Nat)(hp:ps[k]? =some (.row v e 1 nn<|l.map<|Value.int .i64))(N:Fresh W0.heap.size L)(ha:∀K∈L,∀b∈K,∀i,yQ ps i≠some b):
 ∃G,Fresh W0.heap.size (G::L)/\nn=l.length/\St W0 w (ps.set k<|.row (Sv none 0 0) 0 1 0 []) (isF true G v l::Γ):=by
 have hn:nn=l.length:=by have:=H.rowLen k hp;simp at this;omega
 obtain⟨G,h1,h2,h3⟩:=H.freeze (α:=Int) k hp true (reps_of_ints w l) (fun _=>jS.nil _) qm hn
 exact⟨G,N.emp.ice H k h1 h2 ha,hn,h3⟩
theorem St.freezeB(H:St W0 w ps Γ)(k:Nat){l:List Bool}(hp:ps[k]? =some (.row v e 1 nn<|l.map Value.bool))(N:Fresh W0.heap.size L)(ha:∀K∈L,∀b∈K,∀i,yQ ps i≠some b):
 ∃G,Fresh W0.heap.size (G::L)/\nn=l.length/\St W0 w (ps.set k<|.row (Sv none 0 0) 0 1 0 []) (isF true G v l::Γ):=by
 have hn:nn=l.length:=by have:=H.rowLen k hp;simp at this;omega
 obtain⟨G,h1,h2,h3⟩:=H.freeze (α:=Bool) k hp true (reps_of_bools w l) (fun _=>jS.nil _) qm hn
 exact⟨G,N.emp.ice H k h1 h2 ha,hn,h3⟩
theorem St.jA{α:Type}[qK α](H:St W0 w ps Γ)(k:Nat)(hp:ps[k]? =some (.row v e (qK.size α) nn xs))(j:Nat){l:List α}(hf:Γ[j]? =some (qQ fr F xs l))(hz:0<qK.size α):
 ∃G,((∀b∈G,b∈F\/yQ ps k=some b)/\(F.Nodup->G.Nodup))/\nn=l.length/\St W0 w (ps.set k<|.row (Sv none 0 0) 0 1 0 []) (isF fr G v l::Γ):=by
 have hn:=H.xk k hp j hf hz
 obtain⟨G,h1,h2,h3⟩:=H.freeze (α:=α) k hp fr (H.get j hf).1 (H.get j hf).2 (H.facts _<|List.mem_of_getElem? hf).2 hn
 exact⟨G,⟨h1,h2⟩,hn,h3⟩
theorem St.rowIsI(H:St W0 w ps Γ)(k:Nat)(hp:ps[k]? =some (.row (Sv a nn c) e 1 nn<|l.map<|Value.int .i64)):∃G,nn=l.length/\qK.rep w G [Sv a nn c] l:=by
 have hn:nn=l.length:=by have:=H.rowLen k hp;simp at this;omega
 obtain⟨a',c',G,h1,h2,_⟩:=H.rowInts k hp hn
 exact⟨G,hn,h2⟩
theorem St.rowIsB(H:St W0 w ps Γ)(k:Nat){l:List Bool}(hp:ps[k]? =some (.row (Sv a nn c) e 1 nn<|l.map Value.bool)):∃G,nn=l.length/\qK.rep w G [Sv a nn c] l:=by
 have hn:nn=l.length:=by have:=H.rowLen k hp;simp at this;omega
 obtain⟨a',c',G,h1,h2,_⟩:=H.rowRep (α:=Bool) k hp (reps_of_bools w l) hn qm
 exact⟨G,hn,h2⟩
theorem St.Vg{α:Type}[qK α](H:St W0 w ps Γ)(k:Nat)(hp:ps[k]? =some (.row (Sv a nn c) e (qK.size α) nn xs))(j:Nat){l:List α}(hf:Γ[j]? =some (qQ fr F xs l))(hz:0<qK.size α):
 ∃G,nn=l.length/\qK.rep w G [Sv a nn c] l:=by
 have hn:=H.xk k hp j hf hz
 subst hn
 have ho:=(H.has _ (List.mem_of_getElem? hp):w.ownsRow W0.heap.size e (qK.size α) _ l.length xs)
 rcases ho.2 with ⟨hv,h0⟩|⟨g,ib,ij,hv,hb,hg,Uu,hcm,Ka,htake⟩
 ·have:l=[]:=List.eq_nil_of_length_eq_zero h0
  subst this
  rw[hv]
  exact⟨[],rfl,none,0,rfl,by simp,Or.inl ⟨rfl,rfl⟩⟩
 ·rw[hv]
  refine⟨g::F,rfl,_,ib,rfl,by unfold maxLen at hcm;omega,Or.inr ⟨g,0,F,xs,rfl,rfl,(Array.getElem?_eq_some_iff.1 hg).1,(H.get j hf).1,?_⟩⟩
  intro i u hi
  rw[Nat.zero_add,World.cell?,hg]
  rw[←htake,List.getElem?_take] at hi
  split at hi
  ·simpa using hi
  ·cases hi
theorem vz[Dfr]{xs:Array Operand}{f:FuncId}(args:Array Value)(hv:ev n ρ x=.func (.func f) fst oG)
 (mT:fst.toList++xs.toList.map (ev n ρ)++oG.toList=args.toList) (hf:∀args w,(callFunc f args).run P w=.ok (.enter f args) w)
 (hc:Calls P f args w fun e w'=>∃v,e=.returned v/\K (upd ρ d v) w'):
 OW P Q ⟨some d,.call ⟨.value x,xs,ts⟩,ty,pos,af,none⟩ n ρ w K:=by
 have hr:(execOp (ev n ρ) ⟨some d,.call ⟨.value x,xs,ts⟩,ty,pos,af,none⟩).run P w=.ok (.enter f args) w:=by
  have e:fst++xs.map (ev n ρ)++oG=args:=by apply Array.toList_inj.1;rw[←mT];simp
  simp[execOp,resolve,Deferred.ofValue,hv,invoke,hf,e]
 unfold OW
 intro K' hK
 unfold Oper.wp
 rw[XN,hr]
 refine hc.mono fun e w' ⟨v,he,hR⟩=>?_
 subst he
 show K' ((mk n ρ).put (some d) v) w'
 rw[mk_put]
 exact hK _ _ hR
end
theorem args_eq{P:Program}{f:FuncId}{as0 bs:Array Value}{R:Ending->World->Prop}(h:as0=bs)(k:Calls P f bs w R):Calls P f as0 w R:=h▸k
section
variable{W0 w : World}{ps : List Prv}{Γ : List Fact}
theorem St.Qc(H:St W0 w ps Γ)(k:Nat)(hp:ps[k]? =some (.row v e 1 nn<|l.map<|Value.int .i64)):nn=l.length:=by
 have:=H.rowLen k hp;simp at this;omega
theorem St.rowNB(H:St W0 w ps Γ)(k:Nat){l:List Bool}(hp:ps[k]? =some (.row v e 1 nn<|l.map Value.bool)):nn=l.length:=by
 have:=H.rowLen k hp;simp at this;omega
end
theorem snocI(l:yLI)(x:Int):l.map (Value.int .i64)++[.int .i64 x]=(l++[x]).map (Value.int .i64):=by simp
theorem snocB(l:List Bool)(x:Bool):l.map Value.bool++[Bv x]=(l++[x]).map Value.bool:=by simp
theorem Fresh.split(N:Fresh B ((F++G)::L)):Fresh B (F::G::L):=by
 have h1:=List.pairwise_cons.1 N.dj
 have h2:=List.nodup_append.1<|N.nd (F++G) qm
 refine⟨fun K hK=>?_,fun K hK b hb=>?_,List.pairwise_cons.2 ⟨fun K hK b hb Yf=>?_,List.pairwise_cons.2 ⟨fun K hK b hb=>h1.1 K hK b<|by simp[hb],h1.2⟩⟩⟩
 ·rcases List.mem_cons.1 hK with rfl|h
  ·exact h2.1
  ·rcases List.mem_cons.1 h with rfl|h
   ·exact h2.2.1
   ·exact N.nd K<|by simp[h]
 ·rcases List.mem_cons.1 hK with rfl|h
  ·exact N.ge (K++G) qm b<|by simp[hb]
  ·rcases List.mem_cons.1 h with rfl|h
   ·exact N.ge (F++K) qm b<|by simp[hb]
   ·exact N.ge K (by simp[h]) b hb
 ·rcases List.mem_cons.1 hK with rfl|h
  ·exact h2.2.2 b hb b Yf rfl
  ·exact h1.1 K h b (by simp[hb]) Yf
section
variable{W0 w w': World}{ps : List Prv}{Γ : List Fact}
theorem St.addNil{α:Type}[qK α](H:St W0 w ps Γ):St W0 w ps (isF true [] (Sv none 0 0) ([]:List α)::Γ):=
 H.add _ ⟨⟨none,0,rfl,by simp,Or.inl ⟨rfl,rfl⟩⟩,fun _=>jS.nil _⟩ (by simp[isF])
end
section
variable{P : Program}{Q : Exit -> Act -> World -> Prop}{n : Nat}{ρ : Env}{W0 w : World}{ps : List Prv}{Γ : List Fact}
 {d:Nat} {ty:TypeId} {pos:String} {af:Array Edge} {K:Env->World->Prop}
theorem o_idxArr[Dfr](iv:Int)(hu:P.underlying t=some (.array m e))(he:TI P e z sz fx)
 (hx:ev n ρ x=.pointer (some ⟨b,off,none⟩)) (hy:ev n ρ y=.int .i64 iv) (h0:0<=iv) (h1:iv<m)
 (k:K (upd ρ d<|.pointer<|some ⟨b,off+iv.toNat*sz,none⟩) w):OW P Q ⟨some d,.indexAddr t x y,ty,pos,af,none⟩ n ρ w K:=
 Q8 _ (by simp[execOp,hx,hy,Instr.indexAt,Instr.sureAddr,asIntOf,run_underlying hu,he.sizeOf,h0,h1,Addr.add_mid]) k
theorem y_idxArr{S:World->Prop}{gd:Option (Nat×Bool)}(b off m:Nat)(iv:Int)(hu:P.underlying t=some (.array m e))(he:TI P e z sz fx)
 (hx:ev n ρ x=.pointer (some ⟨b,off,none⟩)) (hy:ev n ρ y=.int .i64 iv) (h0:0<=iv) (h1:iv<m):
 ∀w',S w' ->(execOp (ev n ρ) ⟨some d,.indexAddr t x y,ty,pos,af,gd⟩).run P w'=.ok (.value<|.pointer<|some ⟨b,off+iv.toNat*sz,none⟩) w':=
 fun w' _=>by simp[execOp,hx,hy,Instr.indexAt,Instr.sureAddr,asIntOf,run_underlying hu,he.sizeOf,h0,h1,Addr.add_mid]
theorem o_storeArr[Dfr](H:St W0 w ps Γ)(k:Nat)(hp:ps[k]? =some (.box b (l.map<|Value.int .i64) tb))(u:Int)
 (hs:∀w,(Go.sizeOf t).run P w=.ok 1 w) (hx:ev n ρ x=.pointer (some ⟨b,0+iv.toNat*1,none⟩)) (hy:ev n ρ y=.int .i64 u) (hi:iv.toNat=i) (h2:i<l.length)
 (kk:∀w',St W0 w' (ps.set k<|.box b ((l.set i u).map<|Value.int .i64) tb) Γ->K ρ w'):OW P Q ⟨none,.store t x y,ty,pos,af,none⟩ n ρ w K:=by
 subst hi
 refine o_store1 H k hp (.int .i64 u) hs hx hy rfl qy fun w' H'=>kk w' ?_
 rwa [List.map_set,show iv.toNat=0+iv.toNat*1 by omega]
end
theorem Fresh.swap(N:Fresh B (F::G::L)):Fresh B (G::F::L):=by
 have h1:=List.pairwise_cons.1 N.dj
 have h2:=List.pairwise_cons.1 h1.2
 refine⟨fun K hK=>N.nd K ?_,fun K hK=>N.ge K ?_,List.pairwise_cons.2 ⟨fun K hK b hb Yf=>?_,List.pairwise_cons.2 ⟨fun K hK=>h1.1 K<|by simp[hK],h2.2⟩⟩⟩
 ·simp only[List.mem_cons] at hK ⊢
  rcases hK with h|h|h <;> simp[h]
 ·simp only[List.mem_cons] at hK ⊢
  rcases hK with h|h|h <;> simp[h]
 ·rcases List.mem_cons.1 hK with rfl|h
  ·exact h1.1 G qm b Yf hb
  ·exact h2.1 K h b hb Yf
section
variable{W0 w w': World}{ps : List Prv}{Γ : List Fact}
theorem St.pick(H:St W0 w ps Γ)(is js:yLN)(hi:is.map (fun i=>ps[i]?)=ph.map some:=by exact rfl)(hj:js.map (fun i=>Γ[i]?)=Γ'.map some:=by exact rfl)(hd:is.Nodup:=by decide):St W0 w ph Γ':=by
 have hl:is.length=ph.length:=by simpa using congrArg List.length hi
 have ei:∀k (hk:k<ph.length) (BJ :k<is.length),ps[is[k]]? =some ph[k]:=by
  intro k hk BJ
  have h1:(is.map<|fun i=>ps[i]?)[k]? =(ph.map some)[k]? :=by rw[hi]
  simpa [hk,BJ] using h1
 have abq:∀k b,yQ ph k=some b->∃hk:k<is.length,yQ ps is[k]=some b:=by
  intro k b h
  unfold yQ at h
  cases hp:ph[k]? with
  |none=>simp[hp] at h
  |some p=>
   obtain⟨hk,e⟩:=List.getElem?_eq_some_iff.1 hp
   refine⟨by omega,?_⟩
   unfold yQ
   rw[ei k hk qf,e]
   simpa [hp] using h
 refine⟨H.base,fun p hp=>?_,fun i j b h1 h2=>?_,fun f hf=>?_⟩
 ·have:some p∈ph.map some:=List.mem_map_of_mem hp
  rw[←hi] at this
  obtain⟨i,_,BG⟩:=List.mem_map.1 this
  exact H.has p<|List.mem_of_getElem? BG
 ·obtain⟨hk1,e1⟩:=abq i b h1
  obtain⟨hk2,e2⟩:=abq j b h2
  have e:=H.dist _ _ b e1 e2
  have hp:=List.pairwise_iff_getElem.1 hd
  rcases Nat.lt_trichotomy i j with h|h|h
  ·exact absurd e<|hp i j hk1 hk2 h
  ·exact h
  ·exact absurd e.symm<|hp j i hk2 hk1 h
 ·have:some f∈Γ'.map some:=List.mem_map_of_mem hf
  rw[←hj] at this
  obtain⟨i,_,BG⟩:=List.mem_map.1 this
  obtain⟨h1,h2⟩:=H.facts f<|List.mem_of_getElem? BG
  exact⟨h1,fun b hb=>⟨(h2 b hb).1,fun k hk=>by
   obtain⟨BJ,e⟩:=abq k b hk
   exact(h2 b hb).2 _ e⟩⟩
theorem St.unfree{α:Type}[qK α](H:St W0 w ps Γ)(j:Nat){l:List α}(hf:Γ[j]? =some (qQ fr F xs l)):St W0 w ps (qQ false F xs l::Γ):=
 H.vT j hf _ ⟨(H.get j hf).1,by simp⟩ (fun b hb=>hb)
theorem St.unfreeI{α:Type}[qK α](H:St W0 w ps Γ)(j:Nat){l:α}(hf:Γ[j]? =some (isF fr F v l)):St W0 w ps (isF false F v l::Γ):=
 H.vT j hf _ ⟨(H.get j hf).1,by simp⟩ (fun b hb=>hb)
theorem St.repsCat{α:Type}[qK α](H:St W0 w ps Γ)(f0:Bool)(j:Nat){l:List α}(hf:Γ[j]? =some (qQ fr F xs l))(m:Nat){l':List α}(hg:Γ[m]? =some (qQ SO G ys l'))(h3:f0=true->fr=true/\SO =true):
 St W0 w ps (qQ f0 (F++G) (xs++ys) (l++l')::Γ):=by
 refine H.add _ ⟨yU (H.get j hf).1 (H.get m hg).1,fun e=>((H.get j hf).2 (h3 e).1).app ((H.get m hg).2 (h3 e).2)⟩ fun b hb=>?_
 rcases List.mem_append.1 hb with h|h
 ·exact(H.facts _<|List.mem_of_getElem? hf).2 b h
 ·exact(H.facts _<|List.mem_of_getElem? hg).2 b h
theorem reps_bools{w:World}:∀ {F:yLN} {vs:List Value} {l:List Bool},reps w F vs l->F=[]/\vs=l.map Value.bool
 |_,_,[],⟨hF,hv⟩=>⟨hF,hv⟩
 |_,_,x::l,⟨F1,F2,c1,c2,hF,hv,h1,h2⟩=>by
  obtain⟨e1,e2⟩:=reps_bools h2
  obtain⟨k1,k2⟩:F1=[]/\c1=[Bv x]:=h1
  subst e1 e2 k1 k2
  exact⟨hF,hv⟩
end
theorem catB(l m:List Bool):l.map Value.bool++m.map Value.bool=(l++m).map Value.bool:=by simp
section
variable{P : Program}{Q : Exit -> Act -> World -> Prop}{n : Nat}{ρ : Env}{W w : World}{d : Nat}{ty : TypeId}{pos : String}{af : Array Edge}{K : Env -> World -> Prop}{ps : List Prv}{Γ : List Fact}{S : World -> Prop}{gd : Option (Nat × Bool)}
theorem jE[Dfr]{xs:Array (Nat×Operand)}(cs:List Value)(WI:List (Nat×Value))(k:K (upd ρ d<|.agg cs.toArray) w)(hx:xs.toList.map (fun p=>(p.1,ev n ρ p.2))=WI:=by exact rfl)(h:P.built t WI=some cs.toArray:=by kernel_rfl):
 OW P Q ⟨some d,.build t xs,ty,pos,af,none⟩ n ρ w K:=by
 subst hx
 refine Q8 _ ?_ k
 have:=run_build (P:=P) w t (xs.map fun p=>(p.1,ev n ρ p.2)) cs.toArray<|by simpa using h
 simp[execOp,this]
theorem neg_i64{a:Int}(h: -9223372036854775807<=a/\a<=9223372036854775807):IntKind.i64.wrap (-a)= -a:=wrap_in qf
theorem run_neg{P:Program}{a:Int}(h: -9223372036854775807<=a/\a<=9223372036854775807):(Op.unary .neg<|.int .i64 a).run P w=.ok (.int .i64 (-a)) w:=by
 simp[Op.unary,Op.intArith,neg_i64 h]
theorem y_neg(a:Int)(hx:ev n ρ x=.int .i64 a)(h: -9223372036854775807<=a/\a<=9223372036854775807):∀w',S w' ->(execOp (ev n ρ) ⟨some d,.unOp .neg t x,ty,pos,af,gd⟩).run P w'=.ok (.value<|.int .i64 (-a)) w':=
 fun w' _=>by simp[execOp,hx,run_neg h]
theorem o_quo[Dfr](a b:Int)(hx:ev n ρ x=.int .i64 a)(hy:ev n ρ y=.int .i64 b)(h0:0<=a/\a<=9223372036854775807)(h1:0<b)(k:K (upd ρ d<|.int .i64<|a / b) w):
 OW P Q ⟨some d,.binOp .quo t x y u,ty,pos,af,none⟩ n ρ w K:=
 Q8 _ (by
  have e:a.tdiv b=a / b:=Int.tdiv_eq_ediv_of_nonneg h0.1
  have e2:IntKind.i64.wrap (a / b)=a / b:=wrap_in ⟨by have:=Int.ediv_nonneg h0.1 (Int.le_of_lt h1);omega,by have:=Int.ediv_le_self b h0.1;omega⟩
  simp[execOp,hx,hy,eqGuard,binOp,Op.intDiv,show b≠0 by omega,e,e2]) k
theorem y_quo(a b:Int)(hx:ev n ρ x=.int .i64 a)(hy:ev n ρ y=.int .i64 b)(h0:0<=a/\a<=9223372036854775807)(h1:0<b):
 ∀w',S w' ->(execOp (ev n ρ) ⟨some d,.binOp .quo t x y u,ty,pos,af,gd⟩).run P w'=.ok (.value<|.int .i64<|a / b) w':=
 fun w' _=>by
  have e:a.tdiv b=a / b:=Int.tdiv_eq_ediv_of_nonneg h0.1
  have e2:IntKind.i64.wrap (a / b)=a / b:=wrap_in ⟨by have:=Int.ediv_nonneg h0.1 (Int.le_of_lt h1);omega,by have:=Int.ediv_le_self b h0.1;omega⟩
  simp[execOp,hx,hy,eqGuard,binOp,Op.intDiv,show b≠0 by omega,e,e2]
theorem max_if(x y:Int):(if y>x then y else x)=max x y:=by omega
theorem min_if(x y:Int):(if y<x then y else x)=min x y:=by omega
theorem o_max[Dfr](a b:Int)(hx:ev n ρ x=.int .i64 a)(hy:ev n ρ y=.int .i64 b)(k:K (upd ρ d<|.int .i64<|max a b) w):OW P Q ⟨some d,.call ⟨.builtin .max,#[x,y],ts⟩,ty,pos,af,none⟩ n ρ w K:=
 Q8 _ (by rw[←max_if];simp[execOp,resolve,invoke,builtin,hx,hy,run_max_int2]) k
theorem o_min[Dfr](a b:Int)(hx:ev n ρ x=.int .i64 a)(hy:ev n ρ y=.int .i64 b)(k:K (upd ρ d<|.int .i64<|min a b) w):OW P Q ⟨some d,.call ⟨.builtin .min,#[x,y],ts⟩,ty,pos,af,none⟩ n ρ w K:=
 Q8 _ (by rw[←min_if];simp[execOp,resolve,invoke,builtin,hx,hy,run_min_int2]) k
theorem y_max(a b:Int)(hx:ev n ρ x=.int .i64 a)(hy:ev n ρ y=.int .i64 b):∀w',S w' ->(execOp (ev n ρ) ⟨some d,.call ⟨.builtin .max,#[x,y],ts⟩,ty,pos,af,gd⟩).run P w'=.ok (.value<|.int .i64<|max a b) w':=
 fun w' _=>by rw[←max_if];simp[execOp,resolve,invoke,builtin,hx,hy,run_max_int2]
end
def Meet[Dfr](A:Env->World->Prop)(n:Nat):Exit->Act->World->Prop
 | .normal,a,w=>∃ρ,a=mk n ρ/\A ρ w
 |_,_,_=>False
theorem c_cut[Dfr]{P:Program}{Q:Exit->Act->World->Prop}{x:Code}(A:Env->World->Prop)(h1:x.wp P (Meet A n) (mk n ρ) w)(h2:∀ρ w,A ρ w->Q .normal (mk n ρ) w):x.wp P Q (mk n ρ) w:=by
 refine Code.wp_mono ?_ h1
 intro e a w h
 cases e with
 |normal=>obtain⟨ρ,rfl,hA⟩:=h;exact h2 ρ w hA
 |exit _=>exact h.elim
 |goto _=>exact h.elim
 |ret=>exact h.elim
 |panic _=>exact h.elim
 |outgrown=>exact h.elim
theorem meet[Dfr]{A:Env->World->Prop}(h:A ρ w):Meet A n .normal (mk n ρ) w:=⟨ρ,rfl,h⟩
theorem St.merge(H:St W0 w0 ps Γ)(K:St w0 w ph Γ')(M:Fresh w0.heap.size (Γ'.map Fact.F)):St W0 w (ph ++ps) (Γ' ++Γ):=by
 have hge:∀f∈Γ',∀b∈f.F,w0.heap.size<=b:=fun f hf b hb=>M.ge f.F (List.mem_map_of_mem hf) b hb
 have Ah:∀i b,yQ (ph ++ps) i=some b->(i<ph.length/\yQ ph i=some b/\w0.heap.size<=b)\/(ph.length<=i/\yQ ps (i-ph.length)=some b/\b<w0.heap.size):=by
  intro i b h
  rcases Nat.lt_or_ge i ph.length with hi|hi
  ·have:yQ ph i=some b:=by unfold yQ at h ⊢;rwa [List.getElem?_append_left hi] at h
   exact Or.inl ⟨hi,this,(blkAt_has K this).1⟩
  ·have:yQ ps (i-ph.length)=some b:=by unfold yQ at h ⊢;rwa [List.getElem?_append_right hi] at h
   exact Or.inr ⟨hi,this,(blkAt_has H this).2⟩
 refine⟨Ext.trans' H.base K.base,fun p hp=>?_,fun i j b hi hj=>?_,fun f hf=>?_⟩
 ·rcases List.mem_append.1 hp with h|h
  ·have hk:=K.has p h
   cases p with
   |box b cs t=>exact⟨Nat.le_trans H.base.size hk.1,hk.2⟩
   |row v e sz n xs=>exact ownsRow_up hk H.base.size
  ·exact(H.has p h).stay fun b hb=>K.base.block b ((H.has p h).lt hb).2
 ·rcases Ah i b hi with ⟨h1,h2,h3⟩|⟨h1,h2,h3⟩ <;> rcases Ah j b hj with ⟨k1,k2,k3⟩|⟨k1,k2,k3⟩
  ·exact K.dist i j b h2 k2
  ·omega
  ·omega
  ·have:=H.dist _ _ b h2 k2;omega
 ·rcases List.mem_append.1 hf with h|h
  ·obtain⟨h1,h2⟩:=K.facts f h
   exact⟨h1,fun b hb=>⟨(h2 b hb).1,fun i hi=>by
    rcases Ah i b hi with ⟨_,k,_⟩|⟨_,_,k⟩
    ·exact(h2 b hb).2 i k
    ·have:=hge f h b hb;omega⟩⟩
  ·obtain⟨h1,h2⟩:=H.facts f h
   exact⟨f.stay w0 w h1 fun b hb=>K.base.block b (h2 b hb).1,fun b hb=>⟨Nat.lt_of_lt_of_le (h2 b hb).1 K.base.size,fun i hi=>by
    rcases Ah i b hi with ⟨_,_,k⟩|⟨_,k,_⟩
    ·have:=(h2 b hb).1;omega
    ·exact(h2 b hb).2 _ k⟩⟩
theorem Fresh.merge{C:Nat}(N:Fresh B L)(h:B<=C)(hl:∀F∈L,∀b∈F,b<C)(M:Fresh C L'):Fresh B (L' ++L):=by
 refine⟨fun F hF=>?_,fun F hF b hb=>?_,List.pairwise_append.2 ⟨M.dj,N.dj,fun F hF G hG b hb hbG=>by have:=M.ge F hF b hb;have:=hl G hG b hbG;omega⟩⟩
 ·rcases List.mem_append.1 hF with k|k
  ·exact M.nd F k
  ·exact N.nd F k
 ·rcases List.mem_append.1 hF with k|k
  ·exact Nat.le_trans h<|M.ge F k b hb
  ·exact N.ge F k b hb
theorem St.mergeIn(H:St W0 w0 ps Γ)(K:St w0 w ph [f])(j:Nat)(hg:Γ[j]? =some g)(hF:∀b∈f.F,b∈g.F):St W0 w (ph ++ps) (f::Γ):=by
 have H1:St W0 w (ph ++ps) ([]++Γ):=St.merge H (K.sub [] qm)<|Fresh.nil _
 exact H1.vT j hg f (K.get 0 rfl) hF
theorem XW{α:Type}(l:List α):∀(is:yLN),is.all (fun i=>Nat.blt i l.length)=true->is.map (fun i=>l[i]?)=(is.filterMap fun i=>l[i]?).map some
 | [],_=>rfl
 |i::is,h=>by
  simp only[List.all_cons,Bool.and_eq_true] at h
  have hi:i<l.length:=by simpa [Nat.blt_eq] using h.1
  simp[List.getElem?_eq_getElem hi,XW l is h.2]
theorem St.zW(H:St W0 w ps Γ)(is js:yLN)(hi:is.all (fun i=>Nat.blt i ps.length)=true:=by exact rfl)(hj:js.all (fun i=>Nat.blt i Γ.length)=true:=by exact rfl)(hd:is.Nodup:=by decide):
 St W0 w (is.filterMap fun i=>ps[i]?) (js.filterMap fun i=>Γ[i]?):=H.pick is js (XW ps is hi) (XW Γ js hj) hd
theorem X4[Dfr]{P:Program}{Q:Exit->Act->World->Prop}{l:List Oper}(hm:P.follows .mixedOrders=true)(H:St W0 w ps Γ)(is:yLN)
 (k:St W0 w.drew ps Γ->RW P l Q (fun w=>St W0 w (is.filterMap fun i=>ps[i]?) Γ) n l.toArray.size (Array.replicate l.toArray.size false) ρ w.drew)
 (hi:is.all (fun i=>Nat.blt i ps.length)=true:=by exact rfl) (hd:is.Nodup:=by decide):(Code.region id l.toArray true).wp P Q (mk n ρ) w:=by
 have H':=H.ext<|ext_drew _
 refine c_draw (fun w=>St W0 w (is.filterMap fun i=>ps[i]?) Γ) hm ?_<|k H'
 exact H'.pick is (List.range Γ.length) (XW ps is hi) (by
  apply List.ext_getElem?
  intro i
  rcases Nat.lt_or_ge i Γ.length with h|h
  ·simp[h]
  ·simp[h]) hd
theorem St.repsCons{α:Type}[qK α](H:St W0 w ps Γ)(f0:Bool)(j:Nat){x:α}(hf:Γ[j]? =some (isF fr F v x))(m:Nat){l:List α}(hg:Γ[m]? =some (qQ SO G ys l))(h3:f0=true->fr=true/\SO =true):
 St W0 w ps (qQ f0 (F++G) (v::ys) (x::l)::Γ):=by
 refine H.add _ ⟨⟨F,G,[v],ys,rfl,rfl,(H.get j hf).1,(H.get m hg).1⟩,fun e=>((H.get j hf).2 (h3 e).1).app ((H.get m hg).2 (h3 e).2)⟩ fun b hb=>?_
 rcases List.mem_append.1 hb with h|h
 ·exact(H.facts _<|List.mem_of_getElem? hf).2 b h
 ·exact(H.facts _<|List.mem_of_getElem? hg).2 b h
section
variable{P : Program}{Q : Exit -> Act -> World -> Prop}{n : Nat}{ρ : Env}{W0 w : World}{ps : List Prv}{Γ : List Fact}
 {d:Nat} {ty:TypeId} {pos:String} {af:Array Edge} {K:Env->World->Prop}
theorem jq[Dfr](H:St W0 w ps Γ)(cs:List Value)(k:∀b w',St W0 w' (.box b cs t::ps) Γ->K (upd ρ d<|.pointer<|some ⟨b,0,none⟩) w')
 (hx:ev n ρ x=v:=by exact rfl) (hc:v.cells.toList=cs:=by exact rfl):OW P Q ⟨some d,.box t x,ty,pos,af,none⟩ n ρ w K:=by
 subst hc
 exact o_box H v hx k
theorem zn[Dfr](H:St W0 w ps Γ)(ht:TI P t z m fx)(cs:List Value)(k:∀b w',St W0 w' (.box b cs t::ps) Γ->K (upd ρ d<|.pointer<|some ⟨b,0,none⟩) w')
 (hc:z.cells.toList=cs:=by exact rfl):OW P Q ⟨some d,.alloc t,ty,pos,af,none⟩ n ρ w K:=by
 subst hc
 exact o_alloc H ht k
theorem zF[Dfr](H:St W0 w ps Γ)(i:Nat)(JW :List Value)(hs:∀w,(Go.sizeOf t).run P w=.ok m w)
 (k:∀w',St W0 w' (ps.set i<|.box b JW tb) Γ->K ρ w') (hx:ev n ρ x=.pointer (some ⟨b,off,none⟩):=by exact rfl) (hy:ev n ρ y=v:=by exact rfl) (hm:v.cells.size=m:=by exact rfl) (hp:ps[i]? =some (.box b cs tb):=by exact rfl)
 (h1:JW.all Value.oneCell'=true:=by exact rfl) (ho:off+v.cells.size<=cs.length:=by exact Nat.le_of_ble_eq_true rfl)
 (hc:cs.take off++v.cells.toList++cs.drop (off+v.cells.size)=JW :=by exact rfl):OW P Q ⟨none,.store t x y,ty,pos,af,none⟩ n ρ w K:=by
 subst hc hm
 exact o_store H i hp v hs hx hy (fun u hu=>List.all_eq_true.1 h1 u (by simp at hu ⊢;simp[hu])) ho k
theorem zh[Dfr](H:St W0 w ps Γ)(i:Nat)(JW :List Value)(hs:∀w,(Go.sizeOf t).run P w=.ok 1 w)
 (k:∀w',St W0 w' (ps.set i<|.box b JW tb) Γ->K ρ w') (hx:ev n ρ x=.pointer (some ⟨b,off,none⟩):=by exact rfl) (hy:ev n ρ y=v:=by exact rfl) (hp:ps[i]? =some (.box b cs tb):=by exact rfl)
 (h1:v.oneCell'=true:=by exact rfl) (ho:off<cs.length:=by exact Nat.le_of_ble_eq_true rfl) (hc:cs.set off v=JW :=by exact rfl):OW P Q ⟨none,.store t x y,ty,pos,af,none⟩ n ρ w K:=by
 subst hc
 exact o_store1 H i hp v hs hx hy h1 ho k
theorem zy[Dfr](H:St W0 w ps Γ)(hu:P.underlying t=some (.slice e))(he:TI P e z sz fx)(cs:List Value)
 (k:∀b w',St W0 w' (.box b cs e::ps) Γ->K (upd ρ d<|Sv (some ⟨b,0,none⟩) 1 1) w') (hx:ev n ρ x=v:=by exact rfl) (h0:0<sz:=by decide) (hs:sz<=16777216:=by decide) (hv:v.cells.size=sz:=by exact rfl) (hc:v.cells.toList=cs:=by exact rfl):
 OW P Q ⟨some d,.buildSlice t 1 #[(0,x)],ty,pos,af,none⟩ n ρ w K:=by
 subst hc
 exact o_build1 H hu he h0 hs v hx hv k
end
section
variable{W0 w : World}{ps : List Prv}{Γ : List Fact}
theorem St.nilRowB(H:St W0 w ps Γ)(e:TypeId):St W0 w (.row (Sv none 0 0) e 1 0 (([]:List Bool).map Value.bool)::ps) Γ:=H.nilRow e 1
theorem St.boxRowI(H:St W0 w ps Γ)(i:Nat)(l:yLI)(nn:Nat)(hp:ps[i]? =some (.box b (l.map<|Value.int .i64) e):=by exact rfl)(hl:l.length=nn:=by exact rfl)(hm:nn<=maxLen:=by decide):
 St W0 w (ps.set i<|.row (Sv (some ⟨b,0,none⟩) nn nn) e 1 nn<|l.map<|Value.int .i64) Γ:=H.boxRow i hp 1 nn (by simp[hl]) hm
theorem St.boxRowB(H:St W0 w ps Γ)(i:Nat)(l:List Bool)(nn:Nat)(hp:ps[i]? =some (.box b (l.map Value.bool) e):=by exact rfl)(hl:l.length=nn:=by exact rfl)(hm:nn<=maxLen:=by decide):
 St W0 w (ps.set i<|.row (Sv (some ⟨b,0,none⟩) nn nn) e 1 nn<|l.map Value.bool) Γ:=H.boxRow i hp 1 nn (by simp[hl]) hm
def zL:yLN->List Prv->List Prv
 | [],ps=>ps
 |i::is,ps=>zL is<|ps.eraseIdx i
theorem St.erases:∀(is:yLN) {ps:List Prv},St W0 w ps Γ->St W0 w (zL is ps) Γ
 | [],_,H=>H
 |i::is,ps,H=>St.erases is<|H.sel _ (List.eraseIdx_sublist ps i) _ fun f h=>h
end
end
section
class FldC(P:Program)(t:TypeId)(i:Nat)(j:outParam Nat):Prop where
 out:∃(fs:Array Field) (f:Field) (m:Nat),P.underlying t=some (.struct fs)/\fs[i]? =some f/\f.offset=j/\∀w,(Go.sizeOf f.type).run P w=.ok (m+1) w
class SclC(P:Program)(t:TypeId):Prop where
 out:∀w,(isAgg t).run P w=.ok false w
class SliC(P:Program)(t:TypeId)(e:outParam TypeId):Prop where
 out:P.underlying t=some (.slice e)
class TIC(P:Program)(t:TypeId)(z:outParam Value)(sz fx :outParam Nat):Prop where
 out:TI P t z sz fx
class Xi(P:Program)(f:FuncId):Prop where
 out:∀args w,(callFunc f args).run P w=.ok (.enter f args) w
section
variable{P : Program}{fL : Array Oper}{Q : Exit -> Act -> World -> Prop}{n : Nat}{ρ : Env}{W0 w : World}{rest : List Oper}{ps : List Prv}{Γ : List Fact}
 {d:Nat} {op:Op} {ty:TypeId} {pos:String} {af:Array Edge} {K:Env->World->Prop} {S:World->Prop} {l:List Oper} {fuel:Nat} {ae:Array Bool}
theorem en{f:FuncId}{fn:Func}{c:Code}{R:Ending->World->Prop}(hf:P.funcs[f]? =some fn)(hn:fn.ntmps=n)(h:c.wp P (bodyPost P fn R) (mk n<|env0 args.toList) w)
 (hb:fn.body=some c:=by exact rfl) (hs:args.size<=n:=by exact Nat.le_of_ble_eq_true rfl):Calls P f args w R:=enter hf hb hn hs h
theorem oF[Dfr][hF:FldC P t i j](hx:ev n ρ x=.pointer (some ⟨b,off,none⟩))(k:WL P fL Q n rest (upd ρ d<|.pointer<|some ⟨b,off+j,none⟩) w):
 WL P fL Q n (⟨some d,.fieldAddr t x i,ty,pos,af,none⟩::rest) ρ w:=by
 obtain⟨fs,f,m,h1,h2,h3,h4⟩:=hF.out
 exact sw<|o_field b off j h1 h2 h3 h4 hx k
theorem oL[Dfr][hA:SclC P t](hx:ev n ρ x=.pointer (some ⟨b,off,none⟩))(hc:w.cell? ⟨b,off,none⟩=some v)(k:WL P fL Q n rest (upd ρ d v) w):
 WL P fL Q n (⟨some d,.load t x,ty,pos,af,none⟩::rest) ρ w:=sw<|zJ v hA.out hx hc k
theorem oN[Dfr][hS:SliC P t e](hx:ev n ρ x=Sv a m c)(k:WL P fL Q n rest (upd ρ d<|.int .i64 m) w):
 WL P fL Q n (⟨some d,.call ⟨.builtin .len,#[x],#[t]⟩,ty,pos,af,none⟩::rest) ρ w:=sw<|o_len hS.out a m c hx k
theorem oI[Dfr][hS:SliC P t e][hT:TIC P e z sz fx](hx:ev n ρ x=Sv (some ⟨b,off,none⟩) m c)(hy:ev n ρ y=.int .i64 iv)
 (k:WL P fL Q n rest (upd ρ d<|.pointer<|some ⟨b,off+iv.toNat*sz,none⟩) w) (h0:0<=iv:=by omega) (h1:iv<m:=by omega):WL P fL Q n (⟨some d,.indexAddr t x y,ty,pos,af,none⟩::rest) ρ w:=
 sw (o_idxAt iv hS.out hT.out hx hy h0 h1 k)
theorem tF[Dfr](i:Nat)(hi:l.toArray[i]? =some ⟨some d,.fieldAddr t x j,ty,pos,af,none⟩)[hF:FldC P t j k](hx:ev n ρ x=.pointer (some ⟨b,off,none⟩))(hS:S w)
 (h:RW P l Q S n fuel (ae.setIfInBounds i true) (upd ρ d<|.pointer<|some ⟨b,off+k,none⟩) w) (hk:takeOk l ae i=true:=by kernel_rfl)
 (hQ:NoPanic Q d (.pointer<|some ⟨b,off+k,none⟩):=by exact fun _ _ _ h=>h):RW P l Q S n (fuel+1) ae ρ w:=by
 obtain⟨fs,f,m,h1,h2,h3,h4⟩:=hF.out
 exact rt i _ (y_field b off k h1 h2 h3 h4 hx) hS h hi hk hQ
theorem tL[Dfr](i:Nat)(hi:l.toArray[i]? =some ⟨some d,.load t x,ty,pos,af,none⟩)[hA:SclC P t](hx:ev n ρ x=.pointer (some ⟨b,off,none⟩))
 (hc:∀w',S w' ->w'.cell? ⟨b,off,none⟩=some v) (hS:S w) (h:RW P l Q S n fuel (ae.setIfInBounds i true) (upd ρ d v) w) (hk:takeOk l ae i=true:=by kernel_rfl)
 (hQ:NoPanic Q d v:=by exact fun _ _ _ h=>h):RW P l Q S n (fuel+1) ae ρ w:=rt i v (jU hA.out hx hc) hS h hi hk hQ
theorem tN[Dfr](i:Nat)(hi:l.toArray[i]? =some ⟨some d,.call ⟨.builtin .len,#[x],#[t]⟩,ty,pos,af,none⟩)[hL:SliC P t e](hx:ev n ρ x=Sv a m c)(hS:S w)
 (h:RW P l Q S n fuel (ae.setIfInBounds i true) (upd ρ d<|.int .i64 m) w) (hk:takeOk l ae i=true:=by kernel_rfl) (hQ:NoPanic Q d (.int .i64 m):=by exact fun _ _ _ h=>h):
 RW P l Q S n (fuel+1) ae ρ w:=rt i _ (y_len hL.out a m c hx) hS h hi hk hQ
theorem tI[Dfr](i:Nat)(hi:l.toArray[i]? =some ⟨some d,.indexAddr t x y,ty,pos,af,none⟩)[hL:SliC P t e][hT:TIC P e z sz fx]
 (hx:ev n ρ x=Sv (some ⟨b,off,none⟩) m c) (hy:ev n ρ y=.int .i64 iv) (hS:S w) (h:RW P l Q S n fuel (ae.setIfInBounds i true) (upd ρ d<|.pointer<|some ⟨b,off+iv.toNat*sz,none⟩) w)
 (h0:0<=iv:=by omega) (h1:iv<m:=by omega) (hk:takeOk l ae i=true:=by kernel_rfl) (hQ:NoPanic Q d (.pointer<|some ⟨b,off+iv.toNat*sz,none⟩):=by exact fun _ _ _ h=>h):RW P l Q S n (fuel+1) ae ρ w:=
 rt i _ (y_idxAt b off m c iv hL.out hT.out hx hy h0 h1) hS h hi hk hQ
theorem gF[Dfr]{e:Nat}(i:Nat)(hi:l.toArray[i]? =some ⟨some d,.fieldAddr t x j,ty,pos,af,some (i',bb)⟩)[hF:FldC P t j k](hx:ev n ρ x=.pointer (some ⟨b,off,none⟩))(hS:S w)
 (h:RW P l Q S n fuel (ae.setIfInBounds i true) (upd ρ d<|.pointer<|some ⟨b,off+k,none⟩) w) (hk:takeOk l ae i=true:=by kernel_rfl)
 (hd:dstAt l i'=some e:=by exact rfl) (hv:ev n ρ (.tmp e)=Bv bb:=by exact rfl) (hQ:NoPanic Q d (.pointer<|some ⟨b,off+k,none⟩):=by exact fun _ _ _ h=>h):RW P l Q S n (fuel+1) ae ρ w:=by
 obtain⟨fs,f,m,h1,h2,h3,h4⟩:=hF.out
 exact rg i _ e (y_field b off k h1 h2 h3 h4 hx) hS h hi hk hd hv hQ
theorem gL[Dfr]{e:Nat}(i:Nat)(hi:l.toArray[i]? =some ⟨some d,.load t x,ty,pos,af,some (i',bb)⟩)[hA:SclC P t](hx:ev n ρ x=.pointer (some ⟨b,off,none⟩))
 (hc:∀w',S w' ->w'.cell? ⟨b,off,none⟩=some v) (hS:S w) (h:RW P l Q S n fuel (ae.setIfInBounds i true) (upd ρ d v) w) (hk:takeOk l ae i=true:=by kernel_rfl)
 (hd:dstAt l i'=some e:=by exact rfl) (hv:ev n ρ (.tmp e)=Bv bb:=by exact rfl) (hQ:NoPanic Q d v:=by exact fun _ _ _ h=>h):RW P l Q S n (fuel+1) ae ρ w:=
 rg i v e (jU hA.out hx hc) hS h hi hk hd hv hQ
theorem gN[Dfr]{e:Nat}(i:Nat)(hi:l.toArray[i]? =some ⟨some d,.call ⟨.builtin .len,#[x],#[t]⟩,ty,pos,af,some (i',bb)⟩)[hL:SliC P t e'](hx:ev n ρ x=Sv a m c)(hS:S w)
 (h:RW P l Q S n fuel (ae.setIfInBounds i true) (upd ρ d<|.int .i64 m) w) (hk:takeOk l ae i=true:=by kernel_rfl)
 (hd:dstAt l i'=some e:=by exact rfl) (hv:ev n ρ (.tmp e)=Bv bb:=by exact rfl) (hQ:NoPanic Q d (.int .i64 m):=by exact fun _ _ _ h=>h):
 RW P l Q S n (fuel+1) ae ρ w:=rg i _ e (y_len hL.out a m c hx) hS h hi hk hd hv hQ
theorem gI[Dfr]{e:Nat}(i:Nat)(hi:l.toArray[i]? =some ⟨some d,.indexAddr t x y,ty,pos,af,some (i',bb)⟩)[hL:SliC P t e'][hT:TIC P e' z sz fx]
 (hx:ev n ρ x=Sv (some ⟨b,off,none⟩) m c) (hy:ev n ρ y=.int .i64 iv) (hS:S w) (h:RW P l Q S n fuel (ae.setIfInBounds i true) (upd ρ d<|.pointer<|some ⟨b,off+iv.toNat*sz,none⟩) w)
 (h0:0<=iv:=by omega) (h1:iv<m:=by omega) (hk:takeOk l ae i=true:=by kernel_rfl)
 (hd:dstAt l i'=some e:=by exact rfl) (hv:ev n ρ (.tmp e)=Bv bb:=by exact rfl) (hQ:NoPanic Q d (.pointer<|some ⟨b,off+iv.toNat*sz,none⟩):=by exact fun _ _ _ h=>h):RW P l Q S n (fuel+1) ae ρ w:=
 rg i _ e (y_idxAt b off m c iv hL.out hT.out hx hy h0 h1) hS h hi hk hd hv hQ
theorem oc[Dfr]{xs:Array Operand}{ts:Array TypeId}{f:FuncId}{R:Value->World->Prop}[hC:Xi P f]
 (hc:Calls P f args w fun e w'=>∃v,e=.returned v/\R v w' /\Ext w w') (k:∀v w',R v w' ->Ext w w' ->K (upd ρ d v) w')
 (hv:ev n ρ x=.func (.func f) fst oG:=by exact rfl) (mT:fst.toList++xs.toList.map (ev n ρ)++oG.toList=args.toList:=by exact rfl):
 OW P Q ⟨some d,.call ⟨.value x,xs,ts⟩,ty,pos,af,none⟩ n ρ w K:=o_call args hv mT hC.out hc k
theorem oq[Dfr]{xs:Array Operand}{ts:Array TypeId}{f:FuncId}{val:Value}[hC:Xi P f]
 (hc:Calls P f args w (Ret (fun v _=>v=val) w)) (H:St W0 w ps Γ) (k:∀w',St W0 w' ps Γ->K (upd ρ d val) w')
 (hv:ev n ρ x=.func (.func f) fst oG:=by exact rfl) (mT:fst.toList++xs.toList.map (ev n ρ)++oG.toList=args.toList:=by exact rfl):
 OW P Q ⟨some d,.call ⟨.value x,xs,ts⟩,ty,pos,af,none⟩ n ρ w K:=oc hc (fun _ w' e h=>e▸k w' (H.ext h)) hv mT
end
section
variable{W0 w : World}{ps : List Prv}{Γ : List Fact}
theorem St.vG(H:St W0 w ps Γ)(i:Nat)(hf:Γ[i]? =some (isF fr F (Sv (some ⟨b,o,none⟩) m c) l))(k:Nat)(h1:k<l.length):
 w.cell? ⟨b,o+(k:Int).toNat*1,none⟩=some (.int .i64<|l[k]!):=H.elemInt i hf (k:Int) qf qf
theorem St.XZ(H:St W0 w ps Γ)(i:Nat){l:List Bool}(hf:Γ[i]? =some (isF fr F (Sv (some ⟨b,o,none⟩) m c) l))(k:Nat)(h1:k<l.length):
 w.cell? ⟨b,o+(k:Int).toNat*1,none⟩=some (Bv<|l[k]!):=H.elemBool i hf (k:Int) qf qf
end
section
variable{P : Program}{Q : Exit -> Act -> World -> Prop}{n : Nat}{ρ : Env}{w : World}{x : Operand}{y z : Code}
theorem cD[Dfr][Decidable p](hc:ev n ρ x=Bv (decide p))(h1:p->y.wp P Q (mk n ρ) w)(h2:¬p->z.wp P Q (mk n ρ) w):(Code.cond x y z).wp P Q (mk n ρ) w:=vg _ hc (fun h=>h1<|of_decide_eq_true h) fun h=>h2<|of_decide_eq_false h
theorem cE[Dfr]{a b:Int}(hc:ev n ρ x=Bv (a == b))(h1:a=b->y.wp P Q (mk n ρ) w)(h2:a≠b->z.wp P Q (mk n ρ) w):(Code.cond x y z).wp P Q (mk n ρ) w:=vg _ hc (fun h=>h1<|eq_of_beq h) fun h=>h2<|ne_of_beq_false h
theorem cP[Dfr](hc:ev n ρ x=Bv (dec p))(h1:p->y.wp P Q (mk n ρ) w)(h2:¬p->z.wp P Q (mk n ρ) w):(Code.cond x y z).wp P Q (mk n ρ) w:=vg _ hc (fun h=>h1<|Qz h) fun h=>h2<|vF h
theorem cQ[Dfr](hc:ev n ρ x=Bv (!(dec p)))(h1:¬p->y.wp P Q (mk n ρ) w)(h2:p->z.wp P Q (mk n ρ) w):(Code.cond x y z).wp P Q (mk n ρ) w:=vg _ hc (fun h=>h1<|vF<|xq h) fun h=>h2<|Qz<|xf h
theorem ro[Dfr]{l:List Oper}{S:World->Prop}{fuel:Nat}{ae:Array Bool}{op:Op}{pos:String}{af:Array Edge}(i:Nat)(hi:l.toArray[i]? =some ⟨dst,op,ty,pos,af,none⟩)
 (h:OW P Q ⟨dst,op,ty,pos,af,none⟩ n ρ w fun ρ w=>S w/\RW P l Q S n fuel (ae.setIfInBounds i true) ρ w) (hr:Region.ready .any l.toArray ae=[i]:=by kernel_rfl):RW P l Q S n (fuel+1) ae ρ w:=
 jC [i] hr qm (yV hi h jD)
end
theorem uE2(h1:ρ d1=v1:=by rfl)(h2:ρ d2=v2:=by rfl):ρ=upd (upd ρ d1 v1) d2 v2:=zY (zY rfl h1) h2
theorem uE3(h1:ρ d1=v1:=by rfl)(h2:ρ d2=v2:=by rfl)(h3:ρ d3=v3:=by rfl):ρ=upd (upd (upd ρ d1 v1) d2 v2) d3 v3:=zY (zY (zY rfl h1) h2) h3
theorem uE4(h1:ρ d1=v1:=by rfl)(h2:ρ d2=v2:=by rfl)(h3:ρ d3=v3:=by rfl)(h4:ρ d4=v4:=by rfl):ρ=upd (upd (upd (upd ρ d1 v1) d2 v2) d3 v3) d4 v4:=zY (zY (zY (zY rfl h1) h2) h3) h4
theorem uE5(h1:ρ d1=v1:=by rfl)(h2:ρ d2=v2:=by rfl)(h3:ρ d3=v3:=by rfl)(h4:ρ d4=v4:=by rfl)(h5:ρ d5=v5:=by rfl):ρ=upd (upd (upd (upd (upd ρ d1 v1) d2 v2) d3 v3) d4 v4) d5 v5:=zY (zY (zY (zY (zY rfl h1) h2) h3) h4) h5
theorem uE6(h1:ρ d1=v1:=by rfl)(h2:ρ d2=v2:=by rfl)(h3:ρ d3=v3:=by rfl)(h4:ρ d4=v4:=by rfl)(h5:ρ d5=v5:=by rfl)(h6:ρ d6=v6:=by rfl):ρ=upd (upd (upd (upd (upd (upd ρ d1 v1) d2 v2) d3 v3) d4 v4) d5 v5) d6 v6:=zY (zY (zY (zY (zY (zY rfl h1) h2) h3) h4) h5) h6
theorem uE7(h1:ρ d1=v1:=by rfl)(h2:ρ d2=v2:=by rfl)(h3:ρ d3=v3:=by rfl)(h4:ρ d4=v4:=by rfl)(h5:ρ d5=v5:=by rfl)(h6:ρ d6=v6:=by rfl)(h7:ρ d7=v7:=by rfl):ρ=upd (upd (upd (upd (upd (upd (upd ρ d1 v1) d2 v2) d3 v3) d4 v4) d5 v5) d6 v6) d7 v7:=zY (zY (zY (zY (zY (zY (zY rfl h1) h2) h3) h4) h5) h6) h7
theorem uE8(h1:ρ d1=v1:=by rfl)(h2:ρ d2=v2:=by rfl)(h3:ρ d3=v3:=by rfl)(h4:ρ d4=v4:=by rfl)(h5:ρ d5=v5:=by rfl)(h6:ρ d6=v6:=by rfl)(h7:ρ d7=v7:=by rfl)(h8:ρ d8=v8:=by rfl):ρ=upd (upd (upd (upd (upd (upd (upd (upd ρ d1 v1) d2 v2) d3 v3) d4 v4) d5 v5) d6 v6) d7 v7) d8 v8:=zY (zY (zY (zY (zY (zY (zY (zY rfl h1) h2) h3) h4) h5) h6) h7) h8
theorem uE9(h1:ρ d1=v1:=by rfl)(h2:ρ d2=v2:=by rfl)(h3:ρ d3=v3:=by rfl)(h4:ρ d4=v4:=by rfl)(h5:ρ d5=v5:=by rfl)(h6:ρ d6=v6:=by rfl)(h7:ρ d7=v7:=by rfl)(h8:ρ d8=v8:=by rfl)(h9:ρ d9=v9:=by rfl):ρ=upd (upd (upd (upd (upd (upd (upd (upd (upd ρ d1 v1) d2 v2) d3 v3) d4 v4) d5 v5) d6 v6) d7 v7) d8 v8) d9 v9:=zY (zY (zY (zY (zY (zY (zY (zY (zY rfl h1) h2) h3) h4) h5) h6) h7) h8) h9
theorem uE10(h1:ρ d1=v1:=by rfl)(h2:ρ d2=v2:=by rfl)(h3:ρ d3=v3:=by rfl)(h4:ρ d4=v4:=by rfl)(h5:ρ d5=v5:=by rfl)(h6:ρ d6=v6:=by rfl)(h7:ρ d7=v7:=by rfl)(h8:ρ d8=v8:=by rfl)(h9:ρ d9=v9:=by rfl)(dD:ρ PJ=PH:=by rfl):ρ=upd (upd (upd (upd (upd (upd (upd (upd (upd (upd ρ d1 v1) d2 v2) d3 v3) d4 v4) d5 v5) d6 v6) d7 v7) d8 v8) d9 v9) PJ PH:=zY (zY (zY (zY (zY (zY (zY (zY (zY (zY rfl h1) h2) h3) h4) h5) h6) h7) h8) h9) dD
theorem uE11(h1:ρ d1=v1:=by rfl)(h2:ρ d2=v2:=by rfl)(h3:ρ d3=v3:=by rfl)(h4:ρ d4=v4:=by rfl)(h5:ρ d5=v5:=by rfl)(h6:ρ d6=v6:=by rfl)(h7:ρ d7=v7:=by rfl)(h8:ρ d8=v8:=by rfl)(h9:ρ d9=v9:=by rfl)(dD:ρ PJ=PH:=by rfl)(cZ:ρ Yt=Wc:=by rfl):ρ=upd (upd (upd (upd (upd (upd (upd (upd (upd (upd (upd ρ d1 v1) d2 v2) d3 v3) d4 v4) d5 v5) d6 v6) d7 v7) d8 v8) d9 v9) PJ PH) Yt Wc:=zY (zY (zY (zY (zY (zY (zY (zY (zY (zY (zY rfl h1) h2) h3) h4) h5) h6) h7) h8) h9) dD) cZ
theorem uE12(h1:ρ d1=v1:=by rfl)(h2:ρ d2=v2:=by rfl)(h3:ρ d3=v3:=by rfl)(h4:ρ d4=v4:=by rfl)(h5:ρ d5=v5:=by rfl)(h6:ρ d6=v6:=by rfl)(h7:ρ d7=v7:=by rfl)(h8:ρ d8=v8:=by rfl)(h9:ρ d9=v9:=by rfl)(dD:ρ PJ=PH:=by rfl)(cZ:ρ Yt=Wc:=by rfl)(lw:ρ d12=v12:=by rfl):ρ=upd (upd (upd (upd (upd (upd (upd (upd (upd (upd (upd (upd ρ d1 v1) d2 v2) d3 v3) d4 v4) d5 v5) d6 v6) d7 v7) d8 v8) d9 v9) PJ PH) Yt Wc) d12 v12:=zY (zY (zY (zY (zY (zY (zY (zY (zY (zY (zY (zY rfl h1) h2) h3) h4) h5) h6) h7) h8) h9) dD) cZ) lw
theorem uE13(h1:ρ d1=v1:=by rfl)(h2:ρ d2=v2:=by rfl)(h3:ρ d3=v3:=by rfl)(h4:ρ d4=v4:=by rfl)(h5:ρ d5=v5:=by rfl)(h6:ρ d6=v6:=by rfl)(h7:ρ d7=v7:=by rfl)(h8:ρ d8=v8:=by rfl)(h9:ρ d9=v9:=by rfl)(dD:ρ PJ=PH:=by rfl)(cZ:ρ Yt=Wc:=by rfl)(lw:ρ d12=v12:=by rfl)(Ed:ρ d13=Ws:=by rfl):ρ=upd (upd (upd (upd (upd (upd (upd (upd (upd (upd (upd (upd (upd ρ d1 v1) d2 v2) d3 v3) d4 v4) d5 v5) d6 v6) d7 v7) d8 v8) d9 v9) PJ PH) Yt Wc) d12 v12) d13 Ws:=zY (zY (zY (zY (zY (zY (zY (zY (zY (zY (zY (zY (zY rfl h1) h2) h3) h4) h5) h6) h7) h8) h9) dD) cZ) lw) Ed
theorem uE14{d14:Nat}{v14:Value}(h1:ρ d1=v1:=by rfl)(h2:ρ d2=v2:=by rfl)(h3:ρ d3=v3:=by rfl)(h4:ρ d4=v4:=by rfl)(h5:ρ d5=v5:=by rfl)(h6:ρ d6=v6:=by rfl)(h7:ρ d7=v7:=by rfl)(h8:ρ d8=v8:=by rfl)(h9:ρ d9=v9:=by rfl)(dD:ρ PJ=PH:=by rfl)(cZ:ρ Yt=Wc:=by rfl)(lw:ρ d12=v12:=by rfl)(Ed:ρ d13=Ws:=by rfl)(mo:ρ d14=v14:=by rfl):ρ=upd (upd (upd (upd (upd (upd (upd (upd (upd (upd (upd (upd (upd (upd ρ d1 v1) d2 v2) d3 v3) d4 v4) d5 v5) d6 v6) d7 v7) d8 v8) d9 v9) PJ PH) Yt Wc) d12 v12) d13 Ws) d14 v14:=zY (zY (zY (zY (zY (zY (zY (zY (zY (zY (zY (zY (zY (zY rfl h1) h2) h3) h4) h5) h6) h7) h8) h9) dD) cZ) lw) Ed) mo
abbrev rr(a:yOA)(n c:Nat)(e:TypeId)(sz:Nat)(xs:List Value):Prv:=.row (Sv a n c) e sz n xs
section
variable{α : Type}[qK α]
abbrev sF(fr:Bool)(F:yLN)(a:yOA)(c:Nat)(l:List α):Fact:=isF (α:=List α) fr F (Sv a l.length c) l
end
theorem St.dF(H:St W0 w ps Γ)(k:Nat):St W0 w ps (Γ.drop k):=H.sub _ fun _ h=>List.mem_of_mem_drop h
section
variable{P : Program}{fL : Array Oper}{Q Q': Exit -> Act -> World -> Prop}{n : Nat}{ρ : Env}{w : World}{a : Act}{N N1 N2 N3 : Act -> World -> Prop}{id id1 : Nat}{l : List Oper}{y z : Code}
theorem zjn[Dfr](h:N (mk n ρ) w):WL P fL (Exit.then N Q) n [] ρ w:=xU<|t_n h
theorem zcr[Dfr](h:WL P l.toArray (Exit.then (y.wp P Q) Q) n l ρ w):((Code.region id l.toArray false).seq y).wp P Q (mk n ρ) w:=xM<|xX h
theorem zjr[Dfr](h:Q .ret (mk n ρ) w):WL P fL (Exit.then (Code.ret.wp P Q) Q') n [] ρ w:=zjn<|c_ret h
theorem zcc[Dfr](h:WL P l.toArray (Exit.then (y.wp P<|Exit.then (z.wp P Q) Q)<|Exit.then (z.wp P Q) Q) n l ρ w):(((Code.region id l.toArray false).seq y).seq z).wp P Q (mk n ρ) w:=xM<|zcr h
theorem zjc[Dfr](h:WL P l.toArray (Exit.then (y.wp P Q) Q) n l ρ w):WL P fL (Exit.then (((Code.region id l.toArray false).seq y).wp P Q) Q') n [] ρ w:=zjn<|zcr h
theorem zjcc[Dfr](h:WL P l.toArray (Exit.then (y.wp P<|Exit.then (z.wp P Q) Q)<|Exit.then (z.wp P Q) Q) n l ρ w):WL P fL (Exit.then ((((Code.region id l.toArray false).seq y).seq z).wp P Q) Q') n [] ρ w:=zjn<|zcc h
theorem zx4[Dfr](h:N3 (mk n ρ) w):(Code.exit id).wp P (Exit.then N1<|Exit.then N2<|Exit.inBlock id<|Exit.then N3 Q) (mk n ρ) w:=c_exit<|t_x<|t_x<|b_x<|t_n h
theorem zr5(h:Q .ret a w):Exit.inBlock id (Exit.then N1<|Exit.then N2<|Exit.inBlock id1<|Exit.then N3 Q) .ret a w:=b_r<|t_r<|t_r<|b_r<|t_r h
theorem cTr[Dfr]{y z:Code}(hc:ev n ρ x=Bv true)(h:y.wp P Q (mk n ρ) w):(Code.cond x y z).wp P Q (mk n ρ) w:=vg true hc (fun _=>h) fun h=>absurd h qj
theorem cFr[Dfr]{y z:Code}(hc:ev n ρ x=Bv false)(h:z.wp P Q (mk n ρ) w):(Code.cond x y z).wp P Q (mk n ρ) w:=vg false hc (fun h=>absurd h qj) fun _=>h
theorem rH1{fn:Func}{R:Value->World->Prop}{t:Nat}(v:Value)(H:St W0 w ps Γ)(h:R v w)(hr:fn.results=#[.tmp t]:=by exact rfl)(hv:ev n ρ (.tmp t)=v:=by exact rfl):
 bodyPost P fn (Ret R W0) .ret (mk n ρ) w:=ret1 v hr hv ⟨_,rfl,h,H.base⟩
end
section
variable{P : Program}{Q : Exit -> Act -> World -> Prop}{n : Nat}{ρ : Env}{w : World}{l : List Oper}{S : World -> Prop}{fuel BP : Nat}{ae pP : Array Bool}
theorem QX[Dfr](A:Env->World->Prop)(BP :Nat)(pP :Array Bool)(h1:∀ρ w,A ρ w->RW P l Q S n BP pP ρ w)(h2:(∀ρ w,A ρ w->RW P l Q S n BP pP ρ w)->RW P l Q S n fuel ae ρ w):RW P l Q S n fuel ae ρ w:=h2 h1
theorem yP[Dfr]{A:Env->World->Prop}(L:∀ρ w,A ρ w->RW P l Q S n BP pP ρ w)(h:A ρ w)(e:ae=pP :=by kernel_rfl)(ef:fuel=BP :=by kernel_rfl):RW P l Q S n fuel ae ρ w:=by
 subst e ef;exact L _ _ h
end
end
section
theorem ti2:TI Tryz.prog 2 (.int .i64 0) 1 8:=by unfold TI;kernel_rfl
theorem ti3:TI Tryz.prog 3 (.int .i64 0) 1 8:=by unfold TI;kernel_rfl
theorem ti4:TI Tryz.prog 4 (Bv false) 1 1:=by unfold TI;kernel_rfl
theorem ti5:TI Tryz.prog 5 (.int .u8 0) 1 1:=by unfold TI;kernel_rfl
theorem ti9:TI Tryz.prog 9 (.string ⟨#[]⟩) 1 16:=by unfold TI;kernel_rfl
theorem ti24:TI Tryz.prog 24 (Sv none 0 0) 1 24:=by unfold TI;kernel_rfl
theorem ti27:TI Tryz.prog 27 (.agg #[.int .i64 0,Sv none 0 0,Sv none 0 0]) 3 56:=by unfold TI;kernel_rfl
theorem ti29:TI Tryz.prog 29 (Sv none 0 0) 1 24:=by unfold TI;kernel_rfl
theorem ti31:TI Tryz.prog 31 (.agg #[Sv none 0 0,Sv none 0 0,Sv none 0 0]) 3 72:=by unfold TI;kernel_rfl
theorem ti39:TI Tryz.prog 39 (.agg #[Sv none 0 0,Sv none 0 0]) 2 48:=by unfold TI;kernel_rfl
theorem ti44:TI Tryz.prog 44 (.agg #[.int .i64 0,.int .i64 0,.int .i64 0]) 3 24:=by unfold TI;kernel_rfl
theorem ti47:TI Tryz.prog 47 (.agg #[.int .i64 0,Sv none 0 0,Sv none 0 0,Bv false,Sv none 0 0,Sv none 0 0,Sv none 0 0,Sv none 0 0]) 8 160:=by unfold TI;kernel_rfl
theorem ti49:TI Tryz.prog 49 (.agg #[.int .i64 0,Sv none 0 0,Sv none 0 0,Bv false,Sv none 0 0,Sv none 0 0,Sv none 0 0,Sv none 0 0,.int .i64 0,Sv none 0 0,Sv none 0 0,Bv false,Sv none 0 0,Sv none 0 0,Sv none 0 0,Sv none 0 0]) 16 320:=by unfold TI;kernel_rfl
theorem ti77:TI Tryz.prog 77 (.agg #[.int .i64 0,.int .i64 0,.int .i64 0,Sv none 0 0]) 4 48:=by unfold TI;kernel_rfl
theorem ti110:TI Tryz.prog 110 (.agg #[.int .i64 0,.int .i64 0,Sv none 0 0,Sv none 0 0,Sv none 0 0,Sv none 0 0,Sv none 0 0,Sv none 0 0,Bv false]) 9 168:=by unfold TI;kernel_rfl
theorem ti129:TI Tryz.prog 129 (.agg #[.int .i64 0,.int .i64 0,.int .i64 0,.int .i64 0,.int .i64 0,.int .i64 0]) 6 48:=by unfold TI;kernel_rfl
theorem ti156:TI Tryz.prog 156 (.agg #[.int .i64 0,.int .i64 0,.int .i64 0,.int .i64 0,.int .i64 0,.int .i64 0]) 6 48:=by unfold TI;kernel_rfl
theorem ti161:TI Tryz.prog 161 (.agg #[.int .i64 0,Sv none 0 0]) 2 32:=by unfold TI;kernel_rfl
instance iS24:SliC Tryz.prog 24 2:=⟨underlying24⟩
instance iT2:TIC Tryz.prog 2 (.int .i64 0) 1 8:=⟨ti2⟩
instance iA2:SclC Tryz.prog 2:=⟨isAgg2⟩
instance iC162:Xi Tryz.prog 162:=⟨call162⟩
instance iC37:Xi Tryz.prog 37:=⟨call37⟩
instance iC121:Xi Tryz.prog 121:=⟨call121⟩
instance iC122:Xi Tryz.prog 122:=⟨call122⟩
instance iC128:Xi Tryz.prog 128:=⟨call128⟩
instance iC44:Xi Tryz.prog 44:=⟨call44⟩
instance iC132:Xi Tryz.prog 132:=⟨call132⟩
instance iF27_0:FldC Tryz.prog 27 0 0:=⟨⟨_,_,_,underlying27,rfl,rfl,sizeOf2⟩⟩
instance iF27_1:FldC Tryz.prog 27 1 1:=⟨⟨_,_,_,underlying27,rfl,rfl,sizeOf24⟩⟩
instance iA24:SclC Tryz.prog 24:=⟨isAgg24⟩
instance iF110_0:FldC Tryz.prog 110 0 0:=⟨⟨_,_,_,underlying110,rfl,rfl,sizeOf2⟩⟩
instance iF110_1:FldC Tryz.prog 110 1 1:=⟨⟨_,_,_,underlying110,rfl,rfl,sizeOf2⟩⟩
instance iF110_8:FldC Tryz.prog 110 8 8:=⟨⟨_,_,_,underlying110,rfl,rfl,sizeOf4⟩⟩
instance iA4:SclC Tryz.prog 4:=⟨isAgg4⟩
instance iF110_7:FldC Tryz.prog 110 7 7:=⟨⟨_,_,_,underlying110,rfl,rfl,sizeOf108⟩⟩
instance iA108:SclC Tryz.prog 108:=⟨isAgg108⟩
instance iS108:SliC Tryz.prog 108 161:=⟨underlying108⟩
instance iF110_2:FldC Tryz.prog 110 2 2:=⟨⟨_,_,_,underlying110,rfl,rfl,sizeOf24⟩⟩
instance iC89:Xi Tryz.prog 89:=⟨call89⟩
instance iF110_3:FldC Tryz.prog 110 3 3:=⟨⟨_,_,_,underlying110,rfl,rfl,sizeOf24⟩⟩
instance iF110_4:FldC Tryz.prog 110 4 4:=⟨⟨_,_,_,underlying110,rfl,rfl,sizeOf24⟩⟩
instance iF110_5:FldC Tryz.prog 110 5 5:=⟨⟨_,_,_,underlying110,rfl,rfl,sizeOf24⟩⟩
instance iF110_6:FldC Tryz.prog 110 6 6:=⟨⟨_,_,_,underlying110,rfl,rfl,sizeOf24⟩⟩
instance iC90:Xi Tryz.prog 90:=⟨call90⟩
instance iT161:TIC Tryz.prog 161 (.agg #[.int .i64 0,Sv none 0 0]) 2 32:=⟨ti161⟩
instance iF161_0:FldC Tryz.prog 161 0 0:=⟨⟨_,_,_,underlying161,rfl,rfl,sizeOf2⟩⟩
instance iC131:Xi Tryz.prog 131:=⟨call131⟩
instance iF161_1:FldC Tryz.prog 161 1 1:=⟨⟨_,_,_,underlying161,rfl,rfl,sizeOf24⟩⟩
instance iF31_0:FldC Tryz.prog 31 0 0:=⟨⟨_,_,_,underlying31,rfl,rfl,sizeOf28⟩⟩
instance iA28:SclC Tryz.prog 28:=⟨isAgg28⟩
instance iS28:SliC Tryz.prog 28 4:=⟨underlying28⟩
instance iF31_1:FldC Tryz.prog 31 1 1:=⟨⟨_,_,_,underlying31,rfl,rfl,sizeOf29⟩⟩
instance iA29:SclC Tryz.prog 29:=⟨isAgg29⟩
instance iS29:SliC Tryz.prog 29 24:=⟨underlying29⟩
instance iT4:TIC Tryz.prog 4 (Bv false) 1 1:=⟨ti4⟩
instance iF31_2:FldC Tryz.prog 31 2 2:=⟨⟨_,_,_,underlying31,rfl,rfl,sizeOf24⟩⟩
instance iT24:TIC Tryz.prog 24 (Sv none 0 0) 1 24:=⟨ti24⟩
instance iC87:Xi Tryz.prog 87:=⟨call87⟩
instance iF27_2:FldC Tryz.prog 27 2 2:=⟨⟨_,_,_,underlying27,rfl,rfl,sizeOf25⟩⟩
instance iA25:SclC Tryz.prog 25:=⟨isAgg25⟩
instance iS25:SliC Tryz.prog 25 110:=⟨underlying25⟩
instance iT110:TIC Tryz.prog 110 (.agg #[.int .i64 0,.int .i64 0,Sv none 0 0,Sv none 0 0,Sv none 0 0,Sv none 0 0,Sv none 0 0,Sv none 0 0,Bv false]) 9 168:=⟨ti110⟩
instance iC88:Xi Tryz.prog 88:=⟨call88⟩
instance iC181:Xi Tryz.prog 181:=⟨call181⟩
instance iC182:Xi Tryz.prog 182:=⟨call182⟩
instance iC180:Xi Tryz.prog 180:=⟨call180⟩
instance iC147:Xi Tryz.prog 147:=⟨call147⟩
instance iC177:Xi Tryz.prog 177:=⟨call177⟩
instance iC102:Xi Tryz.prog 102:=⟨call102⟩
instance iC178:Xi Tryz.prog 178:=⟨call178⟩
instance iC155:Xi Tryz.prog 155:=⟨call155⟩
instance iC160:Xi Tryz.prog 160:=⟨call160⟩
instance iC77:Xi Tryz.prog 77:=⟨call77⟩
instance iC161:Xi Tryz.prog 161:=⟨call161⟩
instance iC78:Xi Tryz.prog 78:=⟨call78⟩
instance iC119:Xi Tryz.prog 119:=⟨call119⟩
instance iC120:Xi Tryz.prog 120:=⟨call120⟩
instance iA3:SclC Tryz.prog 3:=⟨isAgg3⟩
instance iC76:Xi Tryz.prog 76:=⟨call76⟩
instance iC124:Xi Tryz.prog 124:=⟨call124⟩
instance iC127:Xi Tryz.prog 127:=⟨call127⟩
instance iC79:Xi Tryz.prog 79:=⟨call79⟩
instance iC80:Xi Tryz.prog 80:=⟨call80⟩
instance iC39:Xi Tryz.prog 39:=⟨call39⟩
instance iC86:Xi Tryz.prog 86:=⟨call86⟩
instance iC81:Xi Tryz.prog 81:=⟨call81⟩
instance iC173:Xi Tryz.prog 173:=⟨call173⟩
instance iF116_1:FldC Tryz.prog 116 1 1:=⟨⟨_,_,_,underlying116,rfl,rfl,sizeOf3⟩⟩
instance iF116_0:FldC Tryz.prog 116 0 0:=⟨⟨_,_,_,underlying116,rfl,rfl,sizeOf22⟩⟩
instance iA22:SclC Tryz.prog 22:=⟨isAgg22⟩
instance iS22:SliC Tryz.prog 22 5:=⟨underlying22⟩
instance iT5:TIC Tryz.prog 5 (.int .u8 0) 1 1:=⟨ti5⟩
instance iF116_2:FldC Tryz.prog 116 2 2:=⟨⟨_,_,_,underlying116,rfl,rfl,sizeOf114⟩⟩
instance iA114:SclC Tryz.prog 114:=⟨isAgg114⟩
instance iA5:SclC Tryz.prog 5:=⟨isAgg5⟩
instance iC55:Xi Tryz.prog 55:=⟨call55⟩
instance iS45:SliC Tryz.prog 45 29:=⟨underlying45⟩
instance iT29:TIC Tryz.prog 29 (Sv none 0 0) 1 24:=⟨ti29⟩
instance iC29:Xi Tryz.prog 29:=⟨call29⟩
instance iC148:Xi Tryz.prog 148:=⟨call148⟩
instance iF47_1:FldC Tryz.prog 47 1 1:=⟨⟨_,_,_,underlying47,rfl,rfl,sizeOf29⟩⟩
instance iF47_2:FldC Tryz.prog 47 2 2:=⟨⟨_,_,_,underlying47,rfl,rfl,sizeOf24⟩⟩
instance iF47_4:FldC Tryz.prog 47 4 4:=⟨⟨_,_,_,underlying47,rfl,rfl,sizeOf28⟩⟩
instance iF47_5:FldC Tryz.prog 47 5 5:=⟨⟨_,_,_,underlying47,rfl,rfl,sizeOf29⟩⟩
instance iC71:Xi Tryz.prog 71:=⟨call71⟩
instance iF47_6:FldC Tryz.prog 47 6 6:=⟨⟨_,_,_,underlying47,rfl,rfl,sizeOf45⟩⟩
instance iA45:SclC Tryz.prog 45:=⟨isAgg45⟩
instance iF47_7:FldC Tryz.prog 47 7 7:=⟨⟨_,_,_,underlying47,rfl,rfl,sizeOf45⟩⟩
instance iC72:Xi Tryz.prog 72:=⟨call72⟩
instance iF47_0:FldC Tryz.prog 47 0 0:=⟨⟨_,_,_,underlying47,rfl,rfl,sizeOf2⟩⟩
instance iF47_3:FldC Tryz.prog 47 3 3:=⟨⟨_,_,_,underlying47,rfl,rfl,sizeOf4⟩⟩
instance iC149:Xi Tryz.prog 149:=⟨call149⟩
instance iC30:Xi Tryz.prog 30:=⟨call30⟩
instance iC31:Xi Tryz.prog 31:=⟨call31⟩
instance iC32:Xi Tryz.prog 32:=⟨call32⟩
instance iC43:Xi Tryz.prog 43:=⟨call43⟩
instance iC169:Xi Tryz.prog 169:=⟨call169⟩
instance iC36:Xi Tryz.prog 36:=⟨call36⟩
instance iC144:Xi Tryz.prog 144:=⟨call144⟩
instance iC83:Xi Tryz.prog 83:=⟨call83⟩
instance iC168:Xi Tryz.prog 168:=⟨call168⟩
instance iC115:Xi Tryz.prog 115:=⟨call115⟩
instance iC60:Xi Tryz.prog 60:=⟨call60⟩
instance iF86_2:FldC Tryz.prog 86 2 2:=⟨⟨_,_,_,underlying86,rfl,rfl,sizeOf39⟩⟩
instance iF39_0:FldC Tryz.prog 39 0 0:=⟨⟨_,_,_,underlying39,rfl,rfl,sizeOf36⟩⟩
instance iA36:SclC Tryz.prog 36:=⟨isAgg36⟩
instance iS36:SliC Tryz.prog 36 49:=⟨underlying36⟩
instance iT49:TIC Tryz.prog 49 (.agg #[.int .i64 0,Sv none 0 0,Sv none 0 0,Bv false,Sv none 0 0,Sv none 0 0,Sv none 0 0,Sv none 0 0,.int .i64 0,Sv none 0 0,Sv none 0 0,Bv false,Sv none 0 0,Sv none 0 0,Sv none 0 0,Sv none 0 0]) 16 320:=⟨ti49⟩
instance iF49_0:FldC Tryz.prog 49 0 0:=⟨⟨_,_,_,underlying49,rfl,rfl,sizeOf47⟩⟩
instance iF49_1:FldC Tryz.prog 49 1 8:=⟨⟨_,_,_,underlying49,rfl,rfl,sizeOf47⟩⟩
instance iC103:Xi Tryz.prog 103:=⟨call103⟩
instance iC157:Xi Tryz.prog 157:=⟨call157⟩
instance iC170:Xi Tryz.prog 170:=⟨call170⟩
instance iC153:Xi Tryz.prog 153:=⟨call153⟩
instance iF86_1:FldC Tryz.prog 86 1 1:=⟨⟨_,_,_,underlying86,rfl,rfl,sizeOf24⟩⟩
instance iF86_0:FldC Tryz.prog 86 0 0:=⟨⟨_,_,_,underlying86,rfl,rfl,sizeOf67⟩⟩
instance iA67:SclC Tryz.prog 67:=⟨isAgg67⟩
instance iC154:Xi Tryz.prog 154:=⟨call154⟩
instance iF44_0:FldC Tryz.prog 44 0 0:=⟨⟨_,_,_,underlying44,rfl,rfl,sizeOf2⟩⟩
instance iF44_1:FldC Tryz.prog 44 1 1:=⟨⟨_,_,_,underlying44,rfl,rfl,sizeOf2⟩⟩
instance iF44_2:FldC Tryz.prog 44 2 2:=⟨⟨_,_,_,underlying44,rfl,rfl,sizeOf2⟩⟩
instance iF39_1:FldC Tryz.prog 39 1 1:=⟨⟨_,_,_,underlying39,rfl,rfl,sizeOf37⟩⟩
instance iA37:SclC Tryz.prog 37:=⟨isAgg37⟩
instance iS37:SliC Tryz.prog 37 77:=⟨underlying37⟩
instance iT77:TIC Tryz.prog 77 (.agg #[.int .i64 0,.int .i64 0,.int .i64 0,Sv none 0 0]) 4 48:=⟨ti77⟩
instance iF77_2:FldC Tryz.prog 77 2 2:=⟨⟨_,_,_,underlying77,rfl,rfl,sizeOf2⟩⟩
instance iF77_0:FldC Tryz.prog 77 0 0:=⟨⟨_,_,_,underlying77,rfl,rfl,sizeOf2⟩⟩
instance iF77_1:FldC Tryz.prog 77 1 1:=⟨⟨_,_,_,underlying77,rfl,rfl,sizeOf2⟩⟩
instance iF77_3:FldC Tryz.prog 77 3 3:=⟨⟨_,_,_,underlying77,rfl,rfl,sizeOf29⟩⟩
instance iC101:Xi Tryz.prog 101:=⟨call101⟩
instance iF74_1:FldC Tryz.prog 74 1 2:=⟨⟨_,_,_,underlying74,rfl,rfl,sizeOf27⟩⟩
instance iF74_2:FldC Tryz.prog 74 2 5:=⟨⟨_,_,_,underlying74,rfl,rfl,sizeOf24⟩⟩
instance iF74_0:FldC Tryz.prog 74 0 0:=⟨⟨_,_,_,underlying74,rfl,rfl,sizeOf39⟩⟩
instance iC138:Xi Tryz.prog 138:=⟨call138⟩
instance iC41:Xi Tryz.prog 41:=⟨call41⟩
instance iC139:Xi Tryz.prog 139:=⟨call139⟩
instance iC143:Xi Tryz.prog 143:=⟨call143⟩
instance iC145:Xi Tryz.prog 145:=⟨call145⟩
instance iC28:Xi Tryz.prog 28:=⟨call28⟩
instance iC158:Xi Tryz.prog 158:=⟨call158⟩
instance iC114:Xi Tryz.prog 114:=⟨call114⟩
instance iC159:Xi Tryz.prog 159:=⟨call159⟩
instance iC54:Xi Tryz.prog 54:=⟨call54⟩
instance iC110:Xi Tryz.prog 110:=⟨call110⟩
instance iC111:Xi Tryz.prog 111:=⟨call111⟩
instance iS34:SliC Tryz.prog 34 44:=⟨underlying34⟩
instance iT44:TIC Tryz.prog 44 (.agg #[.int .i64 0,.int .i64 0,.int .i64 0]) 3 24:=⟨ti44⟩
instance iC66:Xi Tryz.prog 66:=⟨call66⟩
instance iC69:Xi Tryz.prog 69:=⟨call69⟩
instance iC26:Xi Tryz.prog 26:=⟨call26⟩
instance iC42:Xi Tryz.prog 42:=⟨call42⟩
instance iC116:Xi Tryz.prog 116:=⟨call116⟩
instance iC117:Xi Tryz.prog 117:=⟨call117⟩
instance iS152:SliC Tryz.prog 152 3:=⟨underlying152⟩
instance iT3:TIC Tryz.prog 3 (.int .i64 0) 1 8:=⟨ti3⟩
instance iC73:Xi Tryz.prog 73:=⟨call73⟩
instance iC74:Xi Tryz.prog 74:=⟨call74⟩
instance iC75:Xi Tryz.prog 75:=⟨call75⟩
instance iC33:Xi Tryz.prog 33:=⟨call33⟩
instance iC12:Xi Tryz.prog 12:=⟨call12⟩
instance iC10:Xi Tryz.prog 10:=⟨call10⟩
instance iC13:Xi Tryz.prog 13:=⟨call13⟩
instance iC11:Xi Tryz.prog 11:=⟨call11⟩
instance iC14:Xi Tryz.prog 14:=⟨call14⟩
end
section
variable{cl : Nat}
theorem XI(w:World)(n:Int)(lo:Int)(hi:Int):Calls Tryz.prog 37 #[yI n,yI lo,yI hi] w (Ret (fun v w'=>v=Bv (inR n lo hi)) w):=by
 refine en func37 ntmps37 ?_
 have H:=St.start w
 refine zcr<|sp (Bv false)<|zjc<|sp (yI n)<|sp (yI lo)<|sp (Bv<|decide ((n:Int)>=lo))<|sp (Bv<|decide ((n:Int)>=lo)) ?_
 cases h1:(decide ((n:Int)>=lo))
 ·replace h1:=of_decide_eq_false h1
  refine xO [11,12,13]<|sp (Bv false)<|sp (Bv false)<|zjr<|rH1 (Bv false) H ?_
  rw[inR_no ‹_›]
 replace h1:=of_decide_eq_true h1
 refine qJ 10 rfl rfl<|sp (yI n)<|qJ 10 rfl rfl<|sp (yI hi)<|qJ 10 rfl rfl<|sq 3<|zjr<|rH1 (Bv<|decide ((n:Int)<=hi)) H ?_
 rw[inR_yes ‹_›]
theorem Vd(w:World)(n:Int)(lo:Int)(hi:Int):Calls Tryz.prog 44 #[yI n,yI lo,yI hi] w (Ret (fun v w'=>v=Bv (inR n lo hi)) w):=by
 refine en func44 ntmps44 ?_
 have H:=St.start w
 refine zcr<|sp (Bv false)<|zjc<|sp (yI n)<|sp (yI lo)<|sp (Bv<|decide ((n:Int)>=lo))<|sp (Bv<|decide ((n:Int)>=lo)) ?_
 cases h1:(decide ((n:Int)>=lo))
 ·replace h1:=of_decide_eq_false h1
  refine xO [11,12,13]<|sp (Bv false)<|sp (Bv false)<|zjr<|rH1 (Bv false) H ?_
  rw[inR_no ‹_›]
 replace h1:=of_decide_eq_true h1
 refine qJ 10 rfl rfl<|sp (yI n)<|qJ 10 rfl rfl<|sp (yI hi)<|qJ 10 rfl rfl<|sq 3<|zjr<|rH1 (Bv<|decide ((n:Int)<=hi)) H ?_
 rw[inR_yes ‹_›]
theorem isWithin_ok(w:World)(l:yLI)(m:yLI){cm:Nat}(hl:zP w Fl al cl l)(hm:zP w Fm am cm m)(p0:l.length<=m.length)(p1:l.length<=1000000):Calls Tryz.prog 124 #[Sv al l.length cl,Sv am m.length cm] w (Ret (fun v w'=>v=Bv (within l m)) w):=by
 refine en func124 ntmps124 ?_
 have H:=((St.start w).arg hm).arg hl
 have nhm:=qM hm
 clear hl hm
 refine zcr<|sp (Bv false)<|zjcc<|sq 1<|oN rfl<|sp (yI 0)<|zjn<|xe<|zT ((fun Z0 Z1=>fun m' ρ w1=>∃(xP:Env) (k:Nat),ρ=upd (upd (upd (upd xP 1<|Sv am m.length cm) 7<|Sv al l.length cl) 8<|yI l.length) 9 (yI k)/\(k<=l.length)/\(withinTo l m k)/\m'=l.length-k/\St w w1 [] [Z0,Z1]) _ _) (l.length-0) ⟨_,0,uE4,qf,(by exact withinTo_zero l m),rfl,H⟩ ?_
 clear H
 rintro m' ρ w2 ⟨xP,k,rfl,i0,i1,rfl,H⟩
 refine zcr<|sq 1<|zjn<|xM<|cD rfl (fun h3=>?_)<|fun h3=>?_
 ·refine qW (t_n<|xM<|xe<|zcr<|sp (yI k) ?_)
  obtain⟨b4,o5,rfl⟩:=H.addr 0 rfl qf
  refine oI rfl rfl<|oL rfl (H.vG 0 rfl k qf)<|sp (yI k)<|sq 1<|zjc<|sq 2<|sp (yI k) ?_
  obtain⟨b6,o7,rfl⟩:=H.addr 1 rfl qf
  refine oI rfl rfl<|oL rfl (H.vG 1 rfl k qf)<|sq 1<|zjn<|cD rfl (fun h8=>?_)<|fun h8=>?_
  ·refine zcr (sp (Bv false)<|zjr<|zr5<|rH1 (Bv false) H ?_)
   rw[within_no (k:=k) ‹_› qf]
  refine qW<|b_n<|t_n<|xX<|sw<|zS k 1 rfl rfl qf<|sq 1<|xU<|xu (m':=l.length-(k+1)) qf ⟨_,k+1,uE4,?_,?_,rfl,H⟩
  ·omega
  ·exact withinTo_succ ‹_› qf
 refine zx4<|zcr<|sp (Bv true)<|zjr<|rH1 (Bv true) H ?_
 rw[within_yes ‹_› qf]
theorem bagSize_ok(w:World)(l:yLI)(hl:zP w Fl al cl l)(p0:Small l):Calls Tryz.prog 78 #[Sv al l.length cl] w (Ret (fun v w'=>v=yI (VN l)) w):=by
 refine en func78 ntmps78 ?_
 have H:=(St.start w).arg hl
 have C5:=qM hl
 clear hl
 have p1:=p0.1
 refine zcr<|sp (yI 0)<|zjc<|sp (yI 0)<|zjcc<|sq 1<|oN rfl<|sp (yI 0)<|zjn<|xe<|zT ((fun Z0=>fun m' ρ w1=>∃(xP:Env) (k:Nat),ρ=upd (upd (upd (upd (upd xP 2<|yI 0) 3<|yI<|sumTo l k) 6<|Sv al l.length cl) 7<|yI l.length) 8 (yI k)/\(k<=l.length)/\m'=l.length-k/\St w w1 [] [Z0]) _) (l.length-0) ⟨_,0,uE5,qf,rfl,H⟩ ?_
 clear H
 rintro m' ρ w2 ⟨xP,k,rfl,i0,rfl,H⟩
 have hs:=sumTo_small p0 i0
 have hv:=p0.2 k
 refine zcr<|sq 1<|zjn<|xM<|cD rfl (fun h3=>?_)<|fun h3=>?_
 ·refine qW (t_n<|xM<|xe<|zcr ?_)
  obtain⟨b4,o5,rfl⟩:=H.addr 0 rfl qf
  refine oI rfl rfl<|oL rfl (H.vG 0 rfl k qf)<|sq 1<|zjn<|xX<|sq 2<|sw<|zS (sumTo l k) (l[k]!) rfl rfl (by(have:=hv qf;omega))<|sq 1<|xU<|b_n<|t_n<|xX<|sw<|zS k 1 rfl rfl (by(have:=hv qf;omega))<|sq 1<|xU<|xu (m':=l.length-(k+1)) qf ⟨_,k+1,uE5,?_,rfl,H⟩
  ·omega
 refine zx4<|zcr<|sq 2<|zjr<|rH1 (yI<|sumTo l k) H ?_
 obtain rfl:k=l.length:=by omega
 rfl
theorem l01Size_ok(w:World)(l:yLI)(hl:zP w Fl al cl l)(p0:Small l):Calls Tryz.prog 90 #[Sv al l.length cl] w (Ret (fun v w'=>v=yI (VN l)) w):=by
 refine en func90 ntmps90 ?_
 have H:=(St.start w).arg hl
 have C5:=qM hl
 clear hl
 have p1:=p0.1
 refine zcr<|sp (yI 0)<|zjc<|sp (yI 0)<|zjcc<|sp (yI 0)<|zjn<|xe<|zT ((fun Z0=>fun m' ρ w1=>∃(xP:Env) (k:Nat),ρ=upd (upd (upd (upd xP 0<|Sv al l.length cl) 2<|yI 0) 3<|yI<|sumTo l k) 4 (yI k)/\(k<=l.length)/\m'=l.length-k/\St w w1 [] [Z0]) _) (l.length-0) ⟨_,0,uE4,qf,rfl,H⟩ ?_
 clear H
 rintro m' ρ w2 ⟨xP,k,rfl,i0,rfl,H⟩
 have hs:=sumTo_small p0 i0
 have hv:=p0.2 k
 refine zcc<|sp (yI k)<|sq 1<|oN rfl<|sq 1<|zjn<|cD rfl (fun h3=>?_)<|fun h3=>?_
 ·refine qW (t_n<|xM<|xe<|xX<|sq 2<|sp (yI k) ?_)
  obtain⟨b4,o5,rfl⟩:=H.addr 0 rfl qf
  refine oI rfl rfl<|oL rfl (H.vG 0 rfl k qf)<|sw<|zS (sumTo l k) (l[k]!) rfl rfl (by(have:=hv qf;omega))<|sq 1<|xU<|b_n<|t_n<|xX<|sp (yI k)<|sw<|zS k 1 rfl rfl (by(have:=hv qf;omega))<|sq 1<|xU<|xu (m':=l.length-(k+1)) qf ⟨_,k+1,uE4,?_,rfl,H⟩
  ·omega
 refine zx4<|zcr<|sq 2<|zjr<|rH1 (yI<|sumTo l k) H ?_
 obtain rfl:k=l.length:=by omega
 rfl
theorem indexFuncI_ok(w:World)(l:yLI)(f:FuncId)(pF:Array Value)(gf:Nat->Bool)(hl:zP w Fl al cl l)(hff:∀args w,(callFunc f args).run Tryz.prog w=.ok (.enter f args) w)(ZI:∀k w',k<l.length->Ext w w' ->Calls Tryz.prog f (([yI<|l[k]!]:List Value)++pF.toList).toArray w' (Ret (fun v _=>v=Bv (gf k)) w')):Calls Tryz.prog 162 #[Sv al l.length cl,.func (.func f) #[] pF] w (Ret (fun v w'=>v=yI (firstIdx gf l.length)) w):=by
 refine en func162 ntmps162 ?_
 have H:=(St.start w).arg hl
 have C5:=qM hl
 clear hl
 refine zcr<|sp (yI 0)<|zjcc<|sq 1<|oN rfl<|sp (yI 0)<|zjn<|xe<|zT ((fun Z0=>fun m' ρ w1=>∃(xP:Env) (k:Nat),ρ=upd (upd (upd (upd xP 0<|Sv al l.length cl) 1<|.func (.func f) #[] pF) 7<|yI l.length) 8 (yI k)/\(k<=l.length)/\(noneTo gf k)/\m'=l.length-k/\St w w1 [] [Z0]) _) (l.length-0) ⟨_,0,uE4,qf,qx,rfl,H⟩ ?_
 clear H
 rintro m' ρ w2 ⟨xP,k,rfl,i0,i1,rfl,H⟩
 refine zcr<|sq 1<|zjn<|xM<|cD rfl (fun h3=>?_)<|fun h3=>?_
 ·refine qW (t_n<|xM<|xe<|zcr<|sp (yI k)<|sp (yI k)<|zjc<|sp (.func (.func f) #[] pF)<|sq 1<|sp (yI k) ?_)
  obtain⟨b4,o5,rfl⟩:=H.addr 0 rfl qf
  refine oI rfl rfl<|oL rfl (H.vG 0 rfl k qf)<|sw<|o_callV [yI<|l[k]!] rfl rfl hff (ZI k _ qf H.base) ?_
  rintro _ w6 rfl x7
  replace H:=H.ext x7
  refine zjn<|vg _ rfl (fun h8=>?_)<|fun h8=>?_
  ·refine zcr (sp (yI k)<|sp (yI k)<|zjr<|zr5<|rH1 (yI k) H ?_)
   rw[firstIdx_some (k:=k) qf i1 ‹_›]
  refine qW<|b_n<|t_n<|xX<|sw<|zS k 1 rfl rfl qf<|sq 1<|xU<|xu (m':=l.length-(k+1)) qf ⟨_,k+1,uE4,?_,?_,rfl,H⟩
  ·omega
  ·exact noneTo_succ ‹_› ‹_›
 refine zx4<|zcr<|sq 1<|zjr<|rH1 (yI (-1)) H ?_
 rw[firstIdx_none<|fun j hj=>i1 j qf]
theorem containsFuncI_ok(w:World)(l:yLI)(f:FuncId)(pF:Array Value)(gf:Nat->Bool)(hl:zP w Fl al cl l)(hff:∀args w,(callFunc f args).run Tryz.prog w=.ok (.enter f args) w)(ZI:∀k w',k<l.length->Ext w w' ->Calls Tryz.prog f (([yI<|l[k]!]:List Value)++pF.toList).toArray w' (Ret (fun v _=>v=Bv (gf k)) w')):Calls Tryz.prog 122 #[Sv al l.length cl,.func (.func f) #[] pF] w (Ret (fun v w'=>v=Bv (anyTo gf l.length)) w):=by
 refine en func122 ntmps122 ?_
 have H:=(St.start w).arg hl
 clear hl
 refine zcr<|sp (Bv false)<|zjc<|sq 1<|sp (.func (.func f) #[] pF)<|sw<|oq (indexFuncI_ok _ l f pF gf (H.get 0 rfl).1 hff ZI) H fun w1 H=>sp (Bv<|decide ((firstIdx gf l.length:Int)>=0))<|sp (Bv<|decide ((firstIdx gf l.length:Int)>=0))<|zjr<|rH1 (Bv<|decide ((firstIdx gf l.length:Int)>=0)) H ?_
 rw[anyTo_first]
theorem validBag1_ok(w:World)(n:Int):Calls Tryz.prog 123 #[yI n] w (Ret (fun v w'=>v=Bv (!isCnt n)) w):=by
 refine en func123 ntmps123 ?_
 have H:=St.start w
 refine zcr<|sp (Bv false)<|zjc<|sp (yI n)<|sw<|oq (XI w n 0 1000) H fun w1 H=>sq 2<|zjr<|rH1 (Bv (!(inR n 0 1000))) H ?_
 rfl
theorem sizeI_ok(w:World)(l:yLI)(hl:zP w Fl al cl l):Calls Tryz.prog 121 #[Sv al l.length cl] w (Ret (fun v w'=>v=yI (l.length:Int)) w):=by
 refine en func121 ntmps121 ?_
 have H:=(St.start w).arg hl
 clear hl
 refine zcr<|sp (yI 0)<|zjc<|sq 1<|oN rfl<|sq 1<|zjr<|rH1 (yI l.length) H ?_
 rfl
theorem VC(w:World)(kinds:Int)(l:yLI)(hl:zP w Fl al cl l):Calls Tryz.prog 77 #[yI kinds,Sv al l.length cl] w (Ret (fun v w'=>v=Bv (dec<|vW kinds l)) w):=by
 refine en func77 ntmps77 ?_
 have H:=(St.start w).arg hl
 have C5:=qM hl
 clear hl
 refine zcr<|sp (Bv false)<|zjc<|sq 1<|sw<|oq (XI w kinds 1 8) H fun w1 H=>sp (Bv<|inR kinds 1 8) ?_
 cases h3:(inR kinds 1 8)
 ·replace h3:=QZ h3
  refine xO (zR 8 4)<|sp (Bv false)<|sp (Bv false)<|xO [14,15,16]<|sp (Bv false)<|sp (Bv false)<|zjr<|rH1 (Bv false) H ?_
  rw[xE (fun h=>by have:=h.1.2;have:=h.2;omega)]
 replace h3:=QM.1 h3
 refine qJ 7 rfl rfl<|sq 1<|qJ 7 rfl rfl<|sw<|oq (sizeI_ok _ l (H.get 0 rfl).1) H fun w4 H=>qJ 7 rfl rfl<|sq 1<|qJ 7 rfl rfl<|sp (Bv (((l.length:Int):Int) == kinds))<|sp (Bv (((l.length:Int):Int) == kinds))<|sp (Bv (((l.length:Int):Int) == kinds)) ?_
 cases h6:(((l.length:Int):Int) == kinds)
 ·replace h6:=ne_of_beq_false h6
  refine xO [14,15,16]<|sp (Bv false)<|sp (Bv false)<|zjr<|rH1 (Bv false) H ?_
  rw[xE (fun h=>by have:=h.1.2;have:=h.2;omega)]
 replace h6:=eq_of_beq h6
 refine qJ 13 rfl rfl<|sq 1<|qJ 13 rfl rfl<|sw<|oq (containsFuncI_ok _ l 123 #[] (fun k=> !isCnt (l[k]!)) (H.get 0 rfl).1 call123<|fun k w' hk e=>validBag1_ok w' _) H fun w7 H=>qJ 13 rfl rfl<|sq 3<|zjr<|rH1 (Bv (!(anyTo (fun k=> !isCnt (l[k]!)) l.length))) H<|congrArg Value.bool<|dec_eq ?_
 rw[anyCnt_iff]
 exact⟨fun h=>⟨⟨h,by omega,by omega⟩,by omega⟩,fun h=>h.1.1⟩
end
section
theorem slice_form{α:Type}[qK α]{l:List α}(h:qK.rep w F [v] l):∃a c,v=Sv a l.length c:=by
 obtain⟨a,c,hc,_⟩:=h
 simp only[List.cons.injEq,and_true] at hc
 exact⟨a,c,hc⟩
theorem one_of{α:Type}[qK α]{x:α}(h:qK.rep w F [v] x):v.oneCell'=true:=qK.one h v<|List.mem_singleton.2 rfl
theorem St.yB{α:Type}[qK α](H:St W0 w ps Γ)(i:Nat){l:List (List α)}(hf:Γ[i]? =some (isF fr F (Sv (some ⟨b,o,none⟩) m c) l))(iv:Int)(k:Nat)(hk:iv.toNat=k)(h0:0<=iv)(h1:iv<l.length):
 ∃(a':yOA) (c':Nat) (Fk:yLN),St W0 w ps (isF fr Fk (Sv a' (l[k]!).length c') (l[k]!)::atF b (o+iv.toNat*1) [Sv a' (l[k]!).length c']::Γ):=by
 obtain⟨cs,Fk,hc,hr,bU⟩:=H.elem i hf iv h0 h1
 have ep:fr=true->jS w Fk:=fun e=>((H.get i hf).2 e).sub fun x hx=>bU x<|List.mem_cons_of_mem _ hx
 rw[hk] at hr
 obtain⟨a',c',rfl,_⟩:=id hr
 exact⟨a',c',Fk,(H.vT i hf (atF b (o+iv.toNat*1) _) hc<|fun x hx=>bU x (by simp only[atF,List.mem_singleton] at hx;subst hx;exact List.mem_cons_self ..)).vT (i+1) hf (isF fr Fk _ _) ⟨hr,ep⟩<|fun x hx=>bU x<|List.mem_cons_of_mem _ hx⟩
structure IntoD where
 qZ:Int
 Xa:yLI
 deriving DecidableEq
instance:Inhabited IntoD:=⟨⟨0,[]⟩⟩
instance:Tot IntoD:=⟨fun x=>tot x.Xa⟩
theorem tot_IntoD(x:IntoD):tot x=tot x.Xa:=rfl
instance:qK IntoD where
 size:=2
 rep:=fun w F cs x=>∃(sU:Value) (wg:yLN),cs=[.int .i64 x.qZ,sU]/\F=wg/\qK.rep w wg [sU] x.Xa
 len:=by rintro w F cs x ⟨sU,wg,rfl,_,sP⟩;rfl
 one:=by
  rintro w F cs x ⟨sU,wg,rfl,rfl,sP⟩ u hu
  simp only[List.mem_cons,List.not_mem_nil,or_false] at hu
  rcases hu with rfl|rfl <;> first|rfl|exact one_of ql
 stay:=by
  rintro w w' F cs x ⟨sU,wg,rfl,rfl,sP⟩ hs
  exact⟨_,_,rfl,rfl,qK.stay sP fun b hb=>hs b<|by simp[hb]⟩
 lt:=by
  rintro w F cs x ⟨sU,wg,rfl,rfl,sP⟩ b hb
  exact qK.lt sP b hb
theorem St.Qw(H:St W0 w ps Γ)(i:Nat){l:List IntoD}(hf:Γ[i]? =some (isF fr F (Sv (some ⟨b,o,none⟩) m c) l))(iv:Int)(k:Nat)(hk:iv.toNat=k)(h0:0<=iv)(h1:iv<l.length):
 ∃(RB:yOA) (RF:Nat) (wg:yLN),St W0 w ps (isF fr wg (Sv RB (l[k]!).Xa.length RF) (l[k]!).Xa::atF b (o+iv.toNat*2) [.int .i64 (l[k]!).qZ,Sv RB (l[k]!).Xa.length RF]::Γ):=by
 obtain⟨cs,Fk,hc,hr,bU⟩:=H.elem i hf iv h0 h1
 have ep:fr=true->jS w Fk:=fun e=>((H.get i hf).2 e).sub fun x hx=>bU x<|List.mem_cons_of_mem _ hx
 rw[hk] at hr
 obtain⟨sU,wg,rfl,dl,sP⟩:=hr
 obtain⟨RB,RF,rfl⟩:=slice_form sP
 exact⟨_,_,_,((H.vT i hf (atF b (o+iv.toNat*2) [.int .i64 (l[k]!).qZ,Sv RB (l[k]!).Xa.length RF]) hc<|fun x hx=>bU x (by simp only[atF,List.mem_singleton] at hx;subst hx;exact List.mem_cons_self ..)).vT (i+1) hf (isF fr wg _ (l[k]!).Xa) ⟨sP,fun e=>(ep e).sub<|by rw[dl];intro x hx;simp[hx]⟩<|fun x hx=>bU x<|List.mem_cons_of_mem _<|dl.symm▸(by have hx:x∈wg:=hx;simp[hx]))⟩
theorem St.snoc_IntoD(H:St W0 w ps Γ)(i:Nat){l:List IntoD}(hf:Γ[i]? =some (qQ fr F xs l))(pB:Int)(acg:Nat){Sr:yLN}{sU:Value}{aan:yLI}(sP:Γ[acg]? =some (isF fr Sr sU aan)):
 St W0 w ps (qQ fr (F++(Sr)) (xs++[.int .i64 pB,sU]) (l++[⟨pB,aan⟩])::Γ):=by
 have hr:qK.rep w (Sr) [.int .i64 pB,sU] (⟨pB,aan⟩:IntoD):=⟨sU,Sr,rfl,rfl,(H.get acg sP).1⟩
 refine H.add _ ⟨yU (H.get i hf).1<|reps_one hr,fun e=>((H.get i hf).2 e).app (((H.get acg sP).2 e))⟩ fun b hb=>?_
 rcases List.mem_append.1 hb with h|h
 ·exact(H.facts _<|List.mem_of_getElem? hf).2 b h
 ·exact(H.facts _<|List.mem_of_getElem? sP).2 b h
structure yu where
 qZ:Int
 yJ:Int
 zU:yLI
 jJ:yLI
 jK:yLI
 jF:yLI
 QL:yLI
 xw:List IntoD
 jw:Bool
 deriving DecidableEq
instance:Inhabited yu:=⟨⟨0,0,[],[],[],[],[],[],false⟩⟩
instance:Tot yu:=⟨fun x=>tot x.zU+tot x.jJ+tot x.jK+tot x.jF+tot x.QL+tot x.xw⟩
theorem tot_RuleD(x:yu):tot x=tot x.zU+tot x.jJ+tot x.jK+tot x.jF+tot x.QL+tot x.xw:=rfl
instance:qK yu where
 size:=9
 rep:=fun w F cs x=>∃(l9 l6 mh l8 sN mn:Value) (mH nN mA mK uC nl:yLN),cs=[.int .i64 x.qZ,.int .i64 x.yJ,l9,l6,mh,l8,sN,mn,Bv x.jw]/\F=mH++nN++mA++mK++uC++nl/\qK.rep w mH [l9] x.zU/\qK.rep w nN [l6] x.jJ/\qK.rep w mA [mh] x.jK/\qK.rep w mK [l8] x.jF/\qK.rep w uC [sN] x.QL/\qK.rep w nl [mn] x.xw
 len:=by rintro w F cs x ⟨l9,l6,mh,l8,sN,mn,mH,nN,mA,mK,uC,nl,rfl,_,mg,mi,ml,mb,s8,ma⟩;rfl
 one:=by
  rintro w F cs x ⟨l9,l6,mh,l8,sN,mn,mH,nN,mA,mK,uC,nl,rfl,rfl,mg,mi,ml,mb,s8,ma⟩ u hu
  simp only[List.mem_cons,List.not_mem_nil,or_false] at hu
  rcases hu with rfl|rfl|rfl|rfl|rfl|rfl|rfl|rfl|rfl <;> first|rfl|exact one_of ql
 stay:=by
  rintro w w' F cs x ⟨l9,l6,mh,l8,sN,mn,mH,nN,mA,mK,uC,nl,rfl,rfl,mg,mi,ml,mb,s8,ma⟩ hs
  exact⟨_,_,_,_,_,_,_,_,_,_,_,_,rfl,rfl,qK.stay mg fun b hb=>hs b<|by simp[hb],qK.stay mi fun b hb=>hs b<|by simp[hb],qK.stay ml fun b hb=>hs b<|by simp[hb],qK.stay mb fun b hb=>hs b<|by simp[hb],qK.stay s8 fun b hb=>hs b<|by simp[hb],qK.stay ma fun b hb=>hs b<|by simp[hb]⟩
 lt:=by
  rintro w F cs x ⟨l9,l6,mh,l8,sN,mn,mH,nN,mA,mK,uC,nl,rfl,rfl,mg,mi,ml,mb,s8,ma⟩ b hb
  simp only[List.mem_append] at hb
  rcases hb with (((((hb|hb)|hb)|hb)|hb)|hb)
  ·exact qK.lt mg b hb
  ·exact qK.lt mi b hb
  ·exact qK.lt ml b hb
  ·exact qK.lt mb b hb
  ·exact qK.lt s8 b hb
  ·exact qK.lt ma b hb
theorem St.QY(H:St W0 w ps Γ)(i:Nat){l:List yu}(hf:Γ[i]? =some (isF fr F (Sv (some ⟨b,o,none⟩) m c) l))(iv:Int)(k:Nat)(hk:iv.toNat=k)(h0:0<=iv)(h1:iv<l.length):
 ∃(Hc:yOA) (G6:Nat) (mH:yLN) (FC:yOA) (Gq:Nat) (nN:yLN) (Fu:yOA) (FV:Nat) (mA:yLN) (HH:yOA) (Gr:Nat) (mK:yLN) (RK:yOA) (P4:Nat) (uC:yLN) (Hr:yOA) (HQ:Nat) (nl:yLN),St W0 w ps (isF fr mH (Sv Hc (l[k]!).zU.length G6) (l[k]!).zU::isF fr nN (Sv FC (l[k]!).jJ.length Gq) (l[k]!).jJ::isF fr mA (Sv Fu (l[k]!).jK.length FV) (l[k]!).jK::isF fr mK (Sv HH (l[k]!).jF.length Gr) (l[k]!).jF::isF fr uC (Sv RK (l[k]!).QL.length P4) (l[k]!).QL::isF fr nl (Sv Hr (l[k]!).xw.length HQ) (l[k]!).xw::atF b (o+iv.toNat*9) [.int .i64 (l[k]!).qZ,.int .i64 (l[k]!).yJ,Sv Hc (l[k]!).zU.length G6,Sv FC (l[k]!).jJ.length Gq,Sv Fu (l[k]!).jK.length FV,Sv HH (l[k]!).jF.length Gr,Sv RK (l[k]!).QL.length P4,Sv Hr (l[k]!).xw.length HQ,Bv (l[k]!).jw]::Γ):=by
 obtain⟨cs,Fk,hc,hr,bU⟩:=H.elem i hf iv h0 h1
 have ep:fr=true->jS w Fk:=fun e=>((H.get i hf).2 e).sub fun x hx=>bU x<|List.mem_cons_of_mem _ hx
 rw[hk] at hr
 obtain⟨l9,l6,mh,l8,sN,mn,mH,nN,mA,mK,uC,nl,rfl,dl,mg,mi,ml,mb,s8,ma⟩:=hr
 obtain⟨Hc,G6,rfl⟩:=slice_form mg
 obtain⟨FC,Gq,rfl⟩:=slice_form mi
 obtain⟨Fu,FV,rfl⟩:=slice_form ml
 obtain⟨HH,Gr,rfl⟩:=slice_form mb
 obtain⟨RK,P4,rfl⟩:=slice_form s8
 obtain⟨Hr,HQ,rfl⟩:=slice_form ma
 exact⟨_,_,_,_,_,_,_,_,_,_,_,_,_,_,_,_,_,_,(((((((H.vT i hf (atF b (o+iv.toNat*9) [.int .i64 (l[k]!).qZ,.int .i64 (l[k]!).yJ,Sv Hc (l[k]!).zU.length G6,Sv FC (l[k]!).jJ.length Gq,Sv Fu (l[k]!).jK.length FV,Sv HH (l[k]!).jF.length Gr,Sv RK (l[k]!).QL.length P4,Sv Hr (l[k]!).xw.length HQ,Bv (l[k]!).jw]) hc<|fun x hx=>bU x (by simp only[atF,List.mem_singleton] at hx;subst hx;exact List.mem_cons_self ..)).vT (i+1) hf (isF fr nl _ (l[k]!).xw) ⟨ma,fun e=>(ep e).sub<|by rw[dl];intro x hx;simp[hx]⟩<|fun x hx=>bU x<|List.mem_cons_of_mem _<|dl.symm▸(by have hx:x∈nl:=hx;simp[hx])).vT (i+2) hf (isF fr uC _ (l[k]!).QL) ⟨s8,fun e=>(ep e).sub<|by rw[dl];intro x hx;simp[hx]⟩<|fun x hx=>bU x<|List.mem_cons_of_mem _<|dl.symm▸(by have hx:x∈uC:=hx;simp[hx])).vT (i+3) hf (isF fr mK _ (l[k]!).jF) ⟨mb,fun e=>(ep e).sub<|by rw[dl];intro x hx;simp[hx]⟩<|fun x hx=>bU x<|List.mem_cons_of_mem _<|dl.symm▸(by have hx:x∈mK:=hx;simp[hx])).vT (i+4) hf (isF fr mA _ (l[k]!).jK) ⟨ml,fun e=>(ep e).sub<|by rw[dl];intro x hx;simp[hx]⟩<|fun x hx=>bU x<|List.mem_cons_of_mem _<|dl.symm▸(by have hx:x∈mA:=hx;simp[hx])).vT (i+5) hf (isF fr nN _ (l[k]!).jJ) ⟨mi,fun e=>(ep e).sub<|by rw[dl];intro x hx;simp[hx]⟩<|fun x hx=>bU x<|List.mem_cons_of_mem _<|dl.symm▸(by have hx:x∈nN:=hx;simp[hx])).vT (i+6) hf (isF fr mH _ (l[k]!).zU) ⟨mg,fun e=>(ep e).sub<|by rw[dl];intro x hx;simp[hx]⟩<|fun x hx=>bU x<|List.mem_cons_of_mem _<|dl.symm▸(by have hx:x∈mH:=hx;simp[hx]))⟩
theorem St.snoc_RuleD(H:St W0 w ps Γ)(i:Nat){l:List yu}(hf:Γ[i]? =some (qQ fr F xs l))(pB:Int)(FJ:Int)(Mv:Nat){GS:yLN}{l9:Value}{Lq:yLI}(mg:Γ[Mv]? =some (isF fr GS l9 Lq))(LG:Nat){HP:yLN}{l6:Value}{O3:yLI}(mi:Γ[LG]? =some (isF fr HP l6 O3))(Lw:Nat){Hs:yLN}{mh:Value}{KB:yLI}(ml:Γ[Lw]? =some (isF fr Hs mh KB))(N4:Nat){Gh:yLN}{l8:Value}{NX:yLI}(mb:Γ[N4]? =some (isF fr Gh l8 NX))(Y0:Nat){Qt:yLN}{sN:Value}{ab6:yLI}(s8:Γ[Y0]? =some (isF fr Qt sN ab6))(MR:Nat){G0:yLN}{mn:Value}{OC:List IntoD}(ma:Γ[MR]? =some (isF fr G0 mn OC))(Bp:Bool):
 St W0 w ps (qQ fr (F++(GS++HP++Hs++Gh++Qt++G0)) (xs++[.int .i64 pB,.int .i64 FJ,l9,l6,mh,l8,sN,mn,Bv Bp]) (l++[⟨pB,FJ,Lq,O3,KB,NX,ab6,OC,Bp⟩])::Γ):=by
 have hr:qK.rep w (GS++HP++Hs++Gh++Qt++G0) [.int .i64 pB,.int .i64 FJ,l9,l6,mh,l8,sN,mn,Bv Bp] (⟨pB,FJ,Lq,O3,KB,NX,ab6,OC,Bp⟩:yu):=⟨l9,l6,mh,l8,sN,mn,GS,HP,Hs,Gh,Qt,G0,rfl,rfl,(H.get Mv mg).1,(H.get LG mi).1,(H.get Lw ml).1,(H.get N4 mb).1,(H.get Y0 s8).1,(H.get MR ma).1⟩
 refine H.add _ ⟨yU (H.get i hf).1<|reps_one hr,fun e=>((H.get i hf).2 e).app ((((((((H.get Mv mg).2 e).app ((H.get LG mi).2 e)).app ((H.get Lw ml).2 e)).app ((H.get N4 mb).2 e)).app ((H.get Y0 s8).2 e)).app ((H.get MR ma).2 e)))⟩ fun b hb=>?_
 rcases List.mem_append.1 hb with h|h
 ·exact(H.facts _<|List.mem_of_getElem? hf).2 b h
 ·simp only[List.mem_append] at h
  rcases h with (((((h|h)|h)|h)|h)|h)
  ·exact(H.facts _<|List.mem_of_getElem? mg).2 b h
  ·exact(H.facts _<|List.mem_of_getElem? mi).2 b h
  ·exact(H.facts _<|List.mem_of_getElem? ml).2 b h
  ·exact(H.facts _<|List.mem_of_getElem? mb).2 b h
  ·exact(H.facts _<|List.mem_of_getElem? s8).2 b h
  ·exact(H.facts _<|List.mem_of_getElem? ma).2 b h
structure qO where
 qN:Int
 qA:yLI
 qB:List yu
 deriving DecidableEq
instance:Inhabited qO:=⟨⟨0,[],[]⟩⟩
instance:Tot qO:=⟨fun x=>tot x.qA+tot x.qB⟩
instance:qK qO where
 size:=3
 rep:=fun w F cs x=>∃(ld rA:Value) (lj rX:yLN),cs=[.int .i64 x.qN,ld,rA]/\F=lj++rX/\qK.rep w lj [ld] x.qA/\qK.rep w rX [rA] x.qB
 len:=by rintro w F cs x ⟨ld,rA,lj,rX,rfl,_,mC,wl⟩;rfl
 one:=by
  rintro w F cs x ⟨ld,rA,lj,rX,rfl,rfl,mC,wl⟩ u hu
  simp only[List.mem_cons,List.not_mem_nil,or_false] at hu
  rcases hu with rfl|rfl|rfl <;> first|rfl|exact one_of ql
 stay:=by
  rintro w w' F cs x ⟨ld,rA,lj,rX,rfl,rfl,mC,wl⟩ hs
  exact⟨_,_,_,_,rfl,rfl,qK.stay mC fun b hb=>hs b<|by simp[hb],qK.stay wl fun b hb=>hs b<|by simp[hb]⟩
 lt:=by
  rintro w F cs x ⟨ld,rA,lj,rX,rfl,rfl,mC,wl⟩ b hb
  simp only[List.mem_append] at hb
  rcases hb with (hb|hb)
  ·exact qK.lt mC b hb
  ·exact qK.lt wl b hb
structure xn where
 xF:List Bool
 qG:yLL
 qF:yLI
 deriving DecidableEq
instance:Inhabited xn:=⟨⟨[],[],[]⟩⟩
instance:Tot xn:=⟨fun x=>tot x.xF+tot x.qG+tot x.qF⟩
instance:qK xn where
 size:=3
 rep:=fun w F cs x=>∃(rR dH dT:Value) (r3 Q4 QW:yLN),cs=[rR,dH,dT]/\F=r3++Q4++QW/\qK.rep w r3 [rR] x.xF/\qK.rep w Q4 [dH] x.qG/\qK.rep w QW [dT] x.qF
 len:=by rintro w F cs x ⟨rR,dH,dT,r3,Q4,QW,rfl,_,uc,Ve,XO⟩;rfl
 one:=by
  rintro w F cs x ⟨rR,dH,dT,r3,Q4,QW,rfl,rfl,uc,Ve,XO⟩ u hu
  simp only[List.mem_cons,List.not_mem_nil,or_false] at hu
  rcases hu with rfl|rfl|rfl <;> exact one_of ql
 stay:=by
  rintro w w' F cs x ⟨rR,dH,dT,r3,Q4,QW,rfl,rfl,uc,Ve,XO⟩ hs
  exact⟨_,_,_,_,_,_,rfl,rfl,qK.stay uc fun b hb=>hs b<|by simp[hb],qK.stay Ve fun b hb=>hs b<|by simp[hb],qK.stay XO fun b hb=>hs b<|by simp[hb]⟩
 lt:=by
  rintro w F cs x ⟨rR,dH,dT,r3,Q4,QW,rfl,rfl,uc,Ve,XO⟩ b hb
  simp only[List.mem_append] at hb
  rcases hb with ((hb|hb)|hb)
  ·exact qK.lt uc b hb
  ·exact qK.lt Ve b hb
  ·exact qK.lt XO b hb
structure zA where
 qP:Int
 qG:yLL
 qF:yLI
 qV:Bool
 vM:List Bool
 qL:yLL
 vX:List (yLL)
 x8:List (yLL)
 deriving DecidableEq
instance:Inhabited zA:=⟨⟨0,[],[],false,[],[],[],[]⟩⟩
instance:Tot zA:=⟨fun x=>tot x.qG+tot x.qF+tot x.vM+tot x.qL+tot x.vX+tot x.x8⟩
instance:qK zA where
 size:=8
 rep:=fun w F cs x=>∃(dH dT tR fR vh m4:Value) (Q4 QW nJ dZ nQ gG:yLN),cs=[.int .i64 x.qP,dH,dT,Bv x.qV,tR,fR,vh,m4]/\F=Q4++QW++nJ++dZ++nQ++gG/\qK.rep w Q4 [dH] x.qG/\qK.rep w QW [dT] x.qF/\qK.rep w nJ [tR] x.vM/\qK.rep w dZ [fR] x.qL/\qK.rep w nQ [vh] x.vX/\qK.rep w gG [m4] x.x8
 len:=by rintro w F cs x ⟨dH,dT,tR,fR,vh,m4,Q4,QW,nJ,dZ,nQ,gG,rfl,_,Ve,XO,sY,fp,sZ,mj⟩;rfl
 one:=by
  rintro w F cs x ⟨dH,dT,tR,fR,vh,m4,Q4,QW,nJ,dZ,nQ,gG,rfl,rfl,Ve,XO,sY,fp,sZ,mj⟩ u hu
  simp only[List.mem_cons,List.not_mem_nil,or_false] at hu
  rcases hu with rfl|rfl|rfl|rfl|rfl|rfl|rfl|rfl <;> first|rfl|exact one_of ql
 stay:=by
  rintro w w' F cs x ⟨dH,dT,tR,fR,vh,m4,Q4,QW,nJ,dZ,nQ,gG,rfl,rfl,Ve,XO,sY,fp,sZ,mj⟩ hs
  exact⟨_,_,_,_,_,_,_,_,_,_,_,_,rfl,rfl,qK.stay Ve fun b hb=>hs b<|by simp[hb],qK.stay XO fun b hb=>hs b<|by simp[hb],qK.stay sY fun b hb=>hs b<|by simp[hb],qK.stay fp fun b hb=>hs b<|by simp[hb],qK.stay sZ fun b hb=>hs b<|by simp[hb],qK.stay mj fun b hb=>hs b<|by simp[hb]⟩
 lt:=by
  rintro w F cs x ⟨dH,dT,tR,fR,vh,m4,Q4,QW,nJ,dZ,nQ,gG,rfl,rfl,Ve,XO,sY,fp,sZ,mj⟩ b hb
  simp only[List.mem_append] at hb
  rcases hb with (((((hb|hb)|hb)|hb)|hb)|hb)
  ·exact qK.lt Ve b hb
  ·exact qK.lt XO b hb
  ·exact qK.lt sY b hb
  ·exact qK.lt fp b hb
  ·exact qK.lt sZ b hb
  ·exact qK.lt mj b hb
structure zu where
 qC:zA
 qI:zA
 deriving DecidableEq
instance:Inhabited zu:=⟨⟨default,default⟩⟩
instance:Tot zu:=⟨fun x=>tot x.qC.qG+tot x.qC.qF+tot x.qC.vM+tot x.qC.qL+tot x.qC.vX+tot x.qC.x8+tot x.qI.qG+tot x.qI.qF+tot x.qI.vM+tot x.qI.qL+tot x.qI.vX+tot x.qI.x8⟩
instance:qK zu where
 size:=16
 rep:=fun w F cs x=>∃(bh aD bz aK bA a6 aS ay a9 aw a8 aT:Value) (aM an aZ aq aY aF av ai aJ ah aG au:yLN),cs=[.int .i64 x.qC.qP,bh,aD,Bv x.qC.qV,bz,aK,bA,a6,.int .i64 x.qI.qP,aS,ay,Bv x.qI.qV,a9,aw,a8,aT]/\F=aM++an++aZ++aq++aY++aF++av++ai++aJ++ah++aG++au/\qK.rep w aM [bh] x.qC.qG/\qK.rep w an [aD] x.qC.qF/\qK.rep w aZ [bz] x.qC.vM/\qK.rep w aq [aK] x.qC.qL/\qK.rep w aY [bA] x.qC.vX/\qK.rep w aF [a6] x.qC.x8/\qK.rep w av [aS] x.qI.qG/\qK.rep w ai [ay] x.qI.qF/\qK.rep w aJ [a9] x.qI.vM/\qK.rep w ah [aw] x.qI.qL/\qK.rep w aG [a8] x.qI.vX/\qK.rep w au [aT] x.qI.x8
 len:=by rintro w F cs x ⟨bh,aD,bz,aK,bA,a6,aS,ay,a9,aw,a8,aT,aM,an,aZ,aq,aY,aF,av,ai,aJ,ah,aG,au,rfl,_,bv,aW,bK,aV,bN,bu,bf,aQ,bo,aP,bq,bg⟩;rfl
 one:=by
  rintro w F cs x ⟨bh,aD,bz,aK,bA,a6,aS,ay,a9,aw,a8,aT,aM,an,aZ,aq,aY,aF,av,ai,aJ,ah,aG,au,rfl,rfl,bv,aW,bK,aV,bN,bu,bf,aQ,bo,aP,bq,bg⟩ u hu
  simp only[List.mem_cons,List.not_mem_nil,or_false] at hu
  rcases hu with rfl|rfl|rfl|rfl|rfl|rfl|rfl|rfl|rfl|rfl|rfl|rfl|rfl|rfl|rfl|rfl <;> first|rfl|exact one_of ql
 stay:=by
  rintro w w' F cs x ⟨bh,aD,bz,aK,bA,a6,aS,ay,a9,aw,a8,aT,aM,an,aZ,aq,aY,aF,av,ai,aJ,ah,aG,au,rfl,rfl,bv,aW,bK,aV,bN,bu,bf,aQ,bo,aP,bq,bg⟩ hs
  exact⟨_,_,_,_,_,_,_,_,_,_,_,_,_,_,_,_,_,_,_,_,_,_,_,_,rfl,rfl,qK.stay bv fun b hb=>hs b<|by simp[hb],qK.stay aW fun b hb=>hs b<|by simp[hb],qK.stay bK fun b hb=>hs b<|by simp[hb],qK.stay aV fun b hb=>hs b<|by simp[hb],qK.stay bN fun b hb=>hs b<|by simp[hb],qK.stay bu fun b hb=>hs b<|by simp[hb],qK.stay bf fun b hb=>hs b<|by simp[hb],qK.stay aQ fun b hb=>hs b<|by simp[hb],qK.stay bo fun b hb=>hs b<|by simp[hb],qK.stay aP fun b hb=>hs b<|by simp[hb],qK.stay bq fun b hb=>hs b<|by simp[hb],qK.stay bg fun b hb=>hs b<|by simp[hb]⟩
 lt:=by
  rintro w F cs x ⟨bh,aD,bz,aK,bA,a6,aS,ay,a9,aw,a8,aT,aM,an,aZ,aq,aY,aF,av,ai,aJ,ah,aG,au,rfl,rfl,bv,aW,bK,aV,bN,bu,bf,aQ,bo,aP,bq,bg⟩ b hb
  simp only[List.mem_append] at hb
  rcases hb with (((((((((((hb|hb)|hb)|hb)|hb)|hb)|hb)|hb)|hb)|hb)|hb)|hb)
  ·exact qK.lt bv b hb
  ·exact qK.lt aW b hb
  ·exact qK.lt bK b hb
  ·exact qK.lt aV b hb
  ·exact qK.lt bN b hb
  ·exact qK.lt bu b hb
  ·exact qK.lt bf b hb
  ·exact qK.lt aQ b hb
  ·exact qK.lt bo b hb
  ·exact qK.lt aP b hb
  ·exact qK.lt bq b hb
  ·exact qK.lt bg b hb
theorem St.elem_ServerD(H:St W0 w ps Γ)(i:Nat){l:List zu}(hf:Γ[i]? =some (isF fr F (Sv (some ⟨b,o,none⟩) m c) l))(iv:Int)(k:Nat)(hk:iv.toNat=k)(h0:0<=iv)(h1:iv<l.length):
 ∃(dA:yOA) (dr:Nat) (aM:yLN) (cG:yOA) (cK:Nat) (an:yLN) (dU:yOA) (dW:Nat) (aZ:yLN) (cV:yOA) (cJ:Nat) (aq:yLN) (dX:yOA) (dY:Nat) (aY:yLN) (dx:yOA) (dy:Nat) (aF:yLN) (da:yOA) (c9:Nat) (av:yLN) (cq:yOA) (cg:Nat) (ai:yLN) (dv:yOA) (du:Nat) (aJ:yLN) (cj:yOA) (cv:Nat) (ah:yLN) (dt:yOA) (dz:Nat) (aG:yLN) (dc:yOA) (db:Nat) (au:yLN),St W0 w ps (isF fr aM (Sv dA (l[k]!).qC.qG.length dr) (l[k]!).qC.qG::isF fr an (Sv cG (l[k]!).qC.qF.length cK) (l[k]!).qC.qF::isF fr aZ (Sv dU (l[k]!).qC.vM.length dW) (l[k]!).qC.vM::isF fr aq (Sv cV (l[k]!).qC.qL.length cJ) (l[k]!).qC.qL::isF fr aY (Sv dX (l[k]!).qC.vX.length dY) (l[k]!).qC.vX::isF fr aF (Sv dx (l[k]!).qC.x8.length dy) (l[k]!).qC.x8::isF fr av (Sv da (l[k]!).qI.qG.length c9) (l[k]!).qI.qG::isF fr ai (Sv cq (l[k]!).qI.qF.length cg) (l[k]!).qI.qF::isF fr aJ (Sv dv (l[k]!).qI.vM.length du) (l[k]!).qI.vM::isF fr ah (Sv cj (l[k]!).qI.qL.length cv) (l[k]!).qI.qL::isF fr aG (Sv dt (l[k]!).qI.vX.length dz) (l[k]!).qI.vX::isF fr au (Sv dc (l[k]!).qI.x8.length db) (l[k]!).qI.x8::atF b (o+iv.toNat*16) [.int .i64 (l[k]!).qC.qP,Sv dA (l[k]!).qC.qG.length dr,Sv cG (l[k]!).qC.qF.length cK,Bv (l[k]!).qC.qV,Sv dU (l[k]!).qC.vM.length dW,Sv cV (l[k]!).qC.qL.length cJ,Sv dX (l[k]!).qC.vX.length dY,Sv dx (l[k]!).qC.x8.length dy,.int .i64 (l[k]!).qI.qP,Sv da (l[k]!).qI.qG.length c9,Sv cq (l[k]!).qI.qF.length cg,Bv (l[k]!).qI.qV,Sv dv (l[k]!).qI.vM.length du,Sv cj (l[k]!).qI.qL.length cv,Sv dt (l[k]!).qI.vX.length dz,Sv dc (l[k]!).qI.x8.length db]::Γ):=by
 obtain⟨cs,Fk,hc,hr,bU⟩:=H.elem i hf iv h0 h1
 have ep:fr=true->jS w Fk:=fun e=>((H.get i hf).2 e).sub fun x hx=>bU x<|List.mem_cons_of_mem _ hx
 rw[hk] at hr
 obtain⟨bh,aD,bz,aK,bA,a6,aS,ay,a9,aw,a8,aT,aM,an,aZ,aq,aY,aF,av,ai,aJ,ah,aG,au,rfl,dl,bv,aW,bK,aV,bN,bu,bf,aQ,bo,aP,bq,bg⟩:=hr
 obtain⟨dA,dr,rfl⟩:=slice_form bv
 obtain⟨cG,cK,rfl⟩:=slice_form aW
 obtain⟨dU,dW,rfl⟩:=slice_form bK
 obtain⟨cV,cJ,rfl⟩:=slice_form aV
 obtain⟨dX,dY,rfl⟩:=slice_form bN
 obtain⟨dx,dy,rfl⟩:=slice_form bu
 obtain⟨da,c9,rfl⟩:=slice_form bf
 obtain⟨cq,cg,rfl⟩:=slice_form aQ
 obtain⟨dv,du,rfl⟩:=slice_form bo
 obtain⟨cj,cv,rfl⟩:=slice_form aP
 obtain⟨dt,dz,rfl⟩:=slice_form bq
 obtain⟨dc,db,rfl⟩:=slice_form bg
 exact⟨_,_,_,_,_,_,_,_,_,_,_,_,_,_,_,_,_,_,_,_,_,_,_,_,_,_,_,_,_,_,_,_,_,_,_,_,(((((((((((((H.vT i hf (atF b (o+iv.toNat*16) [.int .i64 (l[k]!).qC.qP,Sv dA (l[k]!).qC.qG.length dr,Sv cG (l[k]!).qC.qF.length cK,Bv (l[k]!).qC.qV,Sv dU (l[k]!).qC.vM.length dW,Sv cV (l[k]!).qC.qL.length cJ,Sv dX (l[k]!).qC.vX.length dY,Sv dx (l[k]!).qC.x8.length dy,.int .i64 (l[k]!).qI.qP,Sv da (l[k]!).qI.qG.length c9,Sv cq (l[k]!).qI.qF.length cg,Bv (l[k]!).qI.qV,Sv dv (l[k]!).qI.vM.length du,Sv cj (l[k]!).qI.qL.length cv,Sv dt (l[k]!).qI.vX.length dz,Sv dc (l[k]!).qI.x8.length db]) hc<|fun x hx=>bU x (by simp only[atF,List.mem_singleton] at hx;subst hx;exact List.mem_cons_self ..)).vT (i+1) hf (isF fr au _ (l[k]!).qI.x8) ⟨bg,fun e=>(ep e).sub<|by rw[dl];intro x hx;simp[hx]⟩<|fun x hx=>bU x<|List.mem_cons_of_mem _<|dl.symm▸(by have hx:x∈au:=hx;simp[hx])).vT (i+2) hf (isF fr aG _ (l[k]!).qI.vX) ⟨bq,fun e=>(ep e).sub<|by rw[dl];intro x hx;simp[hx]⟩<|fun x hx=>bU x<|List.mem_cons_of_mem _<|dl.symm▸(by have hx:x∈aG:=hx;simp[hx])).vT (i+3) hf (isF fr ah _ (l[k]!).qI.qL) ⟨aP,fun e=>(ep e).sub<|by rw[dl];intro x hx;simp[hx]⟩<|fun x hx=>bU x<|List.mem_cons_of_mem _<|dl.symm▸(by have hx:x∈ah:=hx;simp[hx])).vT (i+4) hf (isF fr aJ _ (l[k]!).qI.vM) ⟨bo,fun e=>(ep e).sub<|by rw[dl];intro x hx;simp[hx]⟩<|fun x hx=>bU x<|List.mem_cons_of_mem _<|dl.symm▸(by have hx:x∈aJ:=hx;simp[hx])).vT (i+5) hf (isF fr ai _ (l[k]!).qI.qF) ⟨aQ,fun e=>(ep e).sub<|by rw[dl];intro x hx;simp[hx]⟩<|fun x hx=>bU x<|List.mem_cons_of_mem _<|dl.symm▸(by have hx:x∈ai:=hx;simp[hx])).vT (i+6) hf (isF fr av _ (l[k]!).qI.qG) ⟨bf,fun e=>(ep e).sub<|by rw[dl];intro x hx;simp[hx]⟩<|fun x hx=>bU x<|List.mem_cons_of_mem _<|dl.symm▸(by have hx:x∈av:=hx;simp[hx])).vT (i+7) hf (isF fr aF _ (l[k]!).qC.x8) ⟨bu,fun e=>(ep e).sub<|by rw[dl];intro x hx;simp[hx]⟩<|fun x hx=>bU x<|List.mem_cons_of_mem _<|dl.symm▸(by have hx:x∈aF:=hx;simp[hx])).vT (i+8) hf (isF fr aY _ (l[k]!).qC.vX) ⟨bN,fun e=>(ep e).sub<|by rw[dl];intro x hx;simp[hx]⟩<|fun x hx=>bU x<|List.mem_cons_of_mem _<|dl.symm▸(by have hx:x∈aY:=hx;simp[hx])).vT (i+9) hf (isF fr aq _ (l[k]!).qC.qL) ⟨aV,fun e=>(ep e).sub<|by rw[dl];intro x hx;simp[hx]⟩<|fun x hx=>bU x<|List.mem_cons_of_mem _<|dl.symm▸(by have hx:x∈aq:=hx;simp[hx])).vT (i+10) hf (isF fr aZ _ (l[k]!).qC.vM) ⟨bK,fun e=>(ep e).sub<|by rw[dl];intro x hx;simp[hx]⟩<|fun x hx=>bU x<|List.mem_cons_of_mem _<|dl.symm▸(by have hx:x∈aZ:=hx;simp[hx])).vT (i+11) hf (isF fr an _ (l[k]!).qC.qF) ⟨aW,fun e=>(ep e).sub<|by rw[dl];intro x hx;simp[hx]⟩<|fun x hx=>bU x<|List.mem_cons_of_mem _<|dl.symm▸(by have hx:x∈an:=hx;simp[hx])).vT (i+12) hf (isF fr aM _ (l[k]!).qC.qG) ⟨bv,fun e=>(ep e).sub<|by rw[dl];intro x hx;simp[hx]⟩<|fun x hx=>bU x<|List.mem_cons_of_mem _<|dl.symm▸(by have hx:x∈aM:=hx;simp[hx]))⟩
theorem St.snoc_ServerD(H:St W0 w ps Γ)(i:Nat){l:List zu}(hf:Γ[i]? =some (qQ fr F xs l))(lW:Int)(rW:Nat){iB:yLN}{bh:Value}{rQ:yLL}(bv:Γ[rW]? =some (isF fr iB bh rQ))(nx:Nat){fH:yLN}{aD:Value}{mU:yLI}(aW:Γ[nx]? =some (isF fr fH aD mU))(kj:Bool)(uG:Nat){kN:yLN}{bz:Value}{wd:List Bool}(bK:Γ[uG]? =some (isF fr kN bz wd))(ng:Nat){fD:yLN}{aK:Value}{nL:yLL}(aV:Γ[ng]? =some (isF fr fD aK nL))(we:Nat){li:yLN}{bA:Value}{wt:List yLL}(bN:Γ[we]? =some (isF fr li bA wt))(rh:Nat){iK:yLN}{a6:Value}{rU:List yLL}(bu:Γ[rh]? =some (isF fr iK a6 rU))(kn:Int)(oB:Nat){fY:yLN}{aS:Value}{pk:yLL}(bf:Γ[oB]? =some (isF fr fY aS pk))(lE:Nat){eZ:yLN}{ay:Value}{lz:yLI}(aQ:Γ[lE]? =some (isF fr eZ ay lz))(io:Bool)(rD:Nat){iH:yLN}{a9:Value}{rE:List Bool}(bo:Γ[rD]? =some (isF fr iH a9 rE))(lB:Nat){eU:yLN}{aw:Value}{lJ:yLL}(aP:Γ[lB]? =some (isF fr eU aw lJ))(rY:Nat){iG:yLN}{a8:Value}{rm:List yLL}(bq:Γ[rY]? =some (isF fr iG a8 rm))(pg:Nat){f3:yLN}{aT:Value}{oX:List yLL}(bg:Γ[pg]? =some (isF fr f3 aT oX)):
 St W0 w ps (qQ fr (F++(iB++fH++kN++fD++li++iK++fY++eZ++iH++eU++iG++f3)) (xs++[.int .i64 lW,bh,aD,Bv kj,bz,aK,bA,a6,.int .i64 kn,aS,ay,Bv io,a9,aw,a8,aT]) (l++[⟨⟨lW,rQ,mU,kj,wd,nL,wt,rU⟩,⟨kn,pk,lz,io,rE,lJ,rm,oX⟩⟩])::Γ):=by
 have hr:qK.rep w (iB++fH++kN++fD++li++iK++fY++eZ++iH++eU++iG++f3) [.int .i64 lW,bh,aD,Bv kj,bz,aK,bA,a6,.int .i64 kn,aS,ay,Bv io,a9,aw,a8,aT] (⟨⟨lW,rQ,mU,kj,wd,nL,wt,rU⟩,⟨kn,pk,lz,io,rE,lJ,rm,oX⟩⟩:zu):=⟨bh,aD,bz,aK,bA,a6,aS,ay,a9,aw,a8,aT,iB,fH,kN,fD,li,iK,fY,eZ,iH,eU,iG,f3,rfl,rfl,(H.get rW bv).1,(H.get nx aW).1,(H.get uG bK).1,(H.get ng aV).1,(H.get we bN).1,(H.get rh bu).1,(H.get oB bf).1,(H.get lE aQ).1,(H.get rD bo).1,(H.get lB aP).1,(H.get rY bq).1,(H.get pg bg).1⟩
 refine H.add _ ⟨yU (H.get i hf).1<|reps_one hr,fun e=>((H.get i hf).2 e).app ((((((((((((((H.get rW bv).2 e).app ((H.get nx aW).2 e)).app ((H.get uG bK).2 e)).app ((H.get ng aV).2 e)).app ((H.get we bN).2 e)).app ((H.get rh bu).2 e)).app ((H.get oB bf).2 e)).app ((H.get lE aQ).2 e)).app ((H.get rD bo).2 e)).app ((H.get lB aP).2 e)).app ((H.get rY bq).2 e)).app ((H.get pg bg).2 e)))⟩ fun b hb=>?_
 rcases List.mem_append.1 hb with h|h
 ·exact(H.facts _<|List.mem_of_getElem? hf).2 b h
 ·simp only[List.mem_append] at h
  rcases h with (((((((((((h|h)|h)|h)|h)|h)|h)|h)|h)|h)|h)|h)
  ·exact(H.facts _<|List.mem_of_getElem? bv).2 b h
  ·exact(H.facts _<|List.mem_of_getElem? aW).2 b h
  ·exact(H.facts _<|List.mem_of_getElem? bK).2 b h
  ·exact(H.facts _<|List.mem_of_getElem? aV).2 b h
  ·exact(H.facts _<|List.mem_of_getElem? bN).2 b h
  ·exact(H.facts _<|List.mem_of_getElem? bu).2 b h
  ·exact(H.facts _<|List.mem_of_getElem? bf).2 b h
  ·exact(H.facts _<|List.mem_of_getElem? aQ).2 b h
  ·exact(H.facts _<|List.mem_of_getElem? bo).2 b h
  ·exact(H.facts _<|List.mem_of_getElem? aP).2 b h
  ·exact(H.facts _<|List.mem_of_getElem? bq).2 b h
  ·exact(H.facts _<|List.mem_of_getElem? bg).2 b h
structure zk where
 qP:Int
 QO:Int
 fTo:Int
 qG:yLL
 deriving DecidableEq
instance:Inhabited zk:=⟨⟨0,0,0,[]⟩⟩
instance:Tot zk:=⟨fun x=>tot x.qG⟩
instance:qK zk where
 size:=4
 rep:=fun w F cs x=>∃(dH:Value) (Q4:yLN),cs=[.int .i64 x.qP,.int .i64 x.QO,.int .i64 x.fTo,dH]/\F=Q4/\qK.rep w Q4 [dH] x.qG
 len:=by rintro w F cs x ⟨dH,Q4,rfl,_,Ve⟩;rfl
 one:=by
  rintro w F cs x ⟨dH,Q4,rfl,rfl,Ve⟩ u hu
  simp only[List.mem_cons,List.not_mem_nil,or_false] at hu
  rcases hu with rfl|rfl|rfl|rfl <;> first|rfl|exact one_of ql
 stay:=by
  rintro w w' F cs x ⟨dH,Q4,rfl,rfl,Ve⟩ hs
  exact⟨_,_,rfl,rfl,qK.stay Ve fun b hb=>hs b<|by simp[hb]⟩
 lt:=by
  rintro w F cs x ⟨dH,Q4,rfl,rfl,Ve⟩ b hb
  exact qK.lt Ve b hb
theorem St.elem_ParcelD(H:St W0 w ps Γ)(i:Nat){l:List zk}(hf:Γ[i]? =some (isF fr F (Sv (some ⟨b,o,none⟩) m c) l))(iv:Int)(k:Nat)(hk:iv.toNat=k)(h0:0<=iv)(h1:iv<l.length):
 ∃(eI:yOA) (eJ:Nat) (Q4:yLN),St W0 w ps (isF fr Q4 (Sv eI (l[k]!).qG.length eJ) (l[k]!).qG::atF b (o+iv.toNat*4) [.int .i64 (l[k]!).qP,.int .i64 (l[k]!).QO,.int .i64 (l[k]!).fTo,Sv eI (l[k]!).qG.length eJ]::Γ):=by
 obtain⟨cs,Fk,hc,hr,bU⟩:=H.elem i hf iv h0 h1
 have ep:fr=true->jS w Fk:=fun e=>((H.get i hf).2 e).sub fun x hx=>bU x<|List.mem_cons_of_mem _ hx
 rw[hk] at hr
 obtain⟨dH,Q4,rfl,dl,Ve⟩:=hr
 obtain⟨eI,eJ,rfl⟩:=slice_form Ve
 exact⟨_,_,_,((H.vT i hf (atF b (o+iv.toNat*4) [.int .i64 (l[k]!).qP,.int .i64 (l[k]!).QO,.int .i64 (l[k]!).fTo,Sv eI (l[k]!).qG.length eJ]) hc<|fun x hx=>bU x (by simp only[atF,List.mem_singleton] at hx;subst hx;exact List.mem_cons_self ..)).vT (i+1) hf (isF fr Q4 _ (l[k]!).qG) ⟨Ve,fun e=>(ep e).sub<|by rw[dl];intro x hx;simp[hx]⟩<|fun x hx=>bU x<|List.mem_cons_of_mem _<|dl.symm▸(by have hx:x∈Q4:=hx;simp[hx]))⟩
theorem St.snoc_ParcelD(H:St W0 w ps Γ)(i:Nat){l:List zk}(hf:Γ[i]? =some (qQ fr F xs l))(pe:Int)(Gl:Int)(xTo:Int)(uK:Nat){pK:yLN}{dH:Value}{zp:yLL}(Ve:Γ[uK]? =some (isF fr pK dH zp)):
 St W0 w ps (qQ fr (F++(pK)) (xs++[.int .i64 pe,.int .i64 Gl,.int .i64 xTo,dH]) (l++[⟨pe,Gl,xTo,zp⟩])::Γ):=by
 have hr:qK.rep w (pK) [.int .i64 pe,.int .i64 Gl,.int .i64 xTo,dH] (⟨pe,Gl,xTo,zp⟩:zk):=⟨dH,pK,rfl,rfl,(H.get uK Ve).1⟩
 refine H.add _ ⟨yU (H.get i hf).1<|reps_one hr,fun e=>((H.get i hf).2 e).app (((H.get uK Ve).2 e))⟩ fun b hb=>?_
 rcases List.mem_append.1 hb with h|h
 ·exact(H.facts _<|List.mem_of_getElem? hf).2 b h
 ·exact(H.facts _<|List.mem_of_getElem? Ve).2 b h
structure zN where
 qE:List zu
 x9:List zk
 deriving DecidableEq
instance:Inhabited zN:=⟨⟨[],[]⟩⟩
instance:Tot zN:=⟨fun x=>tot x.qE+tot x.x9⟩
instance:qK zN where
 size:=2
 rep:=fun w F cs x=>∃(kL yo:Value) (kZ yp:yLN),cs=[kL,yo]/\F=kZ++yp/\qK.rep w kZ [kL] x.qE/\qK.rep w yp [yo] x.x9
 len:=by rintro w F cs x ⟨kL,yo,kZ,yp,rfl,_,nc,DL⟩;rfl
 one:=by
  rintro w F cs x ⟨kL,yo,kZ,yp,rfl,rfl,nc,DL⟩ u hu
  simp only[List.mem_cons,List.not_mem_nil,or_false] at hu
  rcases hu with rfl|rfl <;> exact one_of ql
 stay:=by
  rintro w w' F cs x ⟨kL,yo,kZ,yp,rfl,rfl,nc,DL⟩ hs
  exact⟨_,_,_,_,rfl,rfl,qK.stay nc fun b hb=>hs b<|by simp[hb],qK.stay DL fun b hb=>hs b<|by simp[hb]⟩
 lt:=by
  rintro w F cs x ⟨kL,yo,kZ,yp,rfl,rfl,nc,DL⟩ b hb
  simp only[List.mem_append] at hb
  rcases hb with (hb|hb)
  ·exact qK.lt nc b hb
  ·exact qK.lt DL b hb
structure xH where
 xJ:Int
 fA:Int
 fB:Int
 deriving DecidableEq
instance:Inhabited xH:=⟨⟨0,0,0⟩⟩
instance:Tot xH:=⟨fun x=>0⟩
instance:qK xH where
 size:=3
 rep:=fun w F cs x=>cs=[.int .i64 x.xJ,.int .i64 x.fA,.int .i64 x.fB]/\F=[]
 len:=by rintro w F cs x ⟨rfl,rfl⟩;rfl
 one:=by
  rintro w F cs x ⟨rfl,rfl⟩ u hu
  simp only[List.mem_cons,List.not_mem_nil,or_false] at hu
  rcases hu with rfl|rfl|rfl <;> rfl
 stay:=by
  rintro w w' F cs x ⟨rfl,rfl⟩ hs
  exact⟨rfl,rfl⟩
 lt:=by
  rintro w F cs x ⟨rfl,rfl⟩ b hb
  simp at hb
theorem St.elem_DeedD(H:St W0 w ps Γ)(i:Nat){l:List xH}(hf:Γ[i]? =some (isF fr F (Sv (some ⟨b,o,none⟩) m c) l))(iv:Int)(k:Nat)(hk:iv.toNat=k)(h0:0<=iv)(h1:iv<l.length):
 ∃(_:Unit),St W0 w ps (atF b (o+iv.toNat*3) [.int .i64 (l[k]!).xJ,.int .i64 (l[k]!).fA,.int .i64 (l[k]!).fB]::Γ):=by
 obtain⟨cs,Fk,hc,hr,bU⟩:=H.elem i hf iv h0 h1
 rw[hk] at hr
 obtain⟨rfl,dl⟩:=hr
 exact⟨(),(H.vT i hf (atF b (o+iv.toNat*3) [.int .i64 (l[k]!).xJ,.int .i64 (l[k]!).fA,.int .i64 (l[k]!).fB]) hc<|fun x hx=>bU x (by simp only[atF,List.mem_singleton] at hx;subst hx;exact List.mem_cons_self ..))⟩
theorem St.snoc_DeedD(H:St W0 w ps Γ)(i:Nat){l:List xH}(hf:Γ[i]? =some (qQ fr F xs l))(Gd:Int)(xA:Int)(xB:Int):
 St W0 w ps (qQ fr (F++[]) (xs++[.int .i64 Gd,.int .i64 xA,.int .i64 xB]) (l++[⟨Gd,xA,xB⟩])::Γ):=by
 have hr:qK.rep w [] [.int .i64 Gd,.int .i64 xA,.int .i64 xB] (⟨Gd,xA,xB⟩:xH):=⟨rfl,rfl⟩
 refine H.add _ ⟨yU (H.get i hf).1<|reps_one hr,fun e=>((H.get i hf).2 e).app<|jS.nil _⟩ fun b hb=>?_
 rcases List.mem_append.1 hb with h|h
 ·exact(H.facts _<|List.mem_of_getElem? hf).2 b h
 ·simp at h
abbrev yS(s:qO)(a:Option Addr)(c:Nat)(a':Option Addr)(c':Nat):List Value:=[.int .i64 s.qN,Sv a s.qA.length c,Sv a' s.qB.length c']
abbrev yT(t:xn)(a:Option Addr)(c:Nat)(a':Option Addr)(c':Nat)(b:Option Addr)(d:Nat):List Value:=[Sv a t.xF.length c,Sv a' t.qG.length c',Sv b t.qF.length d]
end
variable{s:qO}
section
variable{cl cm : Nat}
theorem both_ok(w:World)(l:yLI)(m:yLI)(of:FuncId)(Bq:Array Value)(PA:Nat->Int)(hl:zP w Fl al cl l)(hm:zP w Fm am cm m)(p0:l.length<=m.length)(p1:l.length<=1000000)(avr:∀args w,(callFunc of args).run Tryz.prog w=.ok (.enter of args) w)(agV:∀k w',k<l.length->Ext w w' ->Calls Tryz.prog of (([yI<|l[k]!,yI<|m[k]!]:List Value)++Bq.toList).toArray w' (Ret (fun v _=>v=yI (PA k)) w')):Calls Tryz.prog 128 #[Sv al l.length cl,Sv am m.length cm,.func (.func of) #[] Bq] w (Ret (fun v w'=>OwnNew w w' 2 v<|tabTo PA l.length) w):=by
 refine en func128 ntmps128 ?_
 have H:=((St.start w).arg hm).arg hl
 have nhm:=qM hm
 clear hl hm
 refine zcr<|sq 1<|zjc<|sw<|jH H underlying24 ti2 fun b1 w2 H=>sq 1<|zjcc<|sq 1<|oN rfl<|sp (yI 0)<|zjn<|xe ?_
 replace H:=H.boxRow 0 rfl 1 0 rfl qj
 replace H:St _ _ [rr (aa b1 0) 0 0 2 1 []] _:=H
 refine zT ((fun Z0 Z1=>fun m' ρ w3=>∃(xP:Env) (k:Nat) (DY:Value),ρ=upd (upd (upd (upd (upd (upd (upd xP 1<|Sv am m.length cm) 2<|.func (.func of) #[] Bq) 6 yN) 7<|DY) 11<|Sv al l.length cl) 12<|yI l.length) 13 (yI k)/\(k<=l.length)/\m'=l.length-k/\St w w3 [.row DY 2 1 k ((tabTo PA k).map<|Value.int .i64)] [Z0,Z1]) _ _) (l.length-0) ⟨_,0,(Sv (aa b1 0) 0 0),uE7,qf,rfl,H⟩ ?_
 clear H
 rintro m' ρ w4 ⟨xP,k,DY,rfl,i0,rfl,H⟩
 refine zcr<|sq 1<|zjn<|xM<|cD rfl (fun h5=>?_)<|fun h5=>?_
 ·refine qW (t_n<|xM<|xe<|zcr<|sp (yI k) ?_)
  obtain⟨b6,o7,rfl⟩:=H.addr 0 rfl qf
  refine oI rfl rfl<|oL rfl (H.vG 0 rfl k qf)<|sp (yI k)<|sq 1<|zjn<|xX<|sp DY<|sp (.func (.func of) #[] Bq)<|sq 2<|sp (yI k) ?_
  obtain⟨b8,o9,rfl⟩:=H.addr 1 rfl qf
  refine oI rfl rfl<|oL rfl (H.vG 1 rfl k qf)<|sw<|o_callV [yI<|l[k]!,yI<|m[k]!] rfl rfl avr (agV k _ qf H.base) ?_
  rintro _ sI rfl x11
  replace H:=H.ext x11
  refine sw<|o_build1 H underlying24 ti2 qj qj (yI<|PA k) rfl rfl fun rK Dv H=>sw<|o_append H 1 rfl 0 rfl underlying24 ti2 rfl qj rfl rfl rfl qw qp qf fun v14 H7 H=>?_
  replace H:St _ _ [.box rK [yI<|PA k] 2,.row v14 2 1 (k+1) (((tabTo PA k).map<|Value.int .i64)++[yI<|PA k])] _:=H
  refine sp (v14)<|xU<|b_n<|t_n<|xX<|sw<|zS k 1 rfl rfl qf<|sq 1<|xU ?_
  rw[show ((tabTo PA k).map<|Value.int .i64)++[yI<|PA k]=(tabTo PA<|k+1).map (Value.int .i64) from by(rw[tabTo_succ];simp)] at H
  refine xu (m':=l.length-(k+1)) qf ⟨_,k+1,v14,uE7,?_,rfl,H.sel _ (.cons _<|.refl _) _ qm⟩
  ·omega
 refine zx4<|zcr<|sp DY<|sp DY<|zjr<|rH1 (DY) H ?_
 obtain rfl:k=l.length:=by omega
 exact H.newInts 0 rfl qm
theorem plus1_ok(w:World)(x:Int)(y:Int)(t:Int)(bt ot:Nat)(hpt:jI w bt ot [yI t])(p0: -1000000000000000<=x/\x<=1000000000000000)(p1: -1000000000000000<=t*y/\t*y<=1000000000000000):Calls Tryz.prog 129 #[yI x,yI y,pp bt ot] w (Ret (fun v w'=>v=yI (x+t*y)) w):=by
 refine en func129 ntmps129 ?_
 have H:=(St.start w).argAt hpt
 clear hpt
 refine zcr<|sp (yI 0)<|zjc<|sp (yI x)<|oL rfl (H.zG 0 rfl 0 rfl)<|sp (yI y)<|sw<|o_mul t y rfl rfl qf<|sw<|zS x (t*y) rfl rfl qf<|sq 1<|zjr<|rH1 (yI<|x+(t*y)) H ?_
 rfl
theorem plus_ok(w:World)(l:yLI)(m:yLI)(t:Int)(hl:zP w Fl al cl l)(hm:zP w Fm am cm m)(p0:l.length<=m.length)(p1:Mid l)(p2:X8 m t):Calls Tryz.prog 81 #[Sv al l.length cl,Sv am m.length cm,yI t] w (Ret (fun v w'=>OwnNew w w' 2 v<|jc l m t) w):=by
 refine en func81 ntmps81 ?_
 have H:=((St.start w).arg hm).arg hl
 clear hl hm
 have p3:=p1.1
 refine zcr<|sw<|o_box H (yI t) rfl fun b1 w2 H=>?_
 replace H:St _ _ [.box b1 [yI t] 2] _:=H
 refine sq 1<|zjc<|sq 2<|sp (.func (.func 129) #[] #[pp b1 0])<|sw<|oc (both_ok _ l m 129 #[pp b1 0] (fun k=>l[k]! +t*m[k]!) (H.get 0 rfl).1 (H.get 1 rfl).1 qf qf call129<|fun k w' hk e=>plus1_ok w' _ _ t _ _ ((H.ext e).cells 0 rfl) (by have:=p1.2 k hk;omega)<|p2 k qf) ?_
 rintro v5 w3 r5 x4
 replace H:=H.zV x4 r5
 refine sp (v5)<|zjr<|rH1 (v5) H<|H.newInts 0 rfl<|by simp[Qy]
theorem QD(w:World)(l:yLI)(m:yLI)(t:Int)(hl:zP w Fl al cl l)(hm:zP w Fm am cm m)(p0:l.length<=m.length)(p1:Mid l)(p2:X8 m t):Calls Tryz.prog 155 #[Sv al l.length cl,Sv am m.length cm,yI t] w (Ret (fun v w'=>OwnNew w w' 2 v<|jc l m t) w):=by
 refine en func155 ntmps155 ?_
 have H:=((St.start w).arg hm).arg hl
 have C5:=qM hl
 have nhm:=qM hm
 clear hl hm
 have p3:=p1.1
 refine zcr<|sq 1<|zjc<|sw<|jH H underlying24 ti2 fun b1 w2 H=>sq 1<|zjcc<|sp (yI 0)<|zjn<|xe ?_
 replace H:=H.boxRow 0 rfl 1 0 rfl qj
 replace H:St _ _ [rr (aa b1 0) 0 0 2 1 []] _:=H
 refine zT ((fun Z0 Z1=>fun m' ρ w3=>∃(xP:Env) (k:Nat) (DY:Value),ρ=upd (upd (upd (upd (upd (upd xP 0<|Sv al l.length cl) 1<|Sv am m.length cm) 2<|yI t) 6 yN) 7<|DY) 8 (yI k)/\(k<=l.length)/\m'=l.length-k/\St w w3 [.row DY 2 1 k ((plusTo l m t k).map<|Value.int .i64)] [Z0,Z1]) _ _) (l.length-0) ⟨_,0,(Sv (aa b1 0) 0 0),uE6,qf,rfl,H⟩ ?_
 clear H
 rintro m' ρ w4 ⟨xP,k,DY,rfl,i0,rfl,H⟩
 refine zcc<|sp (yI k)<|sq 1<|oN rfl<|sq 1<|zjn<|cD rfl (fun h5=>?_)<|fun h5=>?_
 ·refine qW (t_n<|xM<|xe<|c_draw (fun w6=>St w w6 [] [sF false Fl al cl l,sF false Fm am cm m]) rfl ((H.ext<|ext_drew _).sel _ (.cons _<|.refl _) _<|fun _ h=>h) ?_)
  replace H:=H.ext<|ext_drew _
  refine rtp 0 (DY) (H.sel _ (.cons _<|.refl _) _<|fun _ h=>h) ?_
  refine rtl 1 (H.sel _ (.cons _<|.refl _) _<|fun _ h=>h) ?_
  refine rtp 2 (yI k) (H.sel _ (.cons _<|.refl _) _<|fun _ h=>h) ?_
  obtain⟨b7,o8,rfl⟩:=H.addr 0 rfl qf
  refine tI 3 rfl rfl rfl (H.sel _ (.cons _<|.refl _) _<|fun _ h=>h) ?_
  refine tL 4 rfl rfl (fun _ h=>h.vG 0 rfl k qf) (H.sel _ (.cons _<|.refl _) _<|fun _ h=>h) ?_
  refine rtl 5 (H.sel _ (.cons _<|.refl _) _<|fun _ h=>h) ?_
  refine rtp 6 (yI k) (H.sel _ (.cons _<|.refl _) _<|fun _ h=>h) ?_
  obtain⟨b9,o10,rfl⟩:=H.addr 1 rfl qf
  refine tI 7 rfl rfl rfl (H.sel _ (.cons _<|.refl _) _<|fun _ h=>h) ?_
  refine tL 8 rfl rfl (fun _ h=>h.vG 1 rfl k qf) (H.sel _ (.cons _<|.refl _) _<|fun _ h=>h) ?_
  refine rtp 9 (yI t) (H.sel _ (.cons _<|.refl _) _<|fun _ h=>h) ?_
  refine rt 10 _ (y_mul (m[k]!) t rfl rfl<|by(have:=p1.2 k qf;have:=p2 k qf;rw[Int.mul_comm] at this;omega)) (H.sel _ (.cons _<|.refl _) _<|fun _ h=>h) ?_
  refine rt 11 _ (y_add (l[k]!) ((m[k]!)*t) rfl rfl<|by(have:=p1.2 k qf;have:=p2 k qf;rw[Int.mul_comm] at this;omega)) (H.sel _ (.cons _<|.refl _) _<|fun _ h=>h) ?_
  refine ro 12 rfl<|o_build1 H underlying24 ti2 qj qj (yI ((l[k]!)+((m[k]!)*t))) rfl rfl fun sT G7 H=>?_
  replace H:St _ _ [.box sT [yI ((l[k]!)+((m[k]!)*t))] 2,.row DY 2 1 k ((plusTo l m t k).map<|Value.int .i64)] _:=H
  refine⟨H.sel _ (.cons _<|.cons _<|.refl _) _<|fun _ h=>h,(ro 13 rfl<|o_append H 1 rfl 0 rfl underlying24 ti2 rfl qj rfl rfl rfl qw qp qf fun Ws Um H=>?_)⟩
  replace H:St _ _ [.box sT [yI ((l[k]!)+((m[k]!)*t))] 2,.row Ws 2 1 (k+1) (((plusTo l m t k).map<|Value.int .i64)++[yI ((l[k]!)+((m[k]!)*t))])] _:=H
  refine⟨H.sel _ (.cons _<|.cons _<|.refl _) _<|fun _ h=>h,(rtp 14 (Ws) (H.sel _ (.cons _<|.cons _<|.refl _) _<|fun _ h=>h) ?_)⟩
  refine xy qh<|b_n<|t_n<|xX<|sp (yI k)<|sw<|zS k 1 rfl rfl (by(have:=p1.2 k qf;have:=p2 k qf;rw[Int.mul_comm] at this;omega))<|sq 1<|xU ?_
  rw[show ((plusTo l m t k).map<|Value.int .i64)++[yI ((l[k]!)+((m[k]!)*t))]=(plusTo l m t<|k+1).map (Value.int .i64) from by(rw[plusTo_succ,Int.mul_comm t];simp)] at H
  refine xu (m':=l.length-(k+1)) qf ⟨_,k+1,Ws,uE6,?_,rfl,H.sel _ (.cons _<|.refl _) _ qm⟩
  ·omega
 refine zx4<|zcr<|sp DY<|sp DY<|zjr<|rH1 (DY) H ?_
 obtain rfl:k=l.length:=by omega
 exact H.newInts 0 rfl<|by simp[jc,plusTo]
theorem Vl(w:World)(l:yLI)(hl:zP w Fl al cl l)(p0:l.length<=1000000):Calls Tryz.prog 102 #[Sv al l.length cl] w (Ret (fun v w'=>OwnNew w w' 2 v l) w):=by
 refine en func102 ntmps102 ?_
 have H:=(St.start w).arg hl
 clear hl
 refine zcr<|sq 1<|zjc<|sw<|jH H underlying24 ti2 fun b1 w2 H=>sq 1 ?_
 replace H:=H.boxRow 0 rfl 1 0 rfl qj
 refine sw<|o_appendInts H 0 rfl 0 rfl underlying24 ti2 rfl rfl rfl qp qf fun v3 w4 H=>?_
 replace H:St _ _ [.row v3 2 1 (0+l.length) ([]++l.map (Value.int .i64))] _:=H
 refine sp (v3)<|zjr<|rH1 (v3) H<|H.newInts 0 rfl qf
theorem cloneI_ok(w:World)(l:yLI)(hl:zP w Fl al cl l)(p0:l.length<=1000000):Calls Tryz.prog 55 #[Sv al l.length cl] w (Ret (fun v w'=>OwnNew w w' 2 v l) w):=by
 refine en func55 ntmps55 ?_
 have H:=(St.start w).arg hl
 have C5:=qM hl
 clear hl
 refine zcr<|sq 1<|zjcc<|sq 1<|sw<|o_eqnil underlying24 al l.length cl rfl<|zjn<|vg _ rfl (fun h1=>?_)<|fun h1=>?_
 ·refine zcr (sq 1<|zjr<|t_r<|rH1 yN H ?_)
  obtain rfl:=H.nilOf 0 rfl ‹_›
  exact ownNew_nil _ _ _
 refine qW<|t_n<|zcr<|sw<|jH H underlying24 ti2 fun b2 w3 H=>sq 1 ?_
 replace H:=H.boxRow 0 rfl 1 0 rfl qj
 refine sw<|o_appendInts H 0 rfl 0 rfl underlying24 ti2 rfl rfl rfl qp qf fun v4 w5 H=>?_
 replace H:St _ _ [.row v4 2 1 (0+l.length) ([]++l.map (Value.int .i64))] _:=H
 refine sp (v4)<|zjr<|rH1 (v4) H<|H.newInts 0 rfl qf
end
section
instance:Mark IntoD where
 dN x:=1+dN x.Xa
 mrk x k:=⟨mrk x.qZ<|k,mrk x.Xa<|k+1⟩
 mkd x k:=mkd x.qZ (k)/\mkd x.Xa (k+1)
 mkd_mark x k:=by
  simp only[cnt_mark]
  exact⟨mkd_mark _ _,mkd_mark _ _⟩
 cnt_mark x k:=by simp only[cnt_mark]
theorem cnt_IntoD(x:IntoD):dN x=1+dN x.Xa:=rfl
instance:Mark yu where
 dN x:=1+1+dN x.zU+dN x.jJ+dN x.jK+dN x.jF+dN x.QL+dN x.xw+1
 mrk x k:=⟨mrk x.qZ<|k,mrk x.yJ<|k+1,mrk x.zU<|k+1+1,mrk x.jJ<|k+1+1+(dN x.zU:Nat),mrk x.jK<|k+1+1+(dN x.zU:Nat)+(dN x.jJ:Nat),mrk x.jF<|k+1+1+(dN x.zU:Nat)+(dN x.jJ:Nat)+(dN x.jK:Nat),mrk x.QL<|k+1+1+(dN x.zU:Nat)+(dN x.jJ:Nat)+(dN x.jK:Nat)+(dN x.jF:Nat),mrk x.xw<|k+1+1+(dN x.zU:Nat)+(dN x.jJ:Nat)+(dN x.jK:Nat)+(dN x.jF:Nat)+(dN x.QL:Nat),mrk x.jw<|k+1+1+(dN x.zU:Nat)+(dN x.jJ:Nat)+(dN x.jK:Nat)+(dN x.jF:Nat)+(dN x.QL:Nat)+(dN x.xw:Nat)⟩
 mkd x k:=mkd x.qZ (k)/\mkd x.yJ (k+1)/\mkd x.zU (k+1+1)/\mkd x.jJ (k+1+1+(dN x.zU:Nat))/\mkd x.jK (k+1+1+(dN x.zU:Nat)+(dN x.jJ:Nat))/\mkd x.jF (k+1+1+(dN x.zU:Nat)+(dN x.jJ:Nat)+(dN x.jK:Nat))/\mkd x.QL (k+1+1+(dN x.zU:Nat)+(dN x.jJ:Nat)+(dN x.jK:Nat)+(dN x.jF:Nat))/\mkd x.xw (k+1+1+(dN x.zU:Nat)+(dN x.jJ:Nat)+(dN x.jK:Nat)+(dN x.jF:Nat)+(dN x.QL:Nat))/\mkd x.jw (k+1+1+(dN x.zU:Nat)+(dN x.jJ:Nat)+(dN x.jK:Nat)+(dN x.jF:Nat)+(dN x.QL:Nat)+(dN x.xw:Nat))
 mkd_mark x k:=by
  simp only[cnt_mark]
  exact⟨mkd_mark _ _,mkd_mark _ _,mkd_mark _ _,mkd_mark _ _,mkd_mark _ _,mkd_mark _ _,mkd_mark _ _,mkd_mark _ _,mkd_mark _ _⟩
 cnt_mark x k:=by simp only[cnt_mark]
theorem cnt_RuleD(x:yu):dN x=1+1+dN x.zU+dN x.jJ+dN x.jK+dN x.jF+dN x.QL+dN x.xw+1:=rfl
instance:Mark xn where
 dN x:=dN x.xF+dN x.qG+dN x.qF
 mrk x k:=⟨mrk x.xF<|k,mrk x.qG<|k+(dN x.xF:Nat),mrk x.qF<|k+(dN x.xF:Nat)+(dN x.qG:Nat)⟩
 mkd x k:=mkd x.xF (k)/\mkd x.qG (k+(dN x.xF:Nat))/\mkd x.qF (k+(dN x.xF:Nat)+(dN x.qG:Nat))
 mkd_mark x k:=by
  simp only[cnt_mark]
  exact⟨mkd_mark _ _,mkd_mark _ _,mkd_mark _ _⟩
 cnt_mark x k:=by simp only[cnt_mark]
end
section
def FrameTo(s:qO)(k:Nat):Prop:=∀c,1<=c->c<k->0<=s.qA[c]! /\s.qA[c]! <=(c:Int)-1
theorem FrameTo.one(s:qO):FrameTo s 1:=fun c h1 h2=>by omega
theorem FrameTo.succ(h:FrameTo s k)(h1:0<=s.qA[k]! /\s.qA[k]! <=(k:Int)-1):FrameTo s (k+1):=fun c hc hk=>by
 by_cases e:c=k
 ·subst e;exact h1
 ·exact h c hc qf
def jZ(s:qO):Prop:=(1<=s.qN/\s.qN<=8)/\(1<=s.qA.length/\s.qA.length<=6)/\s.qA[0]! = -1/\FrameTo s s.qA.length
theorem jZ.up(h:jZ s){c:Int}(h0:0<c)(h1:c<=(s.qA.length:Int)-1):0<=s.qA[c.toNat]! /\s.qA[c.toNat]!<c:=by
 have:=h.2.2.2 c.toNat qf qf
 omega
inductive Lies(p:yLI)(o:Int):Int->Prop where
 |here {c:Int}:0<c->p[c.toNat]! =o->Lies p o c
 |up {c:Int}:0<c->Lies p o (p[c.toNat]!)->Lies p o c
theorem lies_iff{p:yLI}{o c:Int}:Lies p o c<->0<c/\(p[c.toNat]! =o\/Lies p o (p[c.toNat]!)):=by
 constructor
 ·rintro(⟨h,e⟩|⟨h,e⟩)
  ·exact⟨h,.inl e⟩
  ·exact⟨h,.inr e⟩
 ·rintro⟨h,e|e⟩
  ·exact .here h e
  ·exact .up h e
abbrev CellIn(s:qO)(c:Int):Prop:=0<=c/\c<=(s.qA.length:Int)-1
def IntoOk(s:qO)(r:yu)(j:Nat):Prop:=
 CellIn s (r.xw[j]!).qZ/\Lies s.qA r.qZ (r.xw[j]!).qZ/\vW s.qN (r.xw[j]!).Xa/\VN (r.xw[j]!).Xa≠0/\(0<j->(r.xw[j-1]!).qZ<(r.xw[j]!).qZ)
def IntosTo(s:qO)(r:yu)(k:Nat):Prop:=∀j,j<k->IntoOk s r j
theorem IntosTo.succ{r:yu}(h:IntosTo s r k)(h1:IntoOk s r k):IntosTo s r (k+1):=fun j hj=>by
 by_cases e:j=k
 ·subst e;exact h1
 ·exact h j qf
def RuleOk(s:qO)(r:yu):Prop:=
 CellIn s r.qZ/\(0<=r.yJ/\r.yJ<=9)/\¬(r.jw=true/\r.qZ=0)/\r.xw.length<=3∧
  vW s.qN r.zU/\vW s.qN r.jJ/\vW s.qN r.jK/\vW s.qN r.jF/\vW s.qN r.QL/\VN r.zU≠0/\IntosTo s r r.xw.length
def ofCell(rs:List yu)(c:Int):Nat->Int
 |0=>0
 |k+1=>ofCell rs c k+if (rs[k]!).qZ=c then 1 else 0
def RulesTo(s:qO)(k:Nat):Prop:=∀j,j<k->RuleOk s (s.qB[j]!)/\ofCell s.qB (s.qB[j]!).qZ (j+1)<=8
theorem RulesTo.succ(h:RulesTo s k)(h1:RuleOk s (s.qB[k]!))(h2:ofCell s.qB (s.qB[k]!).qZ (k+1)<=8):RulesTo s (k+1):=fun j hj=>by
 by_cases e:j=k
 ·subst e;exact⟨h1,h2⟩
 ·exact h j qf
def Qr(s:qO):Prop:=jZ s/\s.qB.length<=16/\RulesTo s s.qB.length
def BagsTo(s:qO)(t:xn)(k:Nat):Prop:=∀c,c<k->vW s.qN (t.qG[c]!)/\(t.xF[c]! =false->VN (t.qG[c]!)<=0)
theorem BagsTo.succ{t:xn}(h:BagsTo s t k)(h1:vW s.qN (t.qG[k]!))(h2:t.xF[k]! =false->VN (t.qG[k]!)<=0):BagsTo s t (k+1):=fun j hj=>by
 by_cases e:j=k
 ·subst e;exact⟨h1,h2⟩
 ·exact h j qf
def vU(s:qO)(t:xn):Prop:=
 t.xF.length=s.qA.length/\t.qG.length=s.qA.length/\t.xF[0]! =true/\vW s.qN t.qF/\BagsTo s t t.qG.length
theorem jZ.step(h:jZ s){c:Int}(h0:0<=c)(h1:c<=(s.qA.length:Int)-1): -1<=s.qA[c.toNat]! /\s.qA[c.toNat]!<c:=by
 rcases Int.lt_or_eq_of_le h0 with h2|h2
 ·have:=h.up h2 h1;omega
 ·subst h2
  have:=h.2.2.1
  simp only[Int.toNat_zero]
  omega
def climb(p:yLI)(alive:List Bool):Nat->Int->Int
 |0,c=>c
 |n+1,c=>if 0<=c/\alive[c.toNat]! =false then climb p alive n (p[c.toNat]!) else c
theorem climb_go{p:yLI}{c:Int}(hn:c<n)(h0:0<=c)(h:alive[c.toNat]! =false):climb p alive n c=climb p alive (n-1) (p[c.toNat]!):=by
 obtain⟨m,rfl⟩:∃m,n=m+1:=⟨n-1,by omega⟩
 rw[climb,if_pos ⟨h0,h⟩];rfl
theorem climb_end{p:yLI}{c:Int}(h:¬(0<=c/\alive[c.toNat]! =false)):climb p alive n c=c:=by
 cases n with
 |zero=>rfl
 |succ m=>rw[climb,if_neg h]
def zO(s:qO)(t:xn)(c:Int):Int:=climb s.qA t.xF s.qA.length<|s.qA[c.toNat]!
theorem ofCell_bd(rs:List yu)(c:Int):∀k,0<=ofCell rs c k/\ofCell rs c k<=k
 |0=>by simp[ofCell]
 |k+1=>by
  have:=ofCell_bd rs c k
  simp only[ofCell]
  split <;> omega
def counts(s:qO)(k:Nat):yLI:=(List.range s.qA.length).map fun c:Nat=>ofCell s.qB (c:Int) k
theorem counts_len(s:qO)(k:Nat):(counts s k).length=s.qA.length:=by simp[counts]
theorem counts_zero(s:qO):List.replicate s.qA.length (0:Int)=counts s 0:=by
 apply List.ext_getElem
 ·simp[counts]
 ·intro i h1 h2;simp[counts,ofCell]
theorem VJ{c:Int}(h:CellIn s c):(counts s k)[c.toNat]! =ofCell s.qB c k:=by
 rw[getElem!_pos _ _<|by rw[counts_len];omega]
 simp only[counts,List.getElem_map,List.getElem_range]
 rw[show ((c.toNat:Nat):Int)=c by omega]
theorem counts_succ(h:CellIn s (s.qB[k]!).qZ):
 (counts s k).set (s.qB[k]!).qZ.toNat ((counts s k)[(s.qB[k]!).qZ.toNat]! +1)=counts s (k+1):=by
 rw[VJ h]
 apply List.ext_getElem
 ·simp[counts]
 ·intro i h1 h2
  rw[List.getElem_set]
  simp only[counts,List.getElem_map,List.getElem_range,ofCell]
  by_cases e:(s.qB[k]!).qZ.toNat=i
  ·subst e
   rw[if_pos rfl,if_pos qf,show (((s.qB[k]!).qZ.toNat:Nat):Int)=(s.qB[k]!).qZ by omega]
  ·rw[if_neg e,if_neg qf];omega
open Classical in
noncomputable def cellCodeOf(s:qO)(t:xn)(c:Int):Int:=
 if ¬(Qr s/\vU s t) then 1 else if ¬CellIn s c then 2 else if t.xF[c.toNat]! =false then 4 else 0
end
end Go.Proofs.YtghikkinnchndaaGreat
