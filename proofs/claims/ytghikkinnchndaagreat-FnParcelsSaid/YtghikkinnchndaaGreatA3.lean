/- Walks and laws, printed by program and by hand: what each function comes to, for all arguments, part 3. -/
import Derived.Test.YtghikkinnchndaaGreatA2
namespace Go.Proofs.YtghikkinnchndaaGreat
open Go.Proofs.Tryz
set_option linter.unusedVariables false
set_option linter.unusedSimpArgs false
set_option maxRecDepth 100000
set_option maxHeartbeats 4000000
open Go.RowKit
open Go.Proofs.Tryz
open Go.Proofs.YtghikkinnchndaaGreat.Tot (tot)
open Go.Proofs.YtghikkinnchndaaGreat.Mark (dN mrk mkd mkd_mark cnt_mark)
variable{B K N b c g i j k m n nn o off p q sz:Nat}{F F1 G:yLN}{L Ns:List yLN}{M M' iv kk:Int}{P:Program}{W0 w:World}{X cs xs:List Value}{d:zA}{e t ty u:TypeId}{f:Fact}{fr SO:Bool}{l z:yLI}{ps:List Prv}{r:yu}{rules:List yu}{s:qO}{v:Value}{x y:Operand}{Γ Γ' Δ:List Fact}{ρ:Env}
section
theorem intoF_bd8{s:qO}{r:yu}{c:Int}(h:IntosTo s r r.xw.length)(h3:r.xw.length<=3)(hc:0<=c/\c<=1000)(p:Nat){q:Nat}(hq:q<jb s):∀j,j<=r.xw.length->0<=intoF r c j p q/\intoF r c j p q<=1000000*j
 |0,_=>by simp[intoF]
 |j+1,hj=>by
  have h1:=intoF_bd8 h h3 hc p hq j qf
  have h2:=(h j qf).2.2.1
  have h4:=h2.get (k:=q)<|by rw[h2.len];exact hq
  have h5:0<=c*((r.xw[j]!).Xa)[q]! /\c*((r.xw[j]!).Xa)[q]! <=1000000:=mul_bd (M:=1000) (D:=1000) hc h4
  simp only[intoF,at']
  split <;> omega
theorem putF_bd8{t:xn}{c:Int}(h:RuleOk s r)(hc:0<=c/\c<=1000)(p:Nat)(hq:q<jb s):0<=putF s t r c p q/\putF s t r c p q<=5000000:=by
 obtain⟨_,_,_,h3,_,_,_,h8,h9,_,cZ⟩:=h
 have h1:=intoF_bd8 cZ h3 hc p hq _<|Nat.le_refl _
 have h4:0<=c*(r.jF)[q]! /\c*(r.jF)[q]! <=1000000:=mul_bd (M:=1000) (D:=1000) hc<|h8.get (k:=q)<|by rw[h8.len];exact hq
 have h5:0<=c*(r.QL)[q]! /\c*(r.QL)[q]! <=1000000:=mul_bd (M:=1000) (D:=1000) hc<|h9.get (k:=q)<|by rw[h9.len];exact hq
 unfold putF at'
 split <;> split <;> omega
theorem putsOf_bd8{s:qO}{t:xn}{counts:yLI}{cell:Int}(hs:Qr s)(hc:CntOk s counts)(p:Nat){q:Nat}(hq:q<jb s):∀i,i<=s.qB.length->0<=XV s t counts cell i p q/\XV s t counts cell i p q<=5000000*i
 |0,_=>by simp[XV]
 |i+1,hi=>by
  have h1:=putsOf_bd8 (t:=t) (cell:=cell) hs hc p hq i qf
  have h2:=putF_bd8 (t:=t) (hs.rule (i:=i) qf) (hc.bd (i:=i) qf) p hq
  rw[XV]
  split <;> omega
theorem puts_shape{t:xn}{counts:yLI}(cell:Int)(hs:Qr s)(hc:CntOk s counts):Shape (zM s+1) (jb s) 80000000 (yc s t counts cell):=by
 refine⟨tab2_len _ _ _,fun p hp=>?_⟩
 have e:(yc s t counts cell)[p]! =(List.range<|jb s).map (XV s t counts cell s.qB.length p):=tab2_row hp
 rw[e]
 refine⟨by simp,fun k hk=>?_⟩
 rw[getElem!_pos ((List.range<|jb s).map<|XV s t counts cell s.qB.length p) k<|by simpa using hk]
 simp only[List.getElem_map,List.getElem_range]
 have:=putsOf_bd8 (t:=t) (cell:=cell) hs hc p hk s.qB.length<|Nat.le_refl _
 have:=hs.2.1
 omega
def vZ(own:yLI)(p:Nat):Int:=if p=own.length then own[0]! else own[p]!
def OwnIn(own:yLI)(n:Nat):Prop:=0<own.length/\∀j,j<own.length->0<=own[j]! /\own[j]!<n
theorem OwnIn.at{own:yLI}(h:OwnIn own n)(hp:p<=own.length):0<=vZ own p/\vZ own p<n:=by
 unfold vZ
 split
 ·exact h.2 0 h.1
 ·exact h.2 p qf
def addTo(own:yLI)(mY:yLL)(now:List yLL):Nat->List (yLL)
 |0=>now
 |x+1=>(addTo own mY now x).set (vZ own x).toNat (((addTo own mY now x)[(vZ own x).toNat]!).set x<|jc (((addTo own mY now x)[(vZ own x).toNat]!)[x]!) (mY[x]!) 1)
noncomputable def nowTo(s:qO)(t:xn)(own:yLI)(i:Int)(n:Nat):Nat->List (yLL)
 |0=>List.replicate n<|jG s<|zM s+1
 |c+1=>if own[c]! =i then addTo own (yc s t (xG s t) c) (nowTo s t own i n c) (zM s+1) else nowTo s t own i n c
theorem nowTo_yes{t:xn}{own:yLI}{i:Int}(h:own[c]! =i):nowTo s t own i n (c+1)=addTo own (yc s t (xG s t) c) (nowTo s t own i n c) (zM s+1):=by rw[nowTo,if_pos h]
theorem nowTo_no{t:xn}{own:yLI}{i:Int}(h:own[c]! ≠i):nowTo s t own i n (c+1)=nowTo s t own i n c:=by rw[nowTo,if_neg h]
def Cube(n N K:Nat)(B:Int)(m:List yLL):Prop:=m.length=n/\∀j,j<n->Shape N K B (m[j]!)
theorem Cube.row{B:Int}{m:List yLL}(h:Cube n N K B m)(hj:j<n):Shape N K B (m[j]!):=h.2 j hj
theorem Cube.mono{n N K:Nat}{B D:Int}{m:List yLL}(h:Cube n N K B m)(hD:B<=D):Cube n N K D m:=⟨h.1,fun j hj=>(h.2 j hj).mono hD⟩
theorem Cube.set{B:Int}{m:List yLL}(h:Cube n N K B m)(hj:j<n){b:yLL}(hb:Shape N K B b):Cube n N K B (m.set j b):=by
 refine⟨by simp[h.1],fun k hk=>?_⟩
 rw[getset<|by rw[h.1];exact hj]
 split
 ·exact hb
 ·exact h.2 k hk
def CubeAt(own:yLI)(n N K:Nat)(B D:Int)(x:Nat)(m:List yLL):Prop:=
 m.length=n/\∀j,j<n->(m[j]!).length=N/\∀p,p<N->((m[j]!)[p]!).length=K/\∀k,k<K->(-D<=((m[j]!)[p]!)[k]! /\((m[j]!)[p]!)[k]! <=D)/\(x<=p-> -B<=((m[j]!)[p]!)[k]! /\((m[j]!)[p]!)[k]! <=B)
theorem CubeAt.cube{own:yLI}{B D:Int}{x:Nat}{m:List yLL}(h:CubeAt own n N K B D x m):Cube n N K D m:=
 ⟨h.1,fun j hj=>⟨(h.2 j hj).1,fun p hp=>⟨((h.2 j hj).2 p hp).1,fun k hk=>(((h.2 j hj).2 p hp).2 k hk).1⟩⟩⟩
theorem addTo_at{own:yLI}{mY:yLL}{now:List yLL}{n N K:Nat}{B E:Int}(hn:Cube n N K B now)(hp:Shape N K E mY)(ho:OwnIn own n)(hN:N=own.length+1)(hE:0<=E):
 ∀x,x<=N->CubeAt own n N K B (B+E) x (addTo own mY now x)
 |0,_=>⟨hn.1,fun j hj=>⟨(hn.2 j hj).1,fun p hp=>⟨((hn.2 j hj).2 p hp).1,fun k hk=>by
  have:=((hn.2 j hj).2 p hp).2 k hk
  exact⟨by show -(B+E)<=((now[j]!)[p]!)[k]! /\((now[j]!)[p]!)[k]! <=B+E;omega,fun _=>this⟩⟩⟩⟩
 |x+1,hx=>by
  have ih:=addTo_at hn hp ho hN hE x qf
  have oa:=ho.at (p:=x) qf
  rw[addTo]
  refine⟨by simp[ih.1],fun j hj=>?_⟩
  rw[getset<|by rw[ih.1];omega]
  by_cases e:j=(vZ own x).toNat
  ·rw[if_pos e]
   have r:=ih.2 (vZ own x).toNat qf
   refine⟨by rw[List.length_set];exact r.1,fun p zd =>?_⟩
   rw[getset<|by rw[r.1];omega]
   by_cases e2:p=x
   ·rw[if_pos e2]
    have rr:=r.2 x qf
    refine⟨by rw[Qy];exact rr.1,fun k hk=>?_⟩
    rw[plus_get<|by rw[rr.1];exact hk]
    have h1:=(rr.2 k hk).2<|Nat.le_refl _
    have h2:=(hp.2 x qf).2 k hk
    exact⟨by omega,fun h=>by omega⟩
   ·rw[if_neg e2]
    have rr:=r.2 p zd
    exact⟨rr.1,fun k hk=>⟨(rr.2 k hk).1,fun h=>(rr.2 k hk).2 qf⟩⟩
  ·rw[if_neg e]
   have r:=ih.2 j hj
   exact⟨r.1,fun p zd =>⟨(r.2 p zd).1,fun k hk=>⟨((r.2 p zd).2 k hk).1,fun h=>((r.2 p zd).2 k hk).2 qf⟩⟩⟩
theorem nowTo_cube{s:qO}{t:xn}{own:yLI}{i:Int}{n:Nat}(hs:Qr s)(ht:vU s t)(ho:OwnIn own n)(hl:own.length=zM s):∀c:Nat,Cube n (zM s+1) (jb s) (80000000*c) (nowTo s t own i n c)
 |0=>by
  refine⟨by simp[nowTo],fun j hj=>?_⟩
  rw[nowTo,getElem!_pos (List.replicate n<|jG s<|zM s+1) j<|by simpa using hj,List.getElem_replicate]
  exact((zeros_ent (s:=s) (n:=zM s+1) (B:=0)<|Int.le_refl _).sh).mono qf
 |c+1=>by
  have ih:=nowTo_cube (i:=i) hs ht ho hl c
  by_cases h:own[c]! =i
  ·rw[nowTo_yes h]
   exact((addTo_at ih (puts_shape (t:=t) c hs<|Vo hs ht) ho (by rw[hl]) qf _<|Nat.le_refl _).cube).mono qf
  ·rw[nowTo_no h]
   exact ih.mono qf
def OffZero(own:yLI)(N K:Nat)(j:Nat)(b:yLL):Prop:=∀p,p<N->vZ own p≠(j:Int)->∀k,k<K->(b[p]!)[k]! =0
theorem addTo_off{own:yLI}{mY:yLL}{now:List yLL}{n N K:Nat}{B E:Int}(hn:Cube n N K B now)(hp:Shape N K E mY)(ho:OwnIn own n)(hN:N=own.length+1)(hE:0<=E)
 (h0:∀j,j<n->OffZero own N K j (now[j]!)):∀x,x<=N->∀j,j<n->OffZero own N K j ((addTo own mY now x)[j]!)
 |0,_=>h0
 |x+1,hx=>by
  have ih:=addTo_off hn hp ho hN hE h0 x qf
  have ia:=addTo_at hn hp ho hN hE x qf
  have oa:=ho.at (p:=x) qf
  intro j hj
  rw[addTo,getset<|by rw[ia.1];omega]
  by_cases e:j=(vZ own x).toNat
  ·rw[if_pos e]
   intro p zd pt k hk
   rw[getset<|by rw[(ia.2 _ qf).1];omega,if_neg<|by intro e2;subst e2;omega]
   have:=ih j hj p zd pt k hk
   rwa [e] at this
  ·rw[if_neg e];exact ih j hj
theorem nowTo_off{s:qO}{t:xn}{own:yLI}{i:Int}{n:Nat}(hs:Qr s)(ht:vU s t)(ho:OwnIn own n)(hl:own.length=zM s):∀c:Nat,∀j,j<n->OffZero own (zM s+1) (jb s) j ((nowTo s t own i n c)[j]!)
 |0=>fun j hj p hp _ k hk=>by
  rw[nowTo,getElem!_pos (List.replicate n<|jG s<|zM s+1) j<|by simpa using hj,List.getElem_replicate]
  exact(zeros_ent (s:=s) (n:=zM s+1) (B:=0)<|Int.le_refl _).eq p k hp hk
 |c+1=>by
  have ih:=nowTo_off (i:=i) hs ht ho hl c
  by_cases h:own[c]! =i
  ·rw[nowTo_yes h]
   exact addTo_off (nowTo_cube hs ht ho hl c) (puts_shape (t:=t) c hs<|Vo hs ht) ho (by rw[hl]) qf ih _<|Nat.le_refl _
  ·rw[nowTo_no h];exact ih
def AllB3(m:List yLL)(k:Nat):Prop:=∀j,j<k->yF (m[j]!) (m[j]!).length
theorem AllB3.succ{m:List yLL}(h:AllB3 m k)(h1:yF (m[k]!) (m[k]!).length):AllB3 m (k+1):=fun j hj=>by
 by_cases e:j=k
 ·subst e;exact h1
 ·exact h j qf
def Xo(l m:yLL)(k:Nat):yLL:=(List.range k).map fun j=>jc (l[j]!) (m[j]!) 1
def QB(l m:yLL):yLL:=Xo l m l.length
theorem VK(l m:yLL)(k:Nat):(Xo l m k).length=k:=by simp[Xo]
theorem addTabTo_snoc(l m:yLL)(k:Nat):Xo l m k++[jc (l[k]!) (m[k]!) 1]=Xo l m (k+1):=by simp[Xo,List.range_succ]
theorem addTabTo_get{l m:yLL}(h:j<k):(Xo l m k)[j]! =jc (l[j]!) (m[j]!) 1:=by
 rw[getElem!_pos (Xo l m k) j<|by rw[VK];exact h];simp[Xo]
def AllGot(l:List Bool)(k:Nat):Prop:=∀j,j<k->l[j]! =true
theorem AllGot.succ{l:List Bool}(h:AllGot l k)(h1:l[k]! =true):AllGot l (k+1):=fun j hj=>by
 by_cases e:j=k
 ·subst e;exact h1
 ·exact h j qf
def Q3(x:zu):Prop:=x.qI.qP=x.qC.qP/\x.qI.qV=true
def viewD(s:qO)(d:zA):xn:=⟨List.replicate (zM s) true,d.qG,d.qF⟩
noncomputable def nowD(s:qO)(own:yLI)(n i:Nat)(d:zA):List yLL:=nowTo s (viewD s d) own i n<|zM s
noncomputable def bagsD(s:qO)(d:zA):yLL:=restR s (viewD s d) (xG s<|viewD s d) s.qB.length
noncomputable def workD(s:qO)(own:yLI)(n i:Nat)(d:zA):zA:=
 { d with qG:=bagsD s d,vX:=nowD s own n i d,qL:=(nowD s own n i d)[i]!,qV:=true,vM:=(List.replicate n false).set i true }
def Xy(v:zN)(i:Nat)(d:zA):zN:={ v with qE:=v.qE.set i { v.qE[i]! with qC:=d }}
def putSaved(v:zN)(i:Nat)(d:zA):zN:={ v with qE:=v.qE.set i { v.qE[i]! with qI:=d }}
def SrvIn(v:zN)(i:Int):Prop:=0<=i/\i<=(v.qE.length:Int)-1
open Classical in
noncomputable def workM(s:qO)(own:yLI)(v:zN)(i:Nat):zN×Int:=
 if (v.qE[i]!).qC.qV=true then (v,4) else if (v.qE[i]!).qC.qP=100 then (v,3) else
  if AllB3 (nowD s own v.qE.length i (v.qE[i]!).qC) v.qE.length then (Xy v i<|workD s own v.qE.length i (v.qE[i]!).qC,0) else (v,3)
open Classical in
noncomputable def sendM(v:zN)(d:xH):zN×Int:=
 if ¬SrvIn v d.fA\/¬SrvIn v d.fB\/d.fA=d.fB then (v,2) else
  if d.xJ=3 then
   if ¬Q3 (v.qE[d.fA.toNat]!) then (v,4) else if v.x9.length=12 then (v,3) else
    ({ v with x9:=v.x9++[⟨(v.qE[d.fA.toNat]!).qC.qP,d.fA,d.fB,((v.qE[d.fA.toNat]!).qI.vX)[d.fB.toNat]!⟩]},0)
  else if (v.qE[d.fA.toNat]!).qC.qP=0 then (v,4) else if v.x9.length=12 then (v,3) else
   ({ v with x9:=v.x9++[⟨(v.qE[d.fA.toNat]!).qC.qP-1,d.fA,d.fB,((v.qE[d.fA.toNat]!).qC.x8)[d.fB.toNat]!⟩]},0)
def sumD(d:zA):yLL:=QB (d.qG++[d.qF]) d.qL
def nextD(s:qO)(d:zA):zA:=⟨d.qP+1,(sumD d).take<|zM s,(sumD d)[zM s]!,false,[],[],[],d.vX⟩
open Classical in
noncomputable def QI(s:qO)(v:zN)(i:Nat):zN×Int:=
 if ¬((v.qE[i]!).qC.qV=true/\AllGot (v.qE[i]!).qC.vM (v.qE[i]!).qC.vM.length/\Q3 (v.qE[i]!)) then (v,4) else
  if yF (sumD (v.qE[i]!).qC) (sumD (v.qE[i]!).qC).length then (Xy v i<|nextD s (v.qE[i]!).qC,0) else (v,3)
def gotD(d:zA)(p:zk):zA:={ d with qL:=QB d.qL p.qG,vM:=d.vM.set p.QO.toNat true }
open Classical in
noncomputable def comeM(v:zN)(p:zk):zN×Int:=
 if (v.qE[p.fTo.toNat]!).qC.qV=false\/(v.qE[p.fTo.toNat]!).qC.qP≠p.qP\/((v.qE[p.fTo.toNat]!).qC.vM)[p.QO.toNat]! =true then (v,0) else
  if yF (QB (v.qE[p.fTo.toNat]!).qC.qL p.qG) (QB (v.qE[p.fTo.toNat]!).qC.qL p.qG).length then (Xy v p.fTo.toNat<|gotD (v.qE[p.fTo.toNat]!).qC p,0) else (v,3)
open Classical in
noncomputable def wireM(v:zN)(d:xH):zN×Int:=
 if (v.x9.length:Int)<=d.fA then (v,2) else
  let r:=if d.xJ=8 then (v,0) else comeM v (v.x9[d.fA.toNat]!)
  if r.2≠0 then r else if d.xJ=7 then r else ({ r.1 with x9:=r.1.x9.eraseIdx d.fA.toNat },0)
open Classical in
noncomputable def doM(s:qO)(own:yLI)(v:zN)(d:xH):zN×Int:=
 if d.xJ=3\/d.xJ=4 then sendM v d else if d.xJ=6\/d.xJ=7\/d.xJ=8 then wireM v d else if ¬SrvIn v d.fA then (v,2) else
  if d.xJ=1 then workM s own v d.fA.toNat else if d.xJ=5 then QI s v d.fA.toNat else
   if d.xJ=2 then (putSaved v d.fA.toNat (v.qE[d.fA.toNat]!).qC,0) else (Xy v d.fA.toNat (v.qE[d.fA.toNat]!).qI,0)
def VL(d:xH):Prop:=(1<=d.xJ/\d.xJ<=9)/\(0<=d.fA/\d.fA<=999)/\(0<=d.fB/\d.fB<=999)/\(d.xJ=3\/d.xJ=4\/d.fB=0)
noncomputable def xN(s:qO)(own:yLI)(v:zN)(l:List xH):Nat->zN×Int
 |0=>(v,0)
 |k+1=>((doM s own (xN s own v l k).1<|l[k]!).1,(xN s own v l k).2+if (doM s own (xN s own v l k).1<|l[k]!).2=0 then 1 else 0)
def beginD(s:qO)(own:yLI)(t:xn)(i:Nat):zA:=
 ⟨0,(List.range<|zM s).map fun c=>if own[c]! =(i:Int) then t.qG[c]! else List.replicate (jb s) 0,if own[0]! =(i:Int) then t.qF else List.replicate (jb s) 0,false,[],[],[],[]⟩
def QN(s:qO)(own:yLI)(t:xn)(k:Nat):List zu:=(List.range k).map fun i=>⟨beginD s own t i,beginD s own t i⟩
def xg(s:qO)(own:yLI)(t:xn)(n:Nat):zN:=⟨QN s own t n,[]⟩
structure PutOk(s:qO)(own:yLI)(j:Nat)(b:yLL):Prop where
 len:b.length=zM s+1
 bag:∀p,p<zM s+1->vW s.qN (b[p]!)
 off:OffZero own (zM s+1) (jb s) j b
def PutsOk(s:qO)(own:yLI)(n:Nat)(m:List yLL):Prop:=m.length=n/\∀j,j<n->PutOk s own j (m[j]!)
structure jy(s:qO)(own:yLI)(n i:Nat)(d:zA):Prop where
 rnd:0<=d.qP/\d.qP<=100
 all:PutOk s own i (d.qG++[d.qF])
 got:d.qV=true->d.qP<=99/\d.vM.length=n/\PutOk s own i d.qL/\PutsOk s own n d.vX
 last:0<d.qP->PutsOk s own n d.x8
 rest:d.qV=false->d.vM=[]/\d.qL=[]/\d.vX=[]
 fst:d.qP=0->d.x8=[]
def ParcelOk(s:qO)(own:yLI)(n:Nat)(p:zk):Prop:=(0<=p.QO/\p.QO<n)/\(0<=p.fTo/\p.fTo<n)/\PutOk s own p.fTo.toNat p.qG/\0<=p.qP/\p.qP<=100
structure Vh(s:qO)(own:yLI)(n:Nat)(v:zN):Prop where
 len:v.qE.length=n
 srv:∀i,i<n->jy s own n i (v.qE[i]!).qC/\jy s own n i (v.qE[i]!).qI
 few:v.x9.length<=12
 wire:∀k,k<v.x9.length->ParcelOk s own n (v.x9[k]!)
structure Giv(s:qO)(own:yLI)(n:Nat):Prop where
 sys:Qr s
 len:own.length=zM s
 own:OwnIn own n
 few:n<=4
section
variable{s : qO}{own : yLI}{n : Nat}
theorem kindsN_eq(hs:jZ s):(jb s:Int)=s.qN:=by unfold jb;have:=hs.1.1;omega
theorem bagOk_of(hs:jZ s)(hl:l.length=jb s)(hb:∀k,k<jb s->0<=l[k]! /\l[k]! <=1000):vW s.qN l:=by
 have h:=kindsN_eq hs
 have h1:=hs.1
 refine⟨⟨fun k hk=>hb k qf,by omega,by omega⟩,by omega⟩
theorem jy.XT(h:jy s own n i d):d.qG.length=zM s:=by have:=h.all.len;simpa using this
theorem jy.bagAt(h:jy s own n i d)(hp:p<zM s):vW s.qN (d.qG[p]!):=by
 have:=h.all.bag p qf
 rwa [cat_get<|by rw[h.XT];exact hp] at this
theorem jy.aroundOk(h:jy s own n i d):vW s.qN d.qF:=by
 have:=h.all.bag (zM s) qf
 rwa [cat_getN h.XT] at this
theorem rep_getB(m k:Nat)(h:k<m):(List.replicate m true)[k]! =true:=by
 rw[getElem!_pos (List.replicate m true) k<|by simpa using h];simp
theorem jy.view(hs:jZ s)(h:jy s own n i d):vU s (viewD s d):=
 ⟨by simp[viewD],by simpa [viewD] using h.XT,by
  have:0<s.qA.length:=by have:=hs.2.1;omega
  exact rep_getB _ _ this,h.aroundOk,fun c hc=>by
  have hc':c<zM s:=by have:=h.XT;simp only[viewD] at hc;omega
  exact⟨h.bagAt hc',fun e=>by
   have:=rep_getB (zM s) c hc'
   simp only[viewD] at e
   rw[this] at e;cases e⟩⟩
theorem view_whole(d:zA):Whole (viewD s d):=fun c hc=>rep_getB _ _<|by simpa [viewD] using hc
theorem bagsD_rows(hg:Giv s own n)(h:jy s own n i d):(bagsD s d).length=zM s/\∀p,p<zM s->vW s.qN ((bagsD s d)[p]!)/\∀k,k<jb s->((bagsD s d)[p]!)[k]! =(d.qG[p]!)[k]! +needS s (xG s<|viewD s d) s.qB.length p k:=by
 have hs:=hg.sys
 have ht:=h.view hs.1
 have e:bagsD s d=jR s (viewD s d) s.qB.length:=first_rest hs ht _<|Nat.le_refl _
 have b:=firstR_box hs ht s.qB.length<|Nat.le_refl _
 have r:=restR_ent hs ht (Vo hs ht) s.qB.length<|Nat.le_refl _
 refine⟨by rw[e];exact b.1,fun p hp=>⟨?_,fun k hk=>r.eq p k hp hk⟩⟩
 rw[e]
 exact bagOk_of hs.1 (b.2 p hp).1 (b.2 p hp).2
theorem PutOk.mk'{b:yLL}{B:Int}(hs:jZ s)(hb:Shape (zM s+1) (jb s) B b)(ha:yF b b.length)(ho:OffZero own (zM s+1) (jb s) j b):PutOk s own j b:=
 ⟨hb.1,fun p hp=>by
  have h1:=ha p (by rw[hb.1];exact hp)
  have h2:=(hb.2 p hp).1
  exact⟨h1,by have:=kindsN_eq hs;omega⟩,ho⟩
theorem PutOk.shape{b:yLL}(h:PutOk s own j b):Shape (zM s+1) (jb s) 1000 b:=
 ⟨h.len,fun p hp=>⟨(h.bag p hp).len,fun k hk=>by have:=(h.bag p hp).get (k:=k) (by rw[(h.bag p hp).len];exact hk);omega⟩⟩
theorem workD_ok(hg:Giv s own n)(h:jy s own n i d)(hi:i<n)(hr:d.qP≠100)(ha:AllB3 (nowD s own n i d) n):jy s own n i (workD s own n i d):=by
 have hs:=hg.sys
 have ht:=h.view hs.1
 have hb:=bagsD_rows hg h
 have cube:=nowTo_cube (i:=i) hs ht hg.own hg.len<|zM s
 have off:=nowTo_off (i:=i) hs ht hg.own hg.len<|zM s
 have mY:PutsOk s own n (nowD s own n i d):=⟨cube.1,fun j hj=>PutOk.mk' hs.1 (cube.2 j hj) (ha j hj)<|off j hj⟩
 refine⟨h.rnd,⟨by simp[workD,hb.1],fun p hp=>?_,fun p hp pt k hk=>?_⟩,fun _=>⟨by have:=h.rnd;show d.qP<=99;omega,by simp[workD],mY.2 i hi,mY⟩,h.last,fun e=>by simp[workD] at e,h.fst⟩
 ·by_cases e:p<zM s
  ·show vW s.qN ((bagsD s d++[d.qF])[p]!)
   rw[cat_get<|by rw[hb.1];exact e];exact(hb.2 p e).1
  ·obtain rfl:p=zM s:=by omega
   show vW s.qN ((bagsD s d++[d.qF])[zM s]!)
   rw[cat_getN hb.1];exact h.aroundOk
 ·have h0:=h.all.off p hp pt k hk
  show ((bagsD s d++[d.qF])[p]!)[k]! =0
  by_cases e:p<zM s
  ·rw[cat_get<|by rw[h.XT];exact e] at h0
   rw[cat_get<|by rw[hb.1];exact e]
   have h1:=(hb.2 p e).2 k hk
   have h2:=needS_nonpos hs (Vo hs ht) p k hk s.qB.length<|Nat.le_refl _
   have h3:=(hb.2 p e).1.get (k:=k)<|by rw[(hb.2 p e).1.len];exact hk
   omega
  ·obtain rfl:p=zM s:=by omega
   rw[cat_getN h.XT] at h0
   rwa [cat_getN hb.1]
theorem addTab_rows{b c:yLL}(hb:PutOk s own j b)(hc:PutOk s own j c):(QB b c).length=zM s+1/\∀p,p<zM s+1->((QB b c)[p]!).length=jb s/\∀k,k<jb s->((QB b c)[p]!)[k]! =(b[p]!)[k]! +(c[p]!)[k]! :=by
 have hl:(QB b c).length=zM s+1:=by unfold QB;rw[VK];exact hb.len
 refine⟨hl,fun p hp=>?_⟩
 have e:(QB b c)[p]! =jc (b[p]!) (c[p]!) 1:=addTabTo_get<|by rw[hb.len];exact hp
 rw[e]
 refine⟨by rw[Qy];exact(hb.bag p hp).len,fun k hk=>?_⟩
 rw[plus_get<|by rw[(hb.bag p hp).len];exact hk];omega
theorem addTab_ok(hs:jZ s){b c:yLL}(hb:PutOk s own j b)(hc:PutOk s own j c)(ha:yF (QB b c) (QB b c).length):PutOk s own j (QB b c):=by
 have h:=addTab_rows hb hc
 refine⟨h.1,fun p hp=>?_,fun p hp pt k hk=>?_⟩
 ·have h1:=ha p (by rw[h.1];exact hp)
  exact⟨h1,by have:=kindsN_eq hs;have:=(h.2 p hp).1;omega⟩
 ·rw[(h.2 p hp).2 k hk,hb.off p hp pt k hk,hc.off p hp pt k hk];rfl
theorem take_cat{b:yLL}(h:b.length=zM s+1):b.take (zM s)++[b[zM s]!]=b:=by
 have e:b[zM s]! =b[zM s]'(by omega):=getElem!_pos b _ qf
 rw[e,←List.take_succ_eq_append_getElem qf]
 exact List.take_of_length_le qf
theorem nextD_ok(hg:Giv s own n)(h:jy s own n i d)(hw:d.qV=true)(ha:yF (sumD d) (sumD d).length):jy s own n i (nextD s d):=by
 obtain⟨h1,h2,h3,h4⟩:=h.got hw
 have hp:PutOk s own i (sumD d):=addTab_ok hg.sys.1 h.all h3 ha
 refine⟨by have:=h.rnd;show 0<=d.qP+1/\d.qP+1<=100;omega,?_,fun e=>by simp[nextD] at e,fun _=>h4,fun _=>⟨rfl,rfl,rfl⟩,fun e=>by have:=h.rnd;have e:d.qP+1=0:=e;omega⟩
 show PutOk s own i ((sumD d).take (zM s)++[(sumD d)[zM s]!])
 rw[take_cat hp.len];exact hp
theorem gotD_ok(hg:Giv s own n){p:zk}(hp:ParcelOk s own n p)(h:jy s own n p.fTo.toNat d)(hw:d.qV=true)(ha:yF (QB d.qL p.qG) (QB d.qL p.qG).length):jy s own n p.fTo.toNat (gotD d p):=by
 obtain⟨h1,h2,h3,h4⟩:=h.got hw
 exact⟨h.rnd,h.all,fun _=>⟨h1,by simpa [gotD] using h2,addTab_ok hg.sys.1 h3 hp.2.2.1 ha,h4⟩,h.last,(fun e=>by have e:d.qV=false:=e;rw[hw] at e;cases e),h.fst⟩
theorem beginD_ok(hg:Giv s own n){t:xn}(ht:vU s t)(i:Nat):jy s own n i (beginD s own t i):=by
 have hs:=hg.sys.1
 have hz:vW s.qN (List.replicate (jb s) (0:Int)):=bagOk_of hs qm fun k hk=>by
  rw[getElem!_pos (List.replicate (jb s) (0:Int)) k<|by simpa using hk];simp
 have hz0:∀k,k<jb s->(List.replicate (jb s) (0:Int))[k]! =0:=fun k hk=>by
  rw[getElem!_pos (List.replicate (jb s) (0:Int)) k<|by simpa using hk];simp
 have hl:(beginD s own t i).qG.length=zM s:=by simp[beginD]
 have hr:∀p,p<zM s->(beginD s own t i).qG[p]! =if own[p]! =(i:Int) then t.qG[p]! else List.replicate (jb s) 0:=fun p hp=>by
  rw[getElem!_pos (beginD s own t i).qG p<|by rw[hl];exact hp];simp[beginD]
 refine⟨by simp[beginD],⟨by simp[beginD],fun p hp=>?_,fun p hp pt k hk=>?_⟩,fun e=>by simp[beginD] at e,fun e=>by simp[beginD] at e,fun _=>⟨rfl,rfl,rfl⟩,fun _=>rfl⟩
 ·by_cases e:p<zM s
  ·rw[cat_get<|by rw[hl];exact e,hr p e]
   split
   ·exact ht.bagLen<|by rw[ht.2.1];exact e
   ·exact hz
  ·obtain rfl:p=zM s:=by omega
   rw[cat_getN hl]
   show vW s.qN (if own[0]! =(i:Int) then t.qF else List.replicate (jb s) 0)
   split
   ·exact ht.2.2.2.1
   ·exact hz
 ·by_cases e:p<zM s
  ·rw[cat_get<|by rw[hl];exact e,hr p e,if_neg (by rw[vZ,if_neg (fun x=>by have h1:own.length=zM s:=hg.len;rw[h1] at x;omega)] at pt;exact pt)]
   exact hz0 k hk
  ·obtain rfl:p=zM s:=by omega
   rw[cat_getN hl]
   show (if own[0]! =(i:Int) then t.qF else List.replicate (jb s) 0)[k]! =0
   rw[if_neg (by rw[vZ,if_pos hg.len.symm] at pt;exact pt)]
   exact hz0 k hk
theorem srvIn_iff{v:zN}(h:Vh s own n v){i:Int}:SrvIn v i<->0<=i/\i<n:=by unfold SrvIn;rw[h.len];omega
theorem set_srv{l:List zu}{x:zu}(hi:i<l.length):(l.set i x)[j]! =if j=i then x else l[j]! :=getset hi
theorem Vh.desk{v:zN}(h:Vh s own n v)(hd:jy s own n i d):Vh s own n (Xy v i d):=by
 refine⟨by simp[Xy,h.len],fun j hj=>?_,h.few,h.wire⟩
 by_cases hi:i<n
 ·show jy s own n j ((v.qE.set i { v.qE[i]! with qC:=d })[j]!).qC/\jy s own n j ((v.qE.set i { v.qE[i]! with qC:=d })[j]!).qI
  rw[set_srv<|by rw[h.len];exact hi]
  split
  ·rename_i e;subst e;exact⟨hd,(h.srv j hj).2⟩
  ·exact h.srv j hj
 ·show jy s own n j ((v.qE.set i { v.qE[i]! with qC:=d })[j]!).qC/\jy s own n j ((v.qE.set i { v.qE[i]! with qC:=d })[j]!).qI
  rw[List.set_eq_of_length_le<|by rw[h.len];omega]
  exact h.srv j hj
theorem Vh.saved{v:zN}(h:Vh s own n v)(hi:i<n)(hd:jy s own n i d):Vh s own n (putSaved v i d):=by
 refine⟨by simp[putSaved,h.len],fun j hj=>?_,h.few,h.wire⟩
 show jy s own n j ((v.qE.set i { v.qE[i]! with qI:=d })[j]!).qC/\jy s own n j ((v.qE.set i { v.qE[i]! with qI:=d })[j]!).qI
 rw[set_srv<|by rw[h.len];exact hi]
 split
 ·rename_i e;subst e;exact⟨(h.srv j hj).1,hd⟩
 ·exact h.srv j hj
theorem get_cat{α:Type}[Inhabited α]{l:List α}{x:α}(hk:k<(l++[x]).length):(l++[x])[k]! =if k<l.length then l[k]! else x:=by
 rw[getElem!_pos (l++[x]) k hk,List.getElem_append]
 by_cases h:k<l.length
 ·rw[dif_pos h,if_pos h,getElem!_pos l k h]
 ·rw[dif_neg h,if_neg h];simp
theorem Vh.post{v:zN}(h:Vh s own n v){p:zk}(hp:ParcelOk s own n p)(hf:v.x9.length≠12):Vh s own n { v with x9:=v.x9++[p]}:=by
 refine⟨h.len,h.srv,by have:=h.few;simp;omega,fun k hk=>?_⟩
 show ParcelOk s own n ((v.x9++[p])[k]!)
 rw[get_cat hk]
 split
 ·exact h.wire k ql
 ·exact hp
theorem erase_get{α:Type}[Inhabited α]{l:List α}(hk:k<(l.eraseIdx i).length):∃j,j<l.length/\(l.eraseIdx i)[k]! =l[j]! :=by
 have h1:=List.getElem_mem hk
 rw[getElem!_pos (l.eraseIdx i) k hk]
 obtain⟨j,hj,e⟩:=List.getElem_of_mem ((List.eraseIdx_sublist l i).subset h1)
 exact⟨j,hj,by rw[getElem!_pos l j hj,e]⟩
theorem Vh.drop{v:zN}(h:Vh s own n v)(i:Nat):Vh s own n { v with x9:=v.x9.eraseIdx i }:=by
 refine⟨h.len,h.srv,by have:=h.few;have:=(List.eraseIdx_sublist v.x9 i).length_le;show (v.x9.eraseIdx i).length<=12;omega,fun k hk=>?_⟩
 obtain⟨j,hj,e⟩:=erase_get hk
 show ParcelOk s own n ((v.x9.eraseIdx i)[k]!)
 rw[e];exact h.wire j hj
theorem comeM_ok(hg:Giv s own n){v:zN}(h:Vh s own n v){p:zk}(hp:ParcelOk s own n p):Vh s own n (comeM v p).1:=by
 unfold comeM
 split
 ·exact h
 ·rename_i h1
  have hw:(v.qE[p.fTo.toNat]!).qC.qV=true:=by
   cases e:(v.qE[p.fTo.toNat]!).qC.qV with
   |true=>rfl
   |false=>exact absurd (.inl e) h1
  split
  ·exact h.desk<|gotD_ok hg hp (h.srv _ (by have:=hp.2.1;omega)).1 hw ql
  ·exact h
theorem doM_ok(hg:Giv s own n){v:zN}(h:Vh s own n v){d:xH}(hd:VL d):Vh s own n (doM s own v d).1:=by
 unfold doM
 split
 ·unfold sendM
  split
  ·exact h
  ·rename_i h1
   have ha:SrvIn v d.fA:=Classical.byContradiction fun x=>h1<|.inl x
   have hb:SrvIn v d.fB:=Classical.byContradiction fun x=>h1<|.inr<|.inl x
   rw[srvIn_iff h] at ha hb
   have ia:=(h.srv d.fA.toNat qf)
   split
   ·split
    ·exact h
    ·split
     ·exact h
     ·rename_i h2 h3
      have sv:Q3 (v.qE[d.fA.toNat]!):=Classical.byContradiction h2
      have:=(ia.2.got sv.2).2.2.2.2 d.fB.toNat qf
      exact h.post ⟨ha,hb,this,ia.1.rnd⟩ h3
   ·split
    ·exact h
    ·split
     ·exact h
     ·rename_i h2 h3
      have:=(ia.1.last (by have:=ia.1.rnd;omega)).2 d.fB.toNat qf
      exact h.post ⟨ha,hb,this,by have:=ia.1.rnd;show 0<=(v.qE[d.fA.toNat]!).qC.qP-1/\(v.qE[d.fA.toNat]!).qC.qP-1<=100;omega⟩ h3
 ·split
  ·unfold wireM
   split
   ·exact h
   ·rename_i h1
    have hc:=comeM_ok hg h<|h.wire d.fA.toNat (by have:=hd.2.1;omega)
    by_cases e8:d.xJ=8
    ·simp only[e8,if_pos]
     exact h.drop _
    ·simp only[if_neg e8]
     split
     ·exact hc
     ·split
      ·exact hc
      ·exact hc.drop _
  ·split
   ·exact h
   ·rename_i h1
    have ha:SrvIn v d.fA:=Classical.byContradiction h1
    rw[srvIn_iff h] at ha
    have ia:=(h.srv d.fA.toNat qf)
    split
    ·unfold workM
     split
     ·exact h
     ·split
      ·exact h
      ·split
       ·rw[h.len] at *
        exact h.desk<|workD_ok hg ia.1 qf ql ql
       ·exact h
    ·split
     ·unfold QI
      split
      ·exact h
      ·rename_i h2
       have hw:=Classical.byContradiction h2
       split
       ·exact h.desk<|nextD_ok hg ia.1 hw.1 ql
       ·exact h
     ·split
      ·exact h.saved qf ia.1
      ·exact h.desk ia.2
theorem begin_ok(hg:Giv s own n){t:xn}(ht:vU s t):Vh s own n (xg s own t n):=by
 refine⟨by simp[xg,QN],fun i hi=>?_,by simp[xg],fun k hk=>by simp[xg] at hk⟩
 have e:(xg s own t n).qE[i]! =⟨beginD s own t i,beginD s own t i⟩:=by
  show (QN s own t n)[i]! =_
  rw[getElem!_pos (QN s own t n) i<|by simpa [QN] using hi];simp[QN]
 rw[e]
 exact⟨beginD_ok hg ht i,beginD_ok hg ht i⟩
theorem run_ok(hg:Giv s own n){v:zN}(h:Vh s own n v){l:List xH}(hl:∀k,k<l.length->VL (l[k]!)):∀k,k<=l.length->Vh s own n (xN s own v l k).1
 |0,_=>h
 |k+1,hk=>doM_ok hg (run_ok hg h hl k qf)<|hl k qf
theorem run_cnt(s:qO)(own:yLI)(v:zN)(l:List xH):∀k,0<=(xN s own v l k).2/\(xN s own v l k).2<=k
 |0=>by simp[xN]
 |k+1=>by
  have:=run_cnt s own v l k
  simp only[xN]
  split <;> omega
end
section
variable{s : qO}{own : yLI}{n : Nat}
def yK(s:qO)(counts:yLI)(cell:Int):Nat->yLI
 |0=>List.replicate s.qN.toNat 0
 |i+1=>if (s.qB[i]!).qZ=cell/\counts[i]! ≠0 then jc (yK s counts cell i) (s.qB[i]!).zU (counts[i]!) else yK s counts cell i
theorem took_yes{counts:yLI}{cell:Int}(h:(s.qB[i]!).qZ=cell)(h1:counts[i]! ≠0):yK s counts cell (i+1)=jc (yK s counts cell i) (s.qB[i]!).zU (counts[i]!):=by rw[yK,if_pos ⟨h,h1⟩]
theorem took_no{counts:yLI}{cell:Int}(h:¬((s.qB[i]!).qZ=cell/\counts[i]! ≠0)):yK s counts cell (i+1)=yK s counts cell i:=by rw[yK,if_neg h]
theorem took_len(counts:yLI)(cell:Int):∀i,(yK s counts cell i).length=jb s
 |0=>by simp[yK,jb]
 |i+1=>by
  rw[yK]
  split
  ·rw[Qy];exact took_len counts cell i
  ·exact took_len counts cell i
theorem took_get{counts:yLI}(hs:Qr s){p:Nat}{q:Nat}(hq:q<jb s):∀i,i<=s.qB.length->(yK s counts (p:Int) i)[q]! = -(needS s counts i p q)
 |0,_=>by
  rw[yK,getElem!_pos (List.replicate s.qN.toNat (0:Int)) q<|by simpa [jb] using hq];simp[needS]
 |i+1,hi=>by
  have ih:=took_get (counts:=counts) hs (p:=p) hq i qf
  have hc:=(hs.rule (i:=i) qf).1
  simp only[needS,needF,at']
  rw[yK]
  by_cases h:(s.qB[i]!).qZ=(p:Int)
  ·have e:p=(s.qB[i]!).qZ.toNat:=by omega
   rw[if_pos e]
   by_cases h1:counts[i]! ≠0
   ·rw[if_pos ⟨h,h1⟩,plus_get<|by rw[took_len];exact hq,ih,Int.neg_mul];omega
   ·have h2:counts[i]! =0:=Classical.byContradiction h1
    rw[if_neg<|fun x=>h1 x.2,ih,h2];simp
  ·rw[if_neg<|fun x=>h x.1,if_neg (by have:=hc.1;omega),ih];omega
noncomputable def jO(s:qO)(own:yLI)(d:zA)(i:Int):Nat->yLL
 |0=>d.qG
 |c+1=>if own[c]! =i then (jO s own d i c).set c (jc ((jO s own d i c)[c]!) (yK s (xG s<|viewD s d) (c:Int) s.qB.length) (-1)) else jO s own d i c
theorem sBags_yes{i:Int}(h:own[c]! =i):jO s own d i (c+1)=(jO s own d i c).set c (jc ((jO s own d i c)[c]!) (yK s (xG s<|viewD s d) (c:Int) s.qB.length) (-1)):=by rw[jO,if_pos h]
theorem sBags_no{i:Int}(h:own[c]! ≠i):jO s own d i (c+1)=jO s own d i c:=by rw[jO,if_neg h]
theorem sBags_len{d:zA}{i:Int}:∀c,(jO s own d i c).length=d.qG.length
 |0=>rfl
 |c+1=>by
  rw[jO]
  split
  ·rw[List.length_set];exact sBags_len c
  ·exact sBags_len c
theorem sBags_at{d:zA}{i:Int}{p:Nat}:∀c,c<=d.qG.length->(jO s own d i c)[p]! =if p<c/\own[p]! =i then jc (d.qG[p]!) (yK s (xG s<|viewD s d) (p:Int) s.qB.length) (-1) else d.qG[p]!
 |0,_=>by rw[jO,if_neg qf]
 |c+1,hc=>by
  have ih:=fun p=>sBags_at (d:=d) (i:=i) (p:=p) c qf
  by_cases h:own[c]! =i
  ·rw[sBags_yes h,getset<|by rw[sBags_len];omega]
   by_cases e:p=c
   ·subst e
    rw[if_pos rfl,if_pos ⟨by omega,h⟩,ih p,if_neg qf]
   ·rw[if_neg e,ih p]
    by_cases h2:p<c/\own[p]! =i
    ·rw[if_pos h2,if_pos ⟨by omega,h2.2⟩]
    ·rw[if_neg h2,if_neg<|fun x=>h2 ⟨by omega,x.2⟩]
  ·rw[sBags_no h,ih p]
   by_cases h2:p<c/\own[p]! =i
   ·rw[if_pos h2,if_pos ⟨by omega,h2.2⟩]
   ·rw[if_neg h2,if_neg (fun x=>h2 ⟨by
     have:p≠c:=fun e=>h (e▸x.2)
     omega,x.2⟩)]
theorem sBags_row(hg:Giv s own n)(h:jy s own n i d)(hc:c<zM s):((jO s own d i c)[c]!).length=jb s/\Mid ((jO s own d i c)[c]!):=by
 have e:(jO s own d (i:Int) c)[c]! =d.qG[c]! :=by rw[sBags_at c<|by rw[h.XT];omega,if_neg qf]
 rw[e]
 have hb:=h.bagAt hc
 exact⟨hb.len,(vP hb).mid⟩
theorem tookOk(hg:Giv s own n)(h:jy s own n i d)(c:Nat):X8 (yK s (xG s<|viewD s d) (c:Int) s.qB.length) (-1):=fun q hq=>by
 rw[took_len] at hq
 have ht:=h.view hg.sys.1
 rw[took_get hg.sys hq _<|Nat.le_refl _]
 have h1:=needS_nonpos hg.sys (Vo hg.sys ht) c q hq s.qB.length<|Nat.le_refl _
 by_cases hc:c<zM s
 ·have hb:=(bagsD_rows hg h).2 c hc
  have h2:=hb.2 q hq
  have h3:=hb.1.get (k:=q)<|by rw[hb.1.len];exact hq
  have h4:=(h.bagAt hc).get (k:=q)<|by rw[(h.bagAt hc).len];exact hq
  omega
 ·have:∀k,k<=s.qB.length->needS s (xG s<|viewD s d) k c q=0:=by
   intro k
   induction k with
   |zero=>intro _;rfl
   |succ k ih=>
    intro hk
    have hr:=(hg.sys.rule (i:=k) qf).cell
    simp only[needS,needF,at']
    rw[ih qf,if_neg (fun e=>by rw[e] at hc;exact hc hr)];rfl
  rw[this _<|Nat.le_refl _];omega
theorem sBags_end(hg:Giv s own n)(h:jy s own n i d):jO s own d i (zM s)=bagsD s d:=by
 have hb:=bagsD_rows hg h
 have ht:=h.view hg.sys.1
 refine ext_get (by rw[sBags_len,hb.1,h.XT]) fun p hp=>?_
 rw[sBags_len,h.XT] at hp
 have zd :p<zM s:=hp
 rw[sBags_at (zM s)<|by rw[h.XT];exact Nat.le_refl _]
 have hl:=(h.bagAt zd).len
 by_cases e:own[p]! =(i:Int)
 ·rw[if_pos ⟨zd,e⟩]
  refine ext_get (by rw[Qy,hl,(hb.2 p zd).1.len]) fun q hq=>?_
  rw[Qy,hl] at hq
  rw[plus_get<|by rw[hl];exact hq,took_get hg.sys hq _<|Nat.le_refl _,(hb.2 p zd).2 q hq];omega
 ·rw[if_neg<|fun x=>e x.2]
  refine ext_get (by rw[hl,(hb.2 p zd).1.len]) fun q hq=>?_
  rw[hl] at hq
  have h0:=h.all.off p qf (by rw[vZ,if_neg (fun x=>by have h1:own.length=zM s:=hg.len;rw[h1] at x;omega)];exact e) q hq
  rw[cat_get<|by rw[h.XT];exact zd] at h0
  have h1:=(hb.2 p zd).2 q hq
  have h2:=needS_nonpos hg.sys (Vo hg.sys ht) p q hq s.qB.length<|Nat.le_refl _
  have h3:=(hb.2 p zd).1.get (k:=q)<|by rw[(hb.2 p zd).1.len];exact hq
  omega
def XE(l m:yLL)(c:Nat):yLL:=(List.range l.length).map fun j=>if j<c then jc (l[j]!) (m[j]!) 1 else l[j]!
theorem X5(l m:yLL)(c:Nat):(XE l m c).length=l.length:=by simp[XE]
theorem advTo_get{l m:yLL}(hj:j<l.length):(XE l m c)[j]! =if j<c then jc (l[j]!) (m[j]!) 1 else l[j]! :=by
 rw[getElem!_pos (XE l m c) j<|by rw[X5];exact hj];simp[XE]
theorem advTo_zero(l m:yLL):l=XE l m 0:=ext_get (by rw[X5]) fun j hj=>by rw[advTo_get hj,if_neg qf]
theorem advTo_set{l m:yLL}(hc:c<l.length){x:yLI}(hx:x=jc (l[c]!) (m[c]!) 1):(XE l m c).set c x=XE l m (c+1):=
 ext_get (by rw[List.length_set,X5,X5]) fun j hj=>by
  rw[List.length_set,X5] at hj
  rw[getset<|by rw[X5];exact hc,advTo_get hj,advTo_get hj]
  by_cases e:j=c
  ·rw[if_pos e,if_pos qf,hx,e]
  ·rw[if_neg e]
   by_cases h:j<c
   ·rw[if_pos h,if_pos qf]
   ·rw[if_neg h,if_neg qf]
theorem sum_adv(hb:d.qG.length=zM s):sumD d=XE d.qG d.qL (zM s)++[jc d.qF (d.qL[zM s]!) 1]:=by
 have hl:(sumD d).length=zM s+1:=by unfold sumD QB;rw[VK];simp[hb]
 refine ext_get (by rw[hl];simp[X5,hb]) fun j hj=>?_
 rw[hl] at hj
 have e:(sumD d)[j]! =jc ((d.qG++[d.qF])[j]!) (d.qL[j]!) 1:=addTabTo_get<|by simp[hb];exact hj
 rw[e,get_cat<|by rw[List.length_append,hb];exact hj,get_cat<|by rw[List.length_append,X5,hb];exact hj,X5,hb]
 by_cases h:j<zM s
 ·rw[if_pos h,if_pos h,advTo_get<|by rw[hb];exact h,if_pos h]
 ·obtain rfl:j=zM s:=by omega
  rw[if_neg h,if_neg h]
theorem nextD_adv(hb:d.qG.length=zM s):nextD s d=⟨d.qP+1,XE d.qG d.qL<|zM s,jc d.qF (d.qL[zM s]!) 1,false,[],[],[],d.vX⟩:=by
 have hl:(XE d.qG d.qL<|zM s).length=zM s:=by rw[X5,hb]
 unfold nextD
 rw[sum_adv hb,cat_getN hl,List.take_left' hl]
theorem allBags_cat{b:yLL}{a:yLI}:yF (b++[a]) (b++[a]).length<->yF b b.length/\VM a:=by
 constructor
 ·intro h
  refine⟨fun j hj=>?_,?_⟩
  ·have:=h j qy
   rwa [cat_get hj] at this
  ·have:=h b.length qm
   rwa [cat_getN rfl] at this
 ·rintro⟨h1,h2⟩ j hj
  rw[get_cat hj]
  split
  ·exact h1 j ql
  ·exact h2
def Sm2(l:yLL):Prop:=l.length<=1000000/\∀k,k<l.length->(l[k]!).length<=1000000
def Sm3(l:List yLL):Prop:=l.length<=1000000/\∀k,k<l.length->Sm2 (l[k]!)
structure SmD(d:zA):Prop where
 bags:Sm2 d.qG
 around:d.qF.length<=1000000
 got:d.vM.length<=1000000
 coming:Sm2 d.qL
 now:Sm3 d.vX
 last:Sm3 d.x8
theorem Sm2.nil:Sm2 []:=⟨by simp,fun k hk=>by simp at hk⟩
theorem Sm3.nil:Sm3 []:=⟨by simp,fun k hk=>by simp at hk⟩
theorem PutOk.small{b:yLL}(hs:Qr s)(h:PutOk s own j b):Sm2 b:=by
 have hk:=XR hs
 have hc:=hs.1.2.1
 refine⟨by have:=h.len;have:zM s=s.qA.length:=rfl;omega,fun k BJ =>?_⟩
 have:=(h.bag k (by have:=h.len;omega)).len
 omega
theorem PutsOk.small{m:List yLL}(hs:Qr s)(hn:n<=4)(h:PutsOk s own n m):Sm3 m:=⟨by have:=h.1;omega,fun k hk=>(h.2 k (by have:=h.1;omega)).small hs⟩
theorem jy.small{i:Nat}{d:zA}(hg:Giv s own n)(h:jy s own n i d):SmD d:=by
 have hk:=XR hg.sys
 have hc:=hg.sys.1.2.1
 have hn:=hg.few
 refine⟨⟨by have:=h.XT;have:zM s=s.qA.length:=rfl;omega,fun k BJ =>?_⟩,?_,?_,?_,?_,?_⟩
 ·have:=(h.bagAt (p:=k)<|by rw[←h.XT];exact BJ).len;omega
 ·have:=h.aroundOk.len;omega
 ·cases e:d.qV with
  |true=>have:=(h.got e).2.1;omega
  |false=>rw[(h.rest e).1];simp
 ·cases e:d.qV with
  |true=>exact(h.got e).2.2.1.small hg.sys
  |false=>rw[(h.rest e).2.1];exact Sm2.nil
 ·cases e:d.qV with
  |true=>exact(h.got e).2.2.2.small hg.sys hn
  |false=>rw[(h.rest e).2.2];exact Sm3.nil
 ·by_cases e:0<d.qP
  ·exact(h.last e).small hg.sys hn
  ·rw[h.fst (by have:=h.rnd;omega)];exact Sm3.nil
theorem desk_last{a b:zA}(h1:a.qP=b.qP)(h2:a.qV=b.qV)(h3:a.vM=b.vM)(h4:a.qF=b.qF)(h5:a.qG=b.qG)(h6:a.qL=b.qL)(h7:a.vX=b.vX):decide (a.x8=b.x8)=decide (a=b):=by
 by_cases h:a.x8=b.x8
 ·rw[decide_eq_true h,decide_eq_true<|by cases a;cases b;simp_all]
 ·rw[decide_eq_false h,decide_eq_false<|fun e=>h<|by rw[e]]
variable{v : zN}{d : xH}
theorem three{a b c:Prop}(h:a/\b/\¬c):¬(¬a\/¬b\/c):=by
 rintro(x|x|x)
 ·exact x h.1
 ·exact x h.2.1
 ·exact h.2.2 x
theorem do_send(h:d.xJ=3\/d.xJ=4):doM s own v d=sendM v d:=by rw[doM,if_pos h]
theorem do_wire(h:d.xJ=6\/d.xJ=7\/d.xJ=8):doM s own v d=wireM v d:=by rw[doM,if_neg qf,if_pos h]
theorem do_range(h:¬(d.xJ=3\/d.xJ=4))(h1:¬(d.xJ=6\/d.xJ=7\/d.xJ=8))(h2:¬SrvIn v d.fA):doM s own v d=(v,2):=by rw[doM,if_neg h,if_neg h1,if_pos h2]
theorem do_work(h:d.xJ=1)(h2:SrvIn v d.fA):doM s own v d=workM s own v d.fA.toNat:=by rw[doM,if_neg qf,if_neg qf,if_neg<|fun x=>x h2,if_pos h]
theorem do_advance(h:d.xJ=5)(h2:SrvIn v d.fA):doM s own v d=QI s v d.fA.toNat:=by rw[doM,if_neg qf,if_neg qf,if_neg<|fun x=>x h2,if_neg qf,if_pos h]
theorem do_save(h:d.xJ=2)(h2:SrvIn v d.fA):doM s own v d=(putSaved v d.fA.toNat (v.qE[d.fA.toNat]!).qC,0):=by rw[doM,if_neg qf,if_neg qf,if_neg<|fun x=>x h2,if_neg qf,if_neg qf,if_pos h]
theorem do_crash(h:d.xJ=9)(h2:SrvIn v d.fA):doM s own v d=(Xy v d.fA.toNat (v.qE[d.fA.toNat]!).qI,0):=by rw[doM,if_neg qf,if_neg qf,if_neg<|fun x=>x h2,if_neg qf,if_neg qf,if_neg qf]
theorem send_range(h:¬SrvIn v d.fA\/¬SrvIn v d.fB\/d.fA=d.fB):sendM v d=(v,2):=by rw[sendM,if_pos h]
theorem send_post0(h:SrvIn v d.fA/\SrvIn v d.fB/\d.fA≠d.fB)(h1:d.xJ=3)(h2:¬Q3 (v.qE[d.fA.toNat]!)):sendM v d=(v,4):=by rw[sendM,if_neg<|three h,if_pos h1,if_pos h2]
theorem send_post1(h:SrvIn v d.fA/\SrvIn v d.fB/\d.fA≠d.fB)(h1:d.xJ=3)(h2:Q3 (v.qE[d.fA.toNat]!))(h3:v.x9.length=12):sendM v d=(v,3):=by rw[sendM,if_neg<|three h,if_pos h1,if_neg<|fun x=>x h2,if_pos h3]
theorem send_post2(h:SrvIn v d.fA/\SrvIn v d.fB/\d.fA≠d.fB)(h1:d.xJ=3)(h2:Q3 (v.qE[d.fA.toNat]!))(h3:v.x9.length≠12):sendM v d=({ v with x9:=v.x9++[⟨(v.qE[d.fA.toNat]!).qC.qP,d.fA,d.fB,((v.qE[d.fA.toNat]!).qI.vX)[d.fB.toNat]!⟩]},0):=by rw[sendM,if_neg<|three h,if_pos h1,if_neg<|fun x=>x h2,if_neg h3]
theorem send_back0(h:SrvIn v d.fA/\SrvIn v d.fB/\d.fA≠d.fB)(h1:d.xJ≠3)(h2:(v.qE[d.fA.toNat]!).qC.qP=0):sendM v d=(v,4):=by rw[sendM,if_neg<|three h,if_neg h1,if_pos h2]
theorem send_back1(h:SrvIn v d.fA/\SrvIn v d.fB/\d.fA≠d.fB)(h1:d.xJ≠3)(h2:(v.qE[d.fA.toNat]!).qC.qP≠0)(h3:v.x9.length=12):sendM v d=(v,3):=by rw[sendM,if_neg<|three h,if_neg h1,if_neg h2,if_pos h3]
theorem send_back2(h:SrvIn v d.fA/\SrvIn v d.fB/\d.fA≠d.fB)(h1:d.xJ≠3)(h2:(v.qE[d.fA.toNat]!).qC.qP≠0)(h3:v.x9.length≠12):sendM v d=({ v with x9:=v.x9++[⟨(v.qE[d.fA.toNat]!).qC.qP-1,d.fA,d.fB,((v.qE[d.fA.toNat]!).qC.x8)[d.fB.toNat]!⟩]},0):=by rw[sendM,if_neg<|three h,if_neg h1,if_neg h2,if_neg h3]
variable{i : Nat}
theorem work_4(h:(v.qE[i]!).qC.qV=true):workM s own v i=(v,4):=by rw[workM,if_pos h]
theorem work_3(h:¬(v.qE[i]!).qC.qV=true)(h1:(v.qE[i]!).qC.qP=100):workM s own v i=(v,3):=by rw[workM,if_neg h,if_pos h1]
theorem work_no(h:¬(v.qE[i]!).qC.qV=true)(h1:(v.qE[i]!).qC.qP≠100)(h2:¬AllB3 (nowD s own v.qE.length i (v.qE[i]!).qC) v.qE.length):workM s own v i=(v,3):=by rw[workM,if_neg h,if_neg h1,if_neg h2]
theorem work_0(h:¬(v.qE[i]!).qC.qV=true)(h1:(v.qE[i]!).qC.qP≠100)(h2:AllB3 (nowD s own v.qE.length i (v.qE[i]!).qC) v.qE.length):workM s own v i=(Xy v i<|workD s own v.qE.length i (v.qE[i]!).qC,0):=by rw[workM,if_neg h,if_neg h1,if_pos h2]
theorem adv_4(h:¬((v.qE[i]!).qC.qV=true/\AllGot (v.qE[i]!).qC.vM (v.qE[i]!).qC.vM.length/\Q3 (v.qE[i]!))):QI s v i=(v,4):=by rw[QI,if_pos h]
theorem adv_3(h:(v.qE[i]!).qC.qV=true/\AllGot (v.qE[i]!).qC.vM (v.qE[i]!).qC.vM.length/\Q3 (v.qE[i]!))(h1:¬yF (sumD (v.qE[i]!).qC) (sumD (v.qE[i]!).qC).length):QI s v i=(v,3):=by rw[QI,if_neg<|fun x=>x h,if_neg h1]
theorem adv_0(h:(v.qE[i]!).qC.qV=true/\AllGot (v.qE[i]!).qC.vM (v.qE[i]!).qC.vM.length/\Q3 (v.qE[i]!))(h1:yF (sumD (v.qE[i]!).qC) (sumD (v.qE[i]!).qC).length):QI s v i=(Xy v i<|nextD s (v.qE[i]!).qC,0):=by rw[QI,if_neg<|fun x=>x h,if_pos h1]
variable{p : zk}
theorem come_0(h:(v.qE[p.fTo.toNat]!).qC.qV=false\/(v.qE[p.fTo.toNat]!).qC.qP≠p.qP\/((v.qE[p.fTo.toNat]!).qC.vM)[p.QO.toNat]! =true):comeM v p=(v,0):=by rw[comeM,if_pos h]
theorem come_3(h:¬((v.qE[p.fTo.toNat]!).qC.qV=false\/(v.qE[p.fTo.toNat]!).qC.qP≠p.qP\/((v.qE[p.fTo.toNat]!).qC.vM)[p.QO.toNat]! =true))(h1:¬yF (QB (v.qE[p.fTo.toNat]!).qC.qL p.qG) (QB (v.qE[p.fTo.toNat]!).qC.qL p.qG).length):comeM v p=(v,3):=by rw[comeM,if_neg h,if_neg h1]
theorem come_1(h:¬((v.qE[p.fTo.toNat]!).qC.qV=false\/(v.qE[p.fTo.toNat]!).qC.qP≠p.qP\/((v.qE[p.fTo.toNat]!).qC.vM)[p.QO.toNat]! =true))(h1:yF (QB (v.qE[p.fTo.toNat]!).qC.qL p.qG) (QB (v.qE[p.fTo.toNat]!).qC.qL p.qG).length):comeM v p=(Xy v p.fTo.toNat<|gotD (v.qE[p.fTo.toNat]!).qC p,0):=by rw[comeM,if_neg h,if_pos h1]
theorem wire_2(h:(v.x9.length:Int)<=d.fA):wireM v d=(v,2):=by rw[wireM,if_pos h]
theorem wire_drop(h:¬(v.x9.length:Int)<=d.fA)(h1:d.xJ=8):wireM v d=({ v with x9:=v.x9.eraseIdx d.fA.toNat },0):=by
 rw[wireM,if_neg h];simp only[if_pos h1];exact(if_neg qm).trans<|if_neg qf
theorem wire_no(h:¬(v.x9.length:Int)<=d.fA)(h1:d.xJ≠8)(h2:(comeM v<|v.x9[d.fA.toNat]!).2≠0):wireM v d=comeM v (v.x9[d.fA.toNat]!):=by
 rw[wireM,if_neg h];simp only[if_neg h1];exact if_pos h2
theorem wire_copy(h:¬(v.x9.length:Int)<=d.fA)(h1:d.xJ=7):wireM v d=comeM v (v.x9[d.fA.toNat]!):=by
 rw[wireM,if_neg h];simp only[if_neg<|show ¬d.xJ=8 by omega,if_pos h1]
 split <;> rfl
theorem wire_in(h:¬(v.x9.length:Int)<=d.fA)(h1:d.xJ≠8)(h2:d.xJ≠7)(h3:(comeM v<|v.x9[d.fA.toNat]!).2=0):wireM v d=({ (comeM v<|v.x9[d.fA.toNat]!).1 with x9:=(comeM v<|v.x9[d.fA.toNat]!).1.x9.eraseIdx d.fA.toNat },0):=by
 rw[wireM,if_neg h];simp only[if_neg h1];exact(if_neg<|fun x=>x h3).trans<|if_neg h2
end
end
section
structure OwnI(e:TypeId) where
 l:yLI
instance (e:TypeId):Inhabited (OwnI e):=⟨⟨[]⟩⟩
def OwnAt(e:TypeId)(w:World)(F:yLN)(v:Value)(l:yLI):Prop:=
 (v=Sv none 0 0/\l=[]/\F=[])\/∃g ib ij,v=Sv (some ⟨g,0,none⟩) l.length ib/\F=[g]/\w.heap[g]? =some (.cells ij e (0,0))/\l.length<=ib/\ib<=maxLen/\ij.size=ib/\ij.toList.take l.length=l.map (Value.int .i64)
theorem OwnAt.slice(h:OwnAt e w F v l):∃a c,v=Sv a l.length c:=by
 rcases h with ⟨rfl,rfl,_⟩|⟨g,ib,ij,rfl,_⟩
 ·exact⟨none,0,rfl⟩
 ·exact⟨_,_,rfl⟩
instance (e:TypeId):qK (OwnI e) where
 size:=1
 rep:=fun w F cs x=>∃v,cs=[v]/\OwnAt e w F v x.l
 len:=by rintro w F cs x ⟨v,rfl,_⟩;rfl
 one:=by
  rintro w F cs x ⟨v,rfl,h⟩ u hu
  simp only[List.mem_singleton] at hu
  subst hu
  obtain⟨a,c,rfl⟩:=h.slice
  rfl
 lt:=by
  rintro w F cs x ⟨v,rfl,h⟩ b hb
  rcases h with ⟨_,_,rfl⟩|⟨g,ib,ij,_,rfl,hg,_⟩
  ·simp at hb
  ·obtain rfl:=List.mem_singleton.1 hb
   exact(Array.getElem?_eq_some_iff.1 hg).1
 stay:=by
  rintro w w' F cs x ⟨v,rfl,h⟩ hs
  refine⟨v,rfl,?_⟩
  rcases h with h|⟨g,ib,ij,h1,rfl,hg,h2⟩
  ·exact Or.inl h
  ·exact Or.inr ⟨g,ib,ij,h1,rfl,(hs g qm).trans hg,h2⟩
theorem OwnAt.rep(h:OwnAt e w F v l):qK.rep w F [v] l:=by
 rcases h with ⟨rfl,rfl,rfl⟩|⟨g,ib,ij,rfl,rfl,hg,h1,h2,h3,h4⟩
 ·exact⟨none,0,rfl,by simp,Or.inl ⟨rfl,rfl⟩⟩
 ·refine⟨_,ib,rfl,by unfold maxLen at h2;omega,Or.inr ⟨g,0,[],_,rfl,rfl,(Array.getElem?_eq_some_iff.1 hg).1,reps_of_ints w l,?_⟩⟩
  intro i u hi
  rw[Nat.zero_add,World.cell?,hg]
  rw[←h4,List.getElem?_take] at hi
  split at hi
  ·simpa using hi
  ·cases hi
section
variable{W0 w : World}{ps : List Prv}{Γ : List Fact}
end
section
variable{P : Program}{Q : Exit -> Act -> World -> Prop}{n : Nat}{ρ : Env}{W0 w : World}{ps : List Prv}{Γ : List Fact}
 {d:Nat} {ty:TypeId} {pos:String} {af:Array Edge} {K:Env->World->Prop}
end
section
variable{α : Type}
def pickL(l:List α)(n:Nat)(is:yLN):List α:=(is.filterMap fun i=>l[i]?)++l.drop n
def pickI(len n:Nat)(is:yLN):yLN:=is++(List.range<|len-n).map (·+n)
theorem pickI_map(l:List α)(n:Nat)(is:yLN)(h:is.all (fun i=>Nat.blt i n)=true)(hn:n<=l.length):(pickI l.length n is).map (fun i=>l[i]?)=(pickL l n is).map some:=by
 unfold pickI pickL
 rw[List.map_append,List.map_append]
 congr 1
 ·refine XW l is ?_
  rw[List.all_eq_true] at h ⊢
  intro i hi
  have:=h i hi
  simp only[Nat.blt_eq] at this ⊢
  omega
 ·apply List.ext_getElem?
  intro i
  rcases Nat.lt_or_ge i (l.length-n) with h1|h1
  ·simp[h1,Nat.add_comm]
  ·simp[h1]
theorem pickI_nodup(len n:Nat)(is:yLN)(h:is.all (fun i=>Nat.blt i n)=true)(hd:is.Nodup):(pickI len n is).Nodup:=by
 unfold pickI
 refine List.nodup_append.2 ⟨hd,?_,?_⟩
 ·exact List.Pairwise.map _ (fun a b (hab:a≠b)=>by omega) List.nodup_range
 ·intro a ha b hb
  rw[List.all_eq_true] at h
  have:=h a ha
  simp only[Nat.blt_eq] at this
  obtain⟨c,_,rfl⟩:=List.mem_map.1 hb
  omega
end
section
variable{W0 w : World}{ps : List Prv}{Γ : List Fact}
theorem St.xm(H:St W0 w ps Γ)(n m:Nat)(is js:yLN)(hn:n<=ps.length)(hm:m<=Γ.length)(hi:is.all (fun i=>Nat.blt i n)=true:=by exact rfl)(hj:js.all (fun i=>Nat.blt i m)=true:=by exact rfl)(hd:is.Nodup:=by decide):
 St W0 w (pickL ps n is) (pickL Γ m js):=
 H.pick (pickI ps.length n is) (pickI Γ.length m js) (pickI_map ps n is hi hn) (pickI_map Γ m js hj hm) (pickI_nodup _ _ _ hi hd)
theorem St.yt{ph :List Prv}{Γ':List Fact}(H:St W0 w ps Γ)(n m:Nat)(is js:yLN)(hn:n<=ps.length)(hm:m<=Γ.length)
 (hp:pickL ps n is=ph :=by simp only[pickL,List.filterMap_cons,List.filterMap_nil,List.getElem?_cons_zero,List.getElem?_cons_succ,List.drop_succ_cons,List.drop_zero,List.cons_append,List.nil_append];exact rfl)
 (hg:pickL Γ m js=Γ':=by simp only[pickL,List.filterMap_cons,List.filterMap_nil,List.getElem?_cons_zero,List.getElem?_cons_succ,List.drop_succ_cons,List.drop_zero,List.cons_append,List.nil_append];exact rfl)
 (hi:is.all (fun i=>Nat.blt i n)=true:=by exact rfl) (hj:js.all (fun i=>Nat.blt i m)=true:=by exact rfl) (hd:is.Nodup:=by decide):St W0 w ph Γ':=hp▸hg▸H.xm n m is js hn hm hi hj hd
theorem Fresh.xm(N:Fresh B L)(n:Nat)(is:yLN)(hn:n<=L.length)(hi:is.all (fun i=>Nat.blt i n)=true:=by exact rfl)(hd:is.Nodup:=by decide):Fresh B (pickL L n is):=
 N.pick (pickI L.length n is) (pickI_map L n is hi hn) (pickI_nodup _ _ _ hi hd)
def Kept(Ns:List yLN)(Γ:List Fact):Prop:=∀F∈Ns,∃f∈Γ,f.F=F
theorem Kept.up(h:Kept Ns Γ)(f:Fact):Kept Ns (f::Γ):=fun F hF=>by
 obtain⟨g,h1,h2⟩:=h F hF
 exact⟨g,List.mem_cons_of_mem _ h1,h2⟩
theorem Kept.behind(h:Kept Ns Γ)(m:Nat)(e:Γ'.drop m=Γ):Kept Ns Γ':=fun F hF=>by
 obtain⟨g,h1,h2⟩:=h F hF
 exact⟨g,List.mem_of_mem_drop<|e▸h1,h2⟩
theorem Kept.nil(Γ:List Fact):Kept [] Γ:=fun F hF=>by cases hF
theorem Kept.cons(h:Kept Ns Γ)(i:Nat)(hf:Γ[i]? =some f)(e:f.F=F):Kept (F::Ns) Γ:=fun G hG=>by
 rcases List.mem_cons.1 hG with rfl|hG
 ·exact⟨f,List.mem_of_getElem? hf,e⟩
 ·exact h G hG
theorem St.ltK(H:St W0 w ps Γ)(h:Kept Ns Γ):∀F∈Ns,∀b∈F,b<w.heap.size:=fun F hF b hb=>by
 obtain⟨f,h1,h2⟩:=h F hF
 exact((H.facts f h1).2 b<|h2▸hb).1
theorem St.jT(H:St W0 w ps Γ)(h:Kept Ns Γ):∀F∈Ns,∀b∈F,∀i,yQ ps i≠some b:=fun F hF b hb=>by
 obtain⟨f,h1,h2⟩:=h F hF
 exact((H.facts f h1).2 b<|h2▸hb).2
theorem jL{M:List yLN}{p:Nat->Prop}(h1:∀F∈L,∀b∈F,p b)(h2:∀F∈M,∀b∈F,p b):∀F∈L++M,∀b∈F,p b:=fun F hF b hb=>
 (List.mem_append.1 hF).elim (fun h=>h1 F h b hb) fun h=>h2 F h b hb
end
theorem c_drawK2[Dfr]{Q:Exit->Act->World->Prop}{l:List Oper}{id:Nat}(hm:P.follows .mixedOrders=true)(H:St W0 w ps Γ)(is js:yLN)
 (k:St W0 w.drew ps Γ->RW P l Q (fun w=>St W0 w (is.filterMap fun i=>ps[i]?)<|js.filterMap fun i=>Γ[i]?) n l.toArray.size (Array.replicate l.toArray.size false) ρ w.drew)
 (hi:is.all (fun i=>Nat.blt i ps.length)=true:=by simp) (hj:js.all (fun i=>Nat.blt i Γ.length)=true:=by simp) (hd:is.Nodup:=by decide):(Code.region id l.toArray true).wp P Q (mk n ρ) w:=by
 have H':=H.ext<|ext_drew _
 exact c_draw (fun w=>St W0 w (is.filterMap fun i=>ps[i]?)<|js.filterMap fun i=>Γ[i]?) hm (H'.pick is js (XW ps is hi) (XW Γ js hj) hd)<|k H'
theorem zD[Dfr]{Q:Exit->Act->World->Prop}{d:Nat}{pos:String}{af:Array Edge}{K:Env->World->Prop}{xs:Array Operand}{ts:Array TypeId}{f:FuncId}{fst oG:Array Value}{R:Value->World->Prop}(args:Array Value)(hv:ev n ρ x=.func (.func f) fst oG)
 (mT:fst.toList++xs.toList.map (ev n ρ)++oG.toList=args.toList) (hf:∀args w,(callFunc f args).run P w=.ok (.enter f args) w)
 (hc:Calls P f args w fun e w'=>∃v,e=.returned v/\R v w') (k:∀v w',R v w' ->K (upd ρ d v) w'):OW P Q ⟨some d,.call ⟨.value x,xs,ts⟩,ty,pos,af,none⟩ n ρ w K:=
 vz args hv mT hf (hc.mono fun _ w' ⟨v,he,hR⟩=>⟨v,he,k v w' hR⟩)
end
section
section
variable{W0 w : World}{ps : List Prv}{Γ : List Fact}
theorem own_at(H:St W0 w ps Γ)(i:Nat)(hq:ps[i]? =some (.row v e 1 m<|z.map<|Value.int .i64)):
 ∃G,OwnAt e w G v z/\(∀x∈G,yQ ps i=some x)/\jS w G/\G.Nodup:=by
 have ho:=(H.has _ (List.mem_of_getElem? hq):w.ownsRow W0.heap.size e 1 v m (z.map<|Value.int .i64))
 have hm:m=z.length:=by have:=ho.1;simp at this;omega
 subst hm
 rcases ho.2 with ⟨rfl,h0⟩|⟨g,ib,ij,rfl,hb,hg,Uu,hcm,Ka,htake⟩
 ·exact⟨[],Or.inl ⟨rfl,List.eq_nil_of_length_eq_zero h0,rfl⟩,by simp,jS.nil _,by simp⟩
 ·refine⟨[g],Or.inr ⟨g,ib,ij,rfl,rfl,hg,Uu,hcm,by omega,by rw[Nat.mul_one] at htake;exact htake⟩,fun x hx=>?_,fun x hx=>?_,by simp⟩
  ·obtain rfl:=List.mem_singleton.1 hx
   simp[yQ,hq,Prv.blk,Value.ownBlock]
  ·obtain rfl:=List.mem_singleton.1 hx
   exact⟨_,_,hg⟩
theorem dead_at{p:Prv}(hq:ps[i]? =some p):∀(b' i':Nat),yQ (ps.set i<|.row (Sv none 0 0) 0 1 0 []) i'=some b' ->i' ≠i/\yQ ps i'=some b':=by
 intro b' i' h
 unfold yQ at h ⊢
 by_cases hi:i'=i
 ·subst hi
  rw[set_at hq] at h
  simp[Prv.blk,Value.ownBlock] at h
 ·rw[List.getElem?_set_ne<|Ne.symm hi] at h
  exact⟨hi,h⟩
theorem St.snocI(H:St W0 w ps Γ)(i:Nat)(hq:ps[i]? =some (.row v e 1 m<|z.map<|Value.int .i64))(j:Nat){l:List (OwnI e)}(hf:Γ[j]? =some (qQ true F xs l))
 {L:List yLN} (N:Fresh W0.heap.size (F::L)) (ha:∀K∈L,∀b∈K,∀i,yQ ps i≠some b):
 ∃F',Fresh W0.heap.size (F'::L)/\St W0 w (ps.set i<|.row (Sv none 0 0) 0 1 0 []) (qQ true F' (xs++[v]) (l++[⟨z⟩])::Γ):=by
 have hF:=(H.facts _<|List.mem_of_getElem? hf).2
 obtain⟨G,hG,hGb,hGf,hgn⟩:=own_at H i hq
 have hGF:∀x∈G,x∉F:=fun x hx h=>(hF x h).2 i<|hGb x hx
 have hGL:∀K∈L,∀x∈K,x∉G:=fun K hK x hx h=>ha K hK x hx i<|hGb x h
 have hge:∀x∈G,W0.heap.size<=x:=fun x hx=>(blkAt_has H<|hGb x hx).1
 have oO:=dead_at hq
 refine⟨F++G,⟨fun K hK=>?_,fun K hK x hx=>?_,?_⟩,?_⟩
 ·rcases List.mem_cons.1 hK with rfl|h
  ·exact List.nodup_append.2 ⟨N.nd F qm,hgn,fun x hx y hy e=>hGF y hy<|e▸hx⟩
  ·exact N.nd K<|List.mem_cons_of_mem _ h
 ·rcases List.mem_cons.1 hK with rfl|h
  ·rcases List.mem_append.1 hx with h|h
   ·exact N.ge F qm x h
   ·exact hge x h
  ·exact N.ge K (List.mem_cons_of_mem _ h) x hx
 ·have hd:=List.pairwise_cons.1 N.dj
  refine List.pairwise_cons.2 ⟨fun K hK x hx=>?_,hd.2⟩
  rcases List.mem_append.1 hx with h|h
  ·exact hd.1 K hK x h
  ·exact fun hxK=>hGL K hK x hxK h
 ·refine(H.dead i hq).add _ ⟨yU (H.get j hf).1<|reps_one<|show qK.rep w G [v] (⟨z⟩:OwnI e) from⟨v,rfl,hG⟩,fun _ x hx=>?_⟩ fun x hx=>?_
  ·rcases List.mem_append.1 hx with h|h
   ·exact(H.get j hf).2 rfl x h
   ·exact hGf x h
  ·rcases List.mem_append.1 hx with h|h
   ·exact⟨(hF x h).1,fun i' BG =>(hF x h).2 i' (oO x i' BG).2⟩
   ·exact⟨(blkAt_has H<|hGb x h).2,fun i' BG =>(oO x i' BG).1<|H.dist i' i x (oO x i' BG).2<|hGb x h⟩
end
section
variable{P : Program}{Q : Exit -> Act -> World -> Prop}{n : Nat}{ρ : Env}{W0 w : World}{ps : List Prv}{Γ : List Fact}
 {d:Nat} {ty:TypeId} {pos:String} {af:Array Edge} {K:Env->World->Prop}
end
section
variable{B : Nat}{F : yLN}{L : List yLN}
theorem QU(N:Fresh B (F::L))(i:Nat)(h:L[i]? =some G):∀x∈G,x∉F:=fun x hx hF=>(List.pairwise_cons.1 N.dj).1 G (List.mem_of_getElem? h) x hF hx
theorem kept(j:Nat)(hf:Γ[j]? =some f)(h:∀x∈f.F,x∉F):f∈Γ/\∀x∈f.F,x∉F:=⟨List.mem_of_getElem? hf,h⟩
theorem vY(h:f∈Γ/\∀x∈f.F,x∉F)(k:∀f∈Δ,f∈Γ/\∀x∈f.F,x∉F):∀g∈f::Δ,g∈Γ/\∀x∈g.F,x∉F:=fun g hg=>by
 rcases List.mem_cons.1 hg with rfl|hg
 ·exact h
 ·exact k g hg
end
theorem St.rebase(H:St W0 w ps Γ)(Δ:List Fact)(h:∀f∈Δ,f.φ w/\∀b∈f.F,b<w.heap.size):St w w [] Δ:=
 ⟨Below.refl _ _,by simp,by intro i j b hi;simp[yQ] at hi,fun f hf=>⟨(h f hf).1,fun b hb=>⟨(h f hf).2 b hb,fun i=>by simp[yQ]⟩⟩⟩
theorem old_fact(H:St W0 w ps Γ)(j:Nat)(hf:Γ[j]? =some f):f.φ w/\∀b∈f.F,b<w.heap.size:=⟨H.get j hf,fun b hb=>((H.facts f<|List.mem_of_getElem? hf).2 b hb).1⟩
theorem old_box(H:St W0 w ps Γ)(k:Nat)(hp:ps[k]? =some (.box b cs t)):(atF b 0 cs).φ w/\∀x∈(atF b 0 cs).F,x<w.heap.size:=
 ⟨H.cells k hp,fun x hx=>by
  have hx':x=b:=by simpa [atF] using hx
  subst hx'
  exact((H.has _<|List.mem_of_getElem? hp).lt rfl).2⟩
theorem olds_nil:∀f∈([]:List Fact),f.φ w/\∀b∈f.F,b<w.heap.size:=fun f hf=>by cases hf
theorem Vj(h:f.φ w/\∀b∈f.F,b<w.heap.size)(k:∀f∈Δ,f.φ w/\∀b∈f.F,b<w.heap.size):∀g∈f::Δ,g.φ w/\∀b∈g.F,b<w.heap.size:=fun g hg=>by
 rcases List.mem_cons.1 hg with rfl|hg
 ·exact h
 ·exact k g hg
theorem away_lt(h:∀b∈G,b<B)(N:Fresh B (F::L)):∀x∈G,x∉F:=fun x hx hF=>by
 have h1:=h x hx
 have h2:=N.ge F qm x hF
 omega
theorem St.ltF(H:St W0 w ps Γ)(i:Nat)(hf:Γ[i]? =some f):∀b∈f.F,b<w.heap.size:=fun b hb=>((H.facts f<|List.mem_of_getElem? hf).2 b hb).1
end
section
def jk(kk M:Int)(l:yLI):Prop:=l.length=kk.toNat/\∀j,j<l.length->0<=l[j]! /\l[j]! <=M
theorem jk.len(h:jk kk M l)(h0:0<=kk):(l.length:Int)=kk:=by have:=h.1;omega
theorem jk.zero(h0:0<=kk)(hM:0<=M):jk kk M (List.replicate kk.toNat 0):=⟨by simp,fun j hj=>by
 rw[getElem!_pos (List.replicate kk.toNat (0:Int)) j hj,List.getElem_replicate]
 omega⟩
theorem jk.mono(h:jk kk M l)(hM:M<=M'):jk kk M' l:=⟨h.1,fun j hj=>by have:=h.2 j hj;omega⟩
theorem jk.put{v:Int}(h:jk kk M l)(h0:0<=v/\v<=M):jk kk M (l.set i v):=⟨by rw[List.length_set];exact h.1,fun j hj=>by
 rw[List.length_set] at hj
 rw[getElem!_pos (l.set i v) j<|by rw[List.length_set];exact hj,List.getElem_set]
 split
 ·exact h0
 ·have:=h.2 j hj
  rwa [getElem!_pos l j hj] at this⟩
theorem jk.up(h:jk kk M l)(hi:i<l.length)(hM:M+1<=M'):jk kk M' (l.set i<|l[i]! +1):=
 (h.mono (by omega:M<=M')).put (by have:=h.2 i hi;omega)
theorem jk.ok(h:jk kk M l)(hk:1<=kk/\kk<=8)(hM:M<=1000):vW kk l:=
 ⟨⟨fun j hj=>by have:=h.2 j hj;omega,by have:=h.len qf;omega,by have:=h.len qf;omega⟩,h.len qf⟩
theorem jk.small(h:jk kk M l)(hk:1<=kk/\kk<=8)(hM:M<=1000):Small l:=vP<|h.ok hk hM
theorem sumTo_up{l:yLI}(h:∀j,j<l.length->0<=l[j]!):∀k,k<=l.length->0<=sumTo l k/\∀i,i<k->l[i]! <=sumTo l k
 |0,_=>⟨Int.le_refl _,fun i hi=>by omega⟩
 |k+1,hk=>by
  obtain⟨h1,h2⟩:=sumTo_up h k qf
  have h3:=h k qf
  refine⟨by simp only[sumTo];omega,fun i hi=>?_⟩
  simp only[sumTo]
  rcases Nat.lt_or_eq_of_le (Nat.le_of_lt_succ hi) with h4|h4
  ·have:=h2 i h4;omega
  ·subst h4;omega
theorem jk.one(h:jk kk M l)(hk:1<=kk/\kk<=8)(hM:1<=M)(hs:VN l=0)(hi:i<l.length):VN (l.set i 1)≠0:=by
 have h1:=h.put (i:=i) (v:=1) qf
 have h2:=(sumTo_up (l:=l.set i 1) (fun j hj=>(h1.2 j hj).1) _<|Nat.le_refl _).2 i<|by rw[List.length_set];exact hi
 rw[getElem!_pos (l.set i 1) i<|by rw[List.length_set];exact hi,List.getElem_set_self] at h2
 show sumTo _ _≠0
 omega
def IntoDr(kk:Int)(par:yLI)(cell:Int)(l:List IntoD)(c:Int):Prop:=
 ∀j,j<l.length->(0<=(l[j]!).qZ/\(l[j]!).qZ<c)/\Lies par cell (l[j]!).qZ/\jk kk 1 (l[j]!).Xa/\VN (l[j]!).Xa≠0/\(0<j->(l[j-1]!).qZ<(l[j]!).qZ)
theorem IntoDr.nil(kk:Int)(par:yLI)(cell c:Int):IntoDr kk par cell [] c:=fun j hj=>by simp at hj
theorem IntoDr.mono{par:yLI}{cell c c':Int}{l:List IntoD}(h:IntoDr kk par cell l c)(hc:c<=c'):IntoDr kk par cell l c':=fun j hj=>by
 obtain⟨h1,h2⟩:=h j hj
 exact⟨by omega,h2⟩
theorem Vw{α:Type}[Inhabited α]{l:List α}{x:α}:(l++[x])[j]! =if j<l.length then l[j]! else if j=l.length then x else default:=by
 by_cases h:j<l.length
 ·rw[if_pos h,getElem!_pos (l++[x]) j qy,getElem!_pos l j h,List.getElem_append_left h]
 ·rw[if_neg h]
  by_cases h2:j=l.length
  ·subst h2
   rw[if_pos rfl,getElem!_pos (l++[x]) l.length qm]
   simp
  ·rw[if_neg h2,getElem!_neg (l++[x]) j qy]
theorem IntoDr.snoc{par:yLI}{cell c:Int}{l:List IntoD}{b:yLI}(h:IntoDr kk par cell l c)(hc:0<=c)(hl:Lies par cell c)(hb:jk kk 1 b)(hs:VN b≠0):IntoDr kk par cell (l++[⟨c,b⟩]) (c+1):=fun j hj=>by
 have SJ :j<l.length\/j=l.length:=by simp at hj;omega
 rcases SJ with SJ|SJ
 ·obtain⟨h1,h2,h3,h4,h5⟩:=h j SJ
  rw[Vw,if_pos SJ,Vw,if_pos qf]
  exact⟨by omega,h2,h3,h4,h5⟩
 ·subst SJ
  rw[Vw,if_neg qf,if_pos rfl]
  refine⟨⟨hc,by show c<c+1;omega⟩,hl,hb,hs,fun h0=>?_⟩
  rw[Vw,if_pos qf]
  exact(h (l.length-1) qf).1.2
structure RuleDr(kk:Int)(par:yLI)(r:yu):Prop where
 cell:0<=r.qZ/\r.qZ<par.length
 rank:0<=r.yJ/\r.yJ<=2
 melts:¬(r.jw=true/\r.qZ=0)
 need:jk kk 2 r.zU/\VN r.zU≠0
 hav:jk kk 1 r.jJ
 lack:jk kk 1 r.jK
 here:jk kk 2 r.jF
 out:jk kk 2 r.QL
 many:r.xw.length<=3
 into:IntoDr kk par r.qZ r.xw par.length
theorem RuleDr.ok{s:qO}{r:yu}(h:RuleDr s.qN s.qA r)(hk:1<=s.qN/\s.qN<=8):RuleOk s r:=
 ⟨⟨h.cell.1,by have:=h.cell.2;omega⟩,by have:=h.rank;omega,h.melts,h.many,h.need.1.ok hk qf,h.hav.ok hk qf,h.lack.ok hk qf,h.here.ok hk qf,h.out.ok hk qf,h.need.2,
  fun j hj=>by
   obtain⟨h1,h2,h3,h4,h5⟩:=h.into j hj
   exact⟨⟨h1.1,by omega⟩,h2,h3.ok hk qf,h4,h5⟩⟩
theorem ruleDr_of{par:yLI}{cell rank:Int}{need hav lack here out:yLI}{into:List IntoD}{melts:Bool}(h1:0<=cell/\cell<(par.length:Int))(h2:0<=rank/\rank<=2)(h3:melts=true->cell≠0)
 (h4:jk kk 2 need/\VN need≠0) (h5:jk kk 1 hav) (h6:jk kk 1 lack) (h7:jk kk 2 here) (h8:jk kk 1 out) (h9:into.length<=3/\IntoDr kk par cell into par.length):RuleDr kk par ⟨cell,rank,need,hav,lack,here,out,into,melts⟩:=
 ⟨h1,h2,fun h=>h3 h.1 h.2,h4,h5,h6,h7,h8.mono qf,h9.1,h9.2⟩
def Qn(kk:Int)(par:yLI)(l:List yu):Prop:=∀j,j<l.length->RuleDr kk par (l[j]!)
theorem Qn.nil(kk:Int)(par:yLI):Qn kk par []:=fun j hj=>by simp at hj
theorem Qn.snoc{par:yLI}{l:List yu}(h:Qn kk par l)(hr:RuleDr kk par r):Qn kk par (l++[r]):=fun j hj=>by
 rw[Vw]
 by_cases h1:j<l.length
 ·rw[if_pos h1];exact h j h1
 ·rw[if_neg h1,if_pos (by simp at hj;omega)];exact hr
theorem Qn.set{kk:Int}{par:yLI}{l:List yu}{r:yu}{i:Nat}(h:Qn kk par l)(hr:RuleDr kk par r):Qn kk par (l.set i r):=fun j hj=>by
 rw[List.length_set] at hj
 rw[getElem!_pos (l.set i r) j<|by rw[List.length_set];exact hj,List.getElem_set]
 split
 ·exact hr
 ·have:=h j hj;rwa [getElem!_pos l j hj] at this
def ParDr(par:yLI):Prop:=1<=par.length/\par[0]! = -1/\∀c,1<=c->c<par.length->0<=par[c]! /\par[c]! <=(c:Int)-1
theorem ParDr.one:ParDr [-1]:=⟨by simp,rfl,fun c h1 h2=>by simp at h2;omega⟩
theorem ParDr.snoc{par:yLI}{v:Int}(h:ParDr par)(hv:0<=v/\v<par.length):ParDr (par++[v]):=by
 obtain⟨h1,h2,h3⟩:=h
 refine⟨by simp,by rw[Vw,if_pos qf];exact h2,fun c hc hl=>?_⟩
 rw[Vw]
 by_cases h4:c<par.length
 ·rw[if_pos h4];exact h3 c hc h4
 ·have h5:c=par.length:=by simp at hl;omega
  rw[if_neg h4,if_pos h5];omega
theorem frame_of{par:yLI}(h:ParDr par)(hk:1<=kk/\kk<=3)(hl:par.length<=3):jZ ⟨kk,par,rules⟩:=
 ⟨⟨hk.1,by show kk<=8;omega⟩,⟨h.1,by show par.length<=6;omega⟩,h.2.1,h.2.2⟩
structure SysDr(kk:Int)(par:yLI)(rules:List yu):Prop where
 kinds:1<=kk/\kk<=3
 cells:1<=par.length/\par.length<=3
 skin:par[0]! = -1
 up:∀c,1<=c->c<par.length->0<=par[c]! /\par[c]! <=(c:Int)-1
 few:rules.length<=5
 rules:Qn kk par rules
theorem sysDr_of{par:yLI}(h:ParDr par)(hk:1<=kk/\kk<=3)(hl:par.length<=3)(hr:rules.length<=5)(hd:Qn kk par rules):SysDr kk par rules:=⟨hk,⟨h.1,hl⟩,h.2.1,h.2.2,hr,hd⟩
theorem SysDr.frame{par:yLI}(h:SysDr kk par rules):jZ ⟨kk,par,rules⟩:=by
 have h1:=h.kinds
 have h2:=h.cells
 exact⟨⟨h1.1,by show kk<=8;omega⟩,⟨h2.1,by show par.length<=6;omega⟩,h.skin,h.up⟩
theorem SysDr.ok{kk:Int}{par:yLI}{rules:List yu}(h:SysDr kk par rules):Qr ⟨kk,par,rules⟩:=by
 have h1:=h.kinds
 have h3:=h.few
 refine⟨h.frame,by show rules.length<=16;omega,fun j hj=>⟨(h.rules j hj).ok (s:=⟨kk,par,rules⟩) ⟨h1.1,by show kk<=8;omega⟩,?_⟩⟩
 have h4:=(ofCell_bd rules (rules[j]!).qZ<|j+1).2
 have h5:j<rules.length:=hj
 show ofCell rules (rules[j]!).qZ (j+1)<=8
 omega
structure StDr(kk:Int)(n:Nat)(M:Int)(alive:List Bool)(bags:yLL)(around:yLI):Prop where
 la:alive.length=n
 lb:bags.length=n
 skin:alive[0]! =true
 around:jk kk 2 around
 bags:∀c,c<bags.length->jk kk M (bags[c]!)/\(alive[c]! =false->VN (bags[c]!)<=0)
theorem StDr.ok{kk M:Int}{par:yLI}{rules:List yu}{alive:List Bool}{bags:yLL}{around:yLI}(h:StDr kk par.length M alive bags around)(hs:SysDr kk par rules)(hM:M<=1000):vU ⟨kk,par,rules⟩ ⟨alive,bags,around⟩:=by
 have h1:=hs.kinds
 exact⟨h.la,h.lb,h.skin,h.around.ok ⟨h1.1,by omega⟩ qf,fun c hc=>⟨(h.bags c hc).1.ok ⟨h1.1,by show kk<=8;omega⟩ hM,(h.bags c hc).2⟩⟩
structure StTo(kk M:Int)(c:Nat)(alive:List Bool)(bags:yLL):Prop where
 la:alive.length=c
 lb:bags.length=c
 skin:0<c->alive[0]! =true
 bags:∀j,j<bags.length->jk kk M (bags[j]!)/\(alive[j]! =false->VN (bags[j]!)<=0)
theorem StTo.nil(kk M:Int):StTo kk M 0 [] []:=⟨rfl,rfl,fun h=>by omega,fun j hj=>by simp at hj⟩
theorem StTo.snoc{alive:List Bool}{bags:yLL}{a:Bool}{b:yLI}(h:StTo kk M c alive bags)(ha:c=0->a=true)(hb:jk kk M b)(hz:a=false->VN b<=0):StTo kk M (c+1) (alive++[a]) (bags++[b]):=by
 have la:=h.la
 have lb:=h.lb
 refine⟨by simp[la],by simp[lb],fun _=>?_,fun j hj=>?_⟩
 ·rw[Vw]
  by_cases h0:0<c
  ·rw[if_pos qf];exact h.skin h0
  ·rw[if_neg qf,if_pos qf];exact ha qf
 ·rw[Vw,Vw]
  by_cases h1:j<c
  ·rw[if_pos qf,if_pos qf];exact h.bags j qf
  ·rw[if_neg qf,if_pos (by simp at hj;omega),if_neg qf,if_pos (by simp at hj;omega)];exact⟨hb,hz⟩
end
section
instance:qK UInt8 where
 size:=1
 rep:=fun _ F cs x=>F=[]/\cs=[.int .u8 (x.toNat:Int)]
 len:=by rintro w F cs x ⟨_,rfl⟩;rfl
 one:=by rintro w F cs x ⟨_,rfl⟩ u hu;simp only[List.mem_singleton] at hu;subst hu;rfl
 stay:=by rintro w w' F cs x h _;exact h
 lt:=by rintro w F cs x ⟨rfl,_⟩ b hb;simp at hb
section
variable{P : Program}{fL : Array Oper}{Q : Exit -> Act -> World -> Prop}{n : Nat}{ρ : Env}{W0 w : World}{rest : List Oper}{ps : List Prv}{Γ : List Fact}
 {d:Nat} {ty:TypeId} {pos:String} {af:Array Edge} {K:Env->World->Prop}
theorem St.elemByte(H:St W0 w ps Γ)(i:Nat){l:List UInt8}(hf:Γ[i]? =some (isF fr F (Sv (some ⟨b,o,none⟩) m c) l))(iv:Int)(k:Nat)(hk:iv.toNat=k)(h0:0<=iv)(h1:iv<l.length):
 w.cell? ⟨b,o+iv.toNat*1,none⟩=some (.int .u8 (((l[k]!).toNat:Nat):Int)):=by
 obtain⟨cs,Fk,hc,hr,_⟩:=H.elem i hf iv h0 h1
 rw[hk] at hr
 obtain⟨_,rfl⟩:=hr
 have:=hc 0 _ rfl
 simpa [qK.size] using this
theorem byte_lt(x:UInt8):((x.toNat:Nat):Int)<=255:=by have:=x.toNat_lt;omega
theorem o_mulU[Dfr](a b:Int)(hx:ev n ρ x=.int .u64 a)(hy:ev n ρ y=.int .u64 b)(k:∀r,K (upd ρ d<|.int .u64 r) w):OW P Q ⟨some d,.binOp .mul t x y u,ty,pos,af,none⟩ n ρ w K:=
 Q8 (.int .u64<|IntKind.u64.wrap<|a*b) (by simp[execOp,hx,hy,eqGuard,binOp,Op.intArith]) (k _)
theorem o_addU[Dfr](a b:Int)(hx:ev n ρ x=.int .u64 a)(hy:ev n ρ y=.int .u64 b)(k:∀r,K (upd ρ d<|.int .u64 r) w):OW P Q ⟨some d,.binOp .add t x y u,ty,pos,af,none⟩ n ρ w K:=
 Q8 (.int .u64<|IntKind.u64.wrap<|a+b) (by simp[execOp,hx,hy,eqGuard,binOp,Op.intArith]) (k _)
theorem o_shrU[Dfr](a b:Int)(h:0<=b)(hx:ev n ρ x=.int .u64 a)(hy:ev n ρ y=.int .u64 b)(k:∀r,K (upd ρ d<|.int .u64 r) w):OW P Q ⟨some d,.binOp .shr t x y u,ty,pos,af,none⟩ n ρ w K:=
 Q8 (.int .u64<|a.fdiv<|2 ^ (min b.toNat IntKind.u64.bits)) (by simp[execOp,hx,hy,eqGuard,binOp,Op.shift,show ¬b<0 by omega]) (k _)
theorem and_bd(a:Int):0<=IntKind.u64.wrap ((BitVec.ofInt IntKind.u64.bits a &&& BitVec.ofInt IntKind.u64.bits 255).toNat:Int)/\IntKind.u64.wrap ((BitVec.ofInt IntKind.u64.bits a &&& BitVec.ofInt IntKind.u64.bits 255).toNat:Int)<=255:=by
 have b6:IntKind.u64.bits=64:=rfl
 have s6:IntKind.u64.signed=false:=rfl
 have h:(BitVec.ofInt IntKind.u64.bits a &&& BitVec.ofInt IntKind.u64.bits 255).toNat<=255:=by
  rw[BitVec.toNat_and]
  exact Nat.le_trans Nat.and_le_right qj
 generalize (BitVec.ofInt IntKind.u64.bits a &&& BitVec.ofInt IntKind.u64.bits 255).toNat=m at h ⊢
 simp only[IntKind.wrap,b6,s6,Bool.false_and,Bool.false_eq_true,if_false]
 omega
theorem o_andU[Dfr](a:Int)(hx:ev n ρ x=.int .u64 a)(hy:ev n ρ y=.int .u64 255)(k:∀r,0<=r/\r<=255->K (upd ρ d<|.int .u64 r) w):OW P Q ⟨some d,.binOp .and t x y u,ty,pos,af,none⟩ n ρ w K:=
 Q8 (.int .u64<|IntKind.u64.wrap ((BitVec.ofInt IntKind.u64.bits a &&& BitVec.ofInt IntKind.u64.bits 255).toNat:Int)) (by simp[execOp,hx,hy,eqGuard,binOp,Op.intBits]) (k _<|and_bd a)
theorem o_conv[Dfr]{s:TypeId}{ds:TypeDesc}{k k':IntKind}(a:Int)(hs:P.underlying s=some ds)(ht:P.underlying t=some (.int k'))(hx:ev n ρ x=.int k a)(h:K (upd ρ d<|.int k'<|k'.wrap a) w):
 OW P Q ⟨some d,.convert s t x,ty,pos,af,none⟩ n ρ w K:=
 Q8 _ (by simp[execOp,hx,convert,run_underlying hs,run_underlying ht,Conv.intToInt]) h
theorem o_convI[Dfr]{s:TypeId}{ds:TypeDesc}{k:IntKind}(a:Int)(hs:P.underlying s=some ds)(ht:P.underlying t=some (.int .i64))(hx:ev n ρ x=.int k a)(h0:0<=a/\a<=255)(h:K (upd ρ d<|.int .i64 a) w):
 OW P Q ⟨some d,.convert s t x,ty,pos,af,none⟩ n ρ w K:=by
 refine o_conv a hs ht hx ?_
 rw[wrap_in qf]
 exact h
theorem o_convU[Dfr]{s:TypeId}{ds:TypeDesc}{k:IntKind}(a:Int)(hs:P.underlying s=some ds)(ht:P.underlying t=some (.int .u64))(hx:ev n ρ x=.int k a)(h:∀r,K (upd ρ d<|.int .u64 r) w):
 OW P Q ⟨some d,.convert s t x,ty,pos,af,none⟩ n ρ w K:=o_conv a hs ht hx<|h _
end
section
variable{P : Program}{n : Nat}{ρ : Env}{W0 w : World}{ps : List Prv}{Γ : List Fact}
theorem retCTC{fn:Func}{R:Ending->World->Prop}{t u z T U:Nat}{ds:List Value}{tb tc:TypeId}(H:St W0 w ps Γ)(i:Nat)(hp:ps[i]? =some (.box b cs tb))(x:Value)(j:Nat)(hq:ps[j]? =some (.box c ds tc))(hr:fn.results=#[.cell t T,.tmp z,.cell u U])
 (ha:∀w,(isAgg T).run P w=.ok true w) (hs:∀w,(Go.sizeOf T).run P w=.ok cs.length w) (ha':∀w,(isAgg U).run P w=.ok true w) (hs':∀w,(Go.sizeOf U).run P w=.ok ds.length w)
 (hv:ev n ρ (.tmp t)=.pointer (some ⟨b,0,none⟩)) (hz:ev n ρ (.tmp z)=x) (hx:ev n ρ (.tmp u)=.pointer (some ⟨c,0,none⟩)) (h:R (.returned<|.tuple #[.agg cs.toArray,x,.agg ds.toArray]) w):bodyPost P fn R .ret (mk n ρ) w:=by
 have hl:=run_loadCells_list (P:=P) w ⟨b,0,none⟩ cs (fun j v hv=>by rw[Addr.add_mid];exact H.cells i hp j v hv)
 have Ey :=run_loadCells_list (P:=P) w ⟨c,0,none⟩ ds (fun k v hv=>by rw[Addr.add_mid];exact H.cells j hq k v hv)
 have e:=congrFun (XN n ρ)<|.tmp t
 have e':=congrFun (XN n ρ)<|.tmp u
 have e'' :=congrFun (XN n ρ)<|.tmp z
 simp only[Act.eval,Array.getD_eq_getD_getElem?] at e e' e''
 rw[hv] at e
 rw[hx] at e'
 rw[hz] at e''
 exact bodyPost_ret (v:=.tuple #[.agg cs.toArray,x,.agg ds.toArray]) (by simp[results,hr,e,e',e'',asAddr,loadVar,ha,hs,hl,ha',hs',Ey]) rfl h
end
theorem St.rowel_RuleD(H:St W0 w ps Γ)(k:Nat)(hp:ps[k]? =some (.row (Sv (some ⟨b,0,none⟩) nn c) e 9 nn xs))(j:Nat){l:List yu}
 (hf:Γ[j]? =some (qQ fr F xs l)) {iv:Int} (i:Nat) (h:iv.toNat=i) (h1:i<nn):
 ∃(aN:yOA) (cN:Nat) (FN:yLN) (aH:yOA) (cH:Nat) (FH:yLN) (aL:yOA) (cL:Nat) (FL:yLN) (aE:yOA) (cE:Nat) (FE:yLN) (aO:yOA) (cO:Nat) (FO:yLN) (aI:yOA) (cI:Nat) (FI:yLN),
  (∀(q:Nat) (v:Value),([.int .i64 (l[i]!).qZ,.int .i64 (l[i]!).yJ,Sv aN ((l[i]!).zU.length) cN,Sv aH ((l[i]!).jJ.length) cH,Sv aL ((l[i]!).jK.length) cL,Sv aE ((l[i]!).jF.length) cE,Sv aO ((l[i]!).QL.length) cO,Sv aI ((l[i]!).xw.length) cI,Bv (l[i]!).jw]:List Value)[q]? =some v->xs[0+iv.toNat*9+q]? =some v)∧
  St W0 w ps (isF fr FN (Sv aN ((l[i]!).zU.length) cN) ((l[i]!).zU)::isF fr FH (Sv aH ((l[i]!).jJ.length) cH) ((l[i]!).jJ)::isF fr FL (Sv aL ((l[i]!).jK.length) cL) ((l[i]!).jK) ::
   isF fr FE (Sv aE ((l[i]!).jF.length) cE) ((l[i]!).jF)::isF fr FO (Sv aO ((l[i]!).QL.length) cO) ((l[i]!).QL)::isF fr FI (Sv aI ((l[i]!).xw.length) cI) ((l[i]!).xw)::Γ):=by
 obtain⟨cs,G,hc,hr,bU,ep,v1,v2,hv,DZ⟩:=St.rowElem (α:=yu) H k hp j hf qj h h1
 obtain⟨vN,vH,vL,vE,vO,vI,FN,FH,FL,FE,FO,FI,rfl,dl,hN,hH,hL,hE,hO,hI⟩:=id hr
 obtain⟨aN,cN,rfl⟩:=slice_form hN
 obtain⟨aH,cH,rfl⟩:=slice_form hH
 obtain⟨aL,cL,rfl⟩:=slice_form hL
 obtain⟨aE,cE,rfl⟩:=slice_form hE
 obtain⟨aO,cO,rfl⟩:=slice_form hO
 obtain⟨aI,cI,rfl⟩:=slice_form hI
 refine⟨aN,cN,FN,aH,cH,FH,aL,cL,FL,aE,cE,FE,aO,cO,FO,aI,cI,FI,fun q v hq=>?_,?_⟩
 ·have DZ:v1.length=i*9:=DZ
  have oe:q<9:=by
   rcases Nat.lt_or_ge q 9 with h|h
   ·exact h
   ·rw[List.getElem?_eq_none<|by simpa using h] at hq;cases hq
  rw[hv,List.append_assoc,Nat.zero_add,h,←DZ,List.getElem?_append_right qf,Nat.add_sub_cancel_left,List.getElem?_append_left<|by simpa using oe]
  exact hq
 ·have hs:∀ {x:Nat} {X:yLN},x∈X->(∀y∈X,y∈G)->x∈G:=fun h h'=>h' _ h
  have s6:=H.vT j hf (isF fr FI (Sv aI ((l[i]!).xw.length) cI) ((l[i]!).xw)) ⟨hI,fun e=>(ep e).sub<|by rw[dl];intro x hx;simp[hx]⟩<|fun x hx=>bU x (by rw[dl];have hx:x∈FI:=hx;simp[hx])
  have s5:=s6.vT (j+1) hf (isF fr FO (Sv aO ((l[i]!).QL.length) cO) ((l[i]!).QL)) ⟨hO,fun e=>(ep e).sub<|by rw[dl];intro x hx;simp[hx]⟩<|fun x hx=>bU x (by rw[dl];have hx:x∈FO:=hx;simp[hx])
  have s4:=s5.vT (j+2) hf (isF fr FE (Sv aE ((l[i]!).jF.length) cE) ((l[i]!).jF)) ⟨hE,fun e=>(ep e).sub<|by rw[dl];intro x hx;simp[hx]⟩<|fun x hx=>bU x (by rw[dl];have hx:x∈FE:=hx;simp[hx])
  have s3:=s4.vT (j+3) hf (isF fr FL (Sv aL ((l[i]!).jK.length) cL) ((l[i]!).jK)) ⟨hL,fun e=>(ep e).sub<|by rw[dl];intro x hx;simp[hx]⟩<|fun x hx=>bU x (by rw[dl];have hx:x∈FL:=hx;simp[hx])
  have s2:=s3.vT (j+4) hf (isF fr FH (Sv aH ((l[i]!).jJ.length) cH) ((l[i]!).jJ)) ⟨hH,fun e=>(ep e).sub<|by rw[dl];intro x hx;simp[hx]⟩<|fun x hx=>bU x (by rw[dl];have hx:x∈FH:=hx;simp[hx])
  exact s2.vT (j+5) hf (isF fr FN (Sv aN ((l[i]!).zU.length) cN) ((l[i]!).zU)) ⟨hN,fun e=>(ep e).sub<|by rw[dl];intro x hx;simp[hx]⟩<|fun x hx=>bU x (by rw[dl];have hx:x∈FN:=hx;simp[hx])
theorem part_lt(h:xs[q]? =some v):q<xs.length:=(List.getElem?_eq_some_iff.1 h).1
theorem part_get{cells:List Value}(hx:∀(q:Nat) (v:Value),cells[q]? =some v->xs[B+q]? =some v)(j:Nat)(u:Value)(hj:j<cells.length):
 ∀(q:Nat) (v:Value),(cells.set j u)[q]? =some v->(xs.set (B+j) u)[B+q]? =some v:=fun q v h=>by
 have hl:=part_lt<|hx j _<|List.getElem?_eq_getElem hj
 by_cases e:q=j
 ·subst e
  rw[List.getElem?_set_self hj] at h
  rw[List.getElem?_set_self hl]
  exact h
 ·rw[List.getElem?_set_ne<|fun h=>e h.symm] at h
  rw[List.getElem?_set_ne qf]
  exact hx q v h
section
variable{P : Program}{fL : Array Oper}{Q : Exit -> Act -> World -> Prop}{n : Nat}{ρ : Env}{W0 w : World}{rest : List Oper}{ps : List Prv}{Γ : List Fact}
 {d:Nat} {ty:TypeId} {pos:String} {af:Array Edge} {K:Env->World->Prop}
theorem o_storePart(H:St W0 w ps Γ)(k:Nat)(hp:ps[k]? =some (.row (Sv (some ⟨b,0,none⟩) nn c) e sz nn xs))(v:Value)
 (hs:∀w,(Go.sizeOf t).run P w=.ok 1 w) (hx:ev n ρ x=.pointer (some ⟨b,off,none⟩)) (hy:ev n ρ y=v) (h1:v.oneCell'=true) (h2:off<xs.length)
 (kk:∀w',St W0 w' (ps.set k<|.row (Sv (some ⟨b,0,none⟩) nn c) e sz nn<|xs.set off v) Γ->K ρ w'):
 OW P Q ⟨none,.store t x y,ty,pos,af,none⟩ n ρ w K:=by
 have hc:v.cells=#[v]:=by cases v <;> first|rfl|(simp[Value.oneCell'] at h1)
 refine o_storeRow H k hp v (by simpa [hc] using hs) hx hy (by simp[hc,h1]) (by simp[hc];omega) ?_
 simp only[hc,List.size_toArray,List.length_cons,List.length_nil,Nat.zero_add]
 rw[show xs.take off++[v]++xs.drop (off+1)=xs.set off v by rw[List.set_eq_take_append_cons_drop,if_pos qf];simp]
 exact kk
end
theorem reps_part{α:Type}[qK α][Inhabited α]{l:List α}{f:α}(i q:Nat)(hi:i<l.length)(hq:q<qK.size α)
 (hr:∀Fk ck,qK.rep w Fk ck (l[i]!)->∃F',qK.rep w F' (ck.set q v) f/\∀b∈F',b∈Fk\/b∈G) (h:reps w F X l):
 ∃F',reps w F' (X.set (i*qK.size α+q) v) (l.set i f)/\∀b∈F',b∈F\/b∈G:=by
 obtain⟨F1,Fk,F2,v1,cs,v2,hF,hv,DW,hlc,h1,h2,h3⟩:=reps_get h i hi
 obtain⟨F',hr',hs⟩:=hr Fk cs<|by rw[getElem!_pos l i hi];exact h1
 refine⟨F1++F' ++F2,?_,fun b hb=>?_⟩
 ·rw[hv,←DW,List.append_assoc v1,List.set_append_right _ _ qf,Nat.add_sub_cancel_left,List.set_append_left _ _ qf,List.set_eq_take_append_cons_drop (l:=l),if_pos hi,←List.append_assoc]
  have:=yU (yU h2<|reps_one hr') h3
  simpa using this
 ·simp only[List.mem_append] at hb
  rw[hF]
  rcases hb with (hb|hb)|hb
  ·exact .inl<|by simp[hb]
  ·rcases hs b hb with h|h
   ·exact .inl<|by simp[h]
   ·exact .inr h
  ·exact .inl<|by simp[hb]
section
variable{W0 w : World}{ps : List Prv}{Γ : List Fact}
theorem St.part{β:Type}[qK β](H:St W0 w ps Γ)(j:Nat){l:List yu}(hf:Γ[j]? =some (qQ fr F X l))(m:Nat){z:β}(hg:Γ[m]? =some (isF SO G v z))
 {iv:Int} (i:Nat) (hi:iv.toNat=i) (h1:i<l.length) (q:Nat) (hq:q<9) (f:yu) (hr:∀Fk ck,qK.rep w Fk ck (l[i]!)->∃F',qK.rep w F' (ck.set q v) f/\∀b∈F',b∈Fk\/b∈G):
 ∃F',St W0 w ps (qQ false F' (X.set (0+iv.toNat*9+q) v) (l.set i f)::Γ):=by
 subst hi
 obtain⟨F',h2,h3⟩:=reps_part (α:=yu) iv.toNat q h1 hq hr (H.get j hf).1
 refine⟨F',H.add _ ⟨by rw[Nat.zero_add];exact h2,by simp⟩ fun b hb=>?_⟩
 rcases h3 b hb with h|h
 ·exact(H.facts _<|List.mem_of_getElem? hf).2 b h
 ·exact(H.facts _<|List.mem_of_getElem? hg).2 b h
theorem St.part_5(H:St W0 w ps Γ)(j:Nat){l:List yu}(hf:Γ[j]? =some (qQ fr F X l))(m:Nat)(hg:Γ[m]? =some (isF SO G v z))(i:Nat)(hi:iv.toNat=i)(h1:i<l.length):
 ∃F',St W0 w ps (qQ false F' (X.set (0+iv.toNat*9+5) v) (l.set i { l[i]! with jF:=z })::Γ):=by
 refine H.part j hf m hg i hi h1 5 qj _ fun Fk ck hk=>?_
 obtain⟨v1,v2,v3,v4,v5,v6,F1,F2,F3,F4,F5,F6,rfl,rfl,k1,k2,k3,k4,k5,k6⟩:=hk
 refine⟨_,⟨v1,v2,v3,v,v5,v6,F1,F2,F3,G,F5,F6,rfl,rfl,k1,k2,k3,(H.get m hg).1,k5,k6⟩,fun b hb=>?_⟩
 simp only[List.mem_append] at hb
 rcases hb with ((((hb|hb)|hb)|hb)|hb)|hb <;> simp[hb]
theorem St.part_8(H:St W0 w ps Γ)(j:Nat){l:List yu}(hf:Γ[j]? =some (qQ fr F X l))(z:Bool)(i:Nat)(hi:iv.toNat=i)(h1:i<l.length):
 ∃F',St W0 w ps (qQ false F' (X.set (0+iv.toNat*9+8)<|Bv z) (l.set i { l[i]! with jw:=z })::Γ):=by
 subst hi
 obtain⟨F',h2,h3⟩:=reps_part (α:=yu) (G:=[]) (v:=Bv z) (f:={ l[iv.toNat]! with jw:=z }) iv.toNat 8 h1 qj (fun Fk ck hk=>by
  obtain⟨v1,v2,v3,v4,v5,v6,F1,F2,F3,F4,F5,F6,rfl,rfl,k1,k2,k3,k4,k5,k6⟩:=hk
  exact⟨_,⟨v1,v2,v3,v4,v5,v6,F1,F2,F3,F4,F5,F6,rfl,rfl,k1,k2,k3,k4,k5,k6⟩,fun b hb=>.inl hb⟩) (H.get j hf).1
 refine⟨F',H.add _ ⟨by rw[Nat.zero_add];exact h2,by simp⟩ fun b hb=>?_⟩
 rcases h3 b hb with h|h
 ·exact(H.facts _<|List.mem_of_getElem? hf).2 b h
 ·simp at h
end
theorem Qn.here{par:yLI}{l:List yu}{b:yLI}(h:Qn kk par l)(hi:i<l.length)(hb:jk kk 2 b):Qn kk par (l.set i { l[i]! with jF:=b }):=
 h.set (let r:=h i hi;⟨r.cell,r.rank,r.melts,r.need,r.hav,r.lack,hb,r.out,r.many,r.into⟩)
theorem Qn.out{par:yLI}{l:List yu}{b:yLI}(h:Qn kk par l)(hi:i<l.length)(hb:jk kk 2 b):Qn kk par (l.set i { l[i]! with QL:=b }):=
 h.set (let r:=h i hi;⟨r.cell,r.rank,r.melts,r.need,r.hav,r.lack,r.here,hb,r.many,r.into⟩)
theorem Qn.into{par:yLI}{l:List yu}(h:Qn kk par l)(hi:i<l.length):Qn kk par (l.set i { l[i]! with xw:=[]}):=
 h.set (let r:=h i hi;⟨r.cell,r.rank,r.melts,r.need,r.hav,r.lack,r.here,r.out,by simp,IntoDr.nil _ _ _ _⟩)
theorem Qn.still{par:yLI}{l:List yu}(h:Qn kk par l)(hi:i<l.length):Qn kk par (l.set i { l[i]! with jw:=false }):=
 h.set (let r:=h i hi;⟨r.cell,r.rank,(fun e=>Bool.noConfusion e.1),r.need,r.hav,r.lack,r.here,r.out,r.many,r.into⟩)
theorem SysDr.with{par:yLI}{D4:List yu}(h:SysDr kk par rules)(h1:D4.length<=5)(h2:Qn kk par D4):SysDr kk par D4 :=⟨h.kinds,h.cells,h.skin,h.up,h1,h2⟩
def HereTo(kk:Int)(k:Nat)(l:yLI):Prop:=jk kk 2 l/\∀j,j<l.length->k<=j+1->l[j]! =0
theorem HereTo.zero{kk:Int}(h0:0<=kk):HereTo kk 1 (List.replicate kk.toNat 0):=⟨jk.zero h0 qf,fun j hj _=>by rw[getElem!_pos (List.replicate kk.toNat (0:Int)) j hj,List.getElem_replicate]⟩
theorem HereTo.go(h:HereTo kk k l):HereTo kk (k+1) l:=⟨h.1,fun j hj hk=>h.2 j hj qf⟩
theorem HereTo.put{kk:Int}{k i:Nat}{l:yLI}{v:Int}(h:HereTo kk k l)(hi:i<l.length)(hk:i+1=k)(hv:0<=v/\v<=2):HereTo kk (k+1) (l.set i<|l[i]! +v):=by
 have h0:=h.2 i hi qf
 refine⟨h.1.put qf,fun j hj BJ =>?_⟩
 rw[List.length_set] at hj
 rw[getElem!_pos (l.set i _) j<|by rw[List.length_set];exact hj,List.getElem_set,if_neg qf]
 have:=h.2 j hj qf
 rwa [getElem!_pos l j hj] at this
structure Qs(α β:Type)[qK α][qK β](q:Nat)(get:α->β)(put:α->β->α):Prop where
 cut:∀ {w:World} {F:yLN} {cs:List Value} {x:α},qK.rep w F cs x->∃(c1 cm c2:List Value) (F1 Fm F2:yLN),cs=c1++cm++c2/\c1.length=q/\F=F1++Fm++F2/\qK.rep w Fm cm (get x)∧
  ∀(w':World) (F':yLN) (c':List Value) (y:β),(∀b∈F1++F2,w'.heap[b]? =w.heap[b]?)->qK.rep w' F' c' y->qK.rep w' (F1++F' ++F2) (c1++c' ++c2) (put x y)
theorem Qs.refl{α:Type}[qK α]:Qs α α 0 (fun x=>x) (fun _ y=>y):=
 ⟨fun {w F cs x} h=>⟨[],cs,[],[],F,[],by simp,rfl,by simp,h,fun w' F' c' y _ h'=>by simpa using h'⟩⟩
theorem Qs.trans{α β γ:Type}[qK α][qK β][qK γ]{r:Nat}{get:α->β}{put:α->β->α}{anS :β->γ}{ajY :β->γ->β}(S:Qs α β q get put)(T:Qs β γ r anS ajY):
 Qs α γ (q+r) (fun x=>anS<|get x) (fun x y=>put x<|ajY (get x) y):=
 ⟨fun {w F cs x} h=>by
  obtain⟨c1,cm,c2,F1,Fm,F2,rfl,h1,rfl,h2,h3⟩:=S.cut h
  obtain⟨d1,dm,d2,G1,Gm,G2,rfl,h4,rfl,h5,h6⟩:=T.cut h2
  refine⟨c1++d1,dm,d2++c2,F1++G1,Gm,G2++F2,by simp,by simp[h1,h4],by simp,h5,fun w' F' c' y hs hr=>?_⟩
  have h7:=h6 w' F' c' y (fun b hb=>hs b (by simp only[List.mem_append] at hb ⊢;rcases hb with hb|hb <;> simp[hb])) hr
  have h8:=h3 w' _ _ _ (fun b hb=>hs b (by simp only[List.mem_append] at hb ⊢;rcases hb with hb|hb <;> simp[hb])) h7
  simpa using h8⟩
section
variable{α β : Type}[qK α][qK β][Inhabited α]{q : Nat}{get : α -> β}{put : α -> β -> α}
theorem Qs.el(S:Qs α β q get put){l:List α}(h:reps w F xs l)(k:Nat)(hk:k<l.length):
 ∃(c1 cm c2:List Value) (F1 Fm F2:yLN),xs=c1++cm++c2/\c1.length=k*qK.size α+q/\F=F1++Fm++F2/\qK.rep w Fm cm (get<|l[k]!)∧
 ∀(w':World) (F':yLN) (c':List Value) (y:β),(∀b∈F1++F2,w'.heap[b]? =w.heap[b]?)->qK.rep w' F' c' y->reps w' (F1++F' ++F2) (c1++c' ++c2) (l.set k<|put (l[k]!) y):=by
 obtain⟨G1,Gk,G2,v1,cs,v2,rfl,rfl,DW,hl2,hr,hr1,hr2⟩:=reps_get h k hk
 obtain⟨c1,cm,c2,F1,Fm,F2,rfl,h1,rfl,h2,h3⟩:=S.cut hr
 have ek:l[k]! =l[k]:=getElem!_pos l k hk
 refine⟨v1++c1,cm,c2++v2,G1++F1,Fm,F2++G2,by simp,by simp[DW,h1],by simp,by rw[ek];exact h2,fun w' F' c' y hs hr'=>?_⟩
 have h4:=h3 w' F' c' y (fun b hb=>hs b (by simp only[List.mem_append] at hb ⊢;rcases hb with hb|hb <;> simp[hb])) hr'
 have h5:=reps_stay hr1 (w':=w')<|fun b hb=>hs b<|by simp[hb]
 have h6:=reps_stay hr2 (w':=w')<|fun b hb=>hs b<|by simp[hb]
 rw[ek,List.set_eq_take_append_cons_drop,if_pos hk]
 have h7:=yU h5<|yU (reps_one h4) h6
 simpa using h7
end
def valF{α:Type}[qK α](fr:Bool)(F:yLN)(cs:List Value)(x:α):Fact where
 F:=F
 φ:=fun w=>qK.rep w F cs x/\(fr=true->jS w F)
 stay:=fun w w' h hs=>⟨qK.stay h.1 hs,fun e=>(h.2 e).stay hs⟩
section
variable{α β : Type}[qK α][qK β][Inhabited α]{q : Nat}{get : α -> β}{put : α -> β -> α}
variable{W0 w : World}{ps : List Prv}{Γ : List Fact}
theorem mid_swap{Fm F2:yLN}:(∀b∈F1++G++F2,b∈F1++Fm++F2\/b∈G)/\((F1++Fm++F2).Nodup->G.Nodup->(∀b∈F1++Fm++F2,b∉G)->(F1++G++F2).Nodup):=by
 refine⟨fun b hb=>?_,fun h1 h2 h3=>?_⟩
 ·simp only[List.mem_append] at hb ⊢
  rcases hb with (hb|hb)|hb <;> simp[hb]
 ·rw[List.append_assoc,List.nodup_append,List.nodup_append] at h1 ⊢
  obtain⟨a1,⟨a2,a3,a4⟩,a5⟩:=h1
  refine⟨a1,⟨h2,a3,fun x hx y hy e=>h3 y (by simp[hy])<|e▸hx⟩,fun x hx y hy=>?_⟩
  rcases List.mem_append.1 hy with h|h
  ·exact fun e=>h3 x (by simp[hx])<|e▸h
  ·exact a5 x hx y<|by simp[h]
end
section
variable{α β : Type}[qK α][qK β][Inhabited α]{q : Nat}{get : α -> β}{put : α -> β -> α}
variable{P : Program}{Q : Exit -> Act -> World -> Prop}{n : Nat}{ρ : Env}{W0 w : World}{ps : List Prv}{Γ : List Fact}
 {d:Nat} {ty:TypeId} {pos:String} {af:Array Edge} {K:Env->World->Prop}
theorem putPart[Dfr](S:Qs α β q get put){xs0:List Value}{l':List α}(H:St W0 w ps Γ)(k:Nat)(hp:ps[k]? =some (.row (Sv (some ⟨b,0,none⟩) nn c) e sz nn xs0))
 (j:Nat) {F:yLN} {l:List α} (hf:Γ[j]? =some (qQ true F xs l)) {G:yLN} {us:List Value} {z:β} (hG:qK.rep w G us z/\jS w G) (hgo:∀b∈G,b<w.heap.size/\∀i,yQ ps i≠some b) {v:Value}
 (hv:v.cells.toList=us) (hs:∀w,(Go.sizeOf t).run P w=.ok v.cells.size w) (hx:ev n ρ x=.pointer (some ⟨b,off,none⟩)) (hy:ev n ρ y=v) (r7:qK.size α=sz) (hz:0<sz) (i:Nat) (h1:i<nn) (ho:off=i*sz+q) (Ey :l'=l.set i (put (l[i]!) z))
 (hxl:xs0.length=xs.length) (hxx:off+us.length<=xs.length->xs0.take off++us++xs0.drop (off+us.length)=xs.take off++us++xs.drop (off+us.length))
 (kk:∀w' yr F',((∀b∈F',b∈F\/b∈G)/\(F.Nodup->G.Nodup->(∀b∈F,b∉G)->F'.Nodup))->St W0 w' (ps.set k<|.row (Sv (some ⟨b,0,none⟩) nn c) e sz nn yr) (qQ true F' yr l'::Γ)->K ρ w'):
 OW P Q ⟨none,.store t x y,ty,pos,af,none⟩ n ρ w K:=by
 subst r7
 subst Ey
 have hl0:=H.rowLen k hp
 have DW:xs.length=l.length*qK.size α:=reps_len (H.get j hf).1
 have hn:nn=l.length:=Nat.eq_of_mul_eq_mul_right hz<|by rw[←hl0,hxl,DW]
 obtain⟨c1,cm,c2,F1,Fm,F2,rfl,h2,rfl,h3,h4⟩:=S.el (H.get j hf).1 i qf
 have lm:cm.length=us.length:=(qK.len h3).trans (qK.len hG.1).symm
 have lv:v.cells.size=us.length:=by rw[←hv];simp
 have e1:(c1++cm++c2).take off++us++(c1++cm++c2).drop (off+us.length)=c1++us++c2:=by
  rw[ho,←h2,←lm]
  simp
 have hle:off+us.length<=(c1++cm++c2).length:=by rw[ho];simp[h2,lm]
 have e0:=(hxx hle).trans e1
 have H1:St W0 w ps (qQ true (F1++G++F2) (c1++us++c2) (l.set i<|put (l[i]!) z)::Γ):=by
  refine H.add _ ⟨h4 w G us z (fun _ _=>rfl) hG.1,fun _ x hx=>?_⟩ fun x hx=>?_
  ·rcases(mid_swap (Fm:=Fm)).1 x hx with h|h
   ·exact(H.get j hf).2 rfl x h
   ·exact hG.2 x h
  ·rcases(mid_swap (Fm:=Fm)).1 x hx with h|h
   ·exact(H.facts _<|List.mem_of_getElem? hf).2 x h
   ·exact hgo x h
 refine o_storeRow H1 k hp v hs hx hy (fun u hu=>qK.one hG.1 u<|hv▸hu) (by rw[lv,hxl];exact hle) fun w' H'=>?_
 rw[lv,hv,e0] at H'
 exact kk w' _ _ mid_swap H'
theorem XF[Dfr](S:Qs α β q get put){l':List α}(H:St W0 w ps Γ)(k:Nat)(hp:ps[k]? =some (.row (Sv (some ⟨b,0,none⟩) nn c) e sz nn xs))
 (j:Nat) {F:yLN} {l:List α} (hf:Γ[j]? =some (qQ true F xs l)) (m:Nat) {G:yLN} {us:List Value} {z:β} (hg:Γ[m]? =some (valF true G us z)) {v:Value}
 (hv:v.cells.toList=us) (hs:∀w,(Go.sizeOf t).run P w=.ok v.cells.size w) (hx:ev n ρ x=.pointer (some ⟨b,off,none⟩)) (hy:ev n ρ y=v) (r7:qK.size α=sz) (i:Nat) (h1:i<nn) (ho:off=i*sz+q) (Ey :l'=l.set i (put (l[i]!) z))
 (kk:∀w' yr F',((∀b∈F',b∈F\/b∈G)/\(F.Nodup->G.Nodup->(∀b∈F,b∉G)->F'.Nodup))->St W0 w' (ps.set k<|.row (Sv (some ⟨b,0,none⟩) nn c) e sz nn yr) (qQ true F' yr l'::Γ)->K ρ w') (hz:0<sz:=by decide):
 OW P Q ⟨none,.store t x y,ty,pos,af,none⟩ n ρ w K:=
 putPart S H k hp j hf ⟨(H.get m hg).1,(H.get m hg).2 rfl⟩ (H.facts _<|List.mem_of_getElem? hg).2 hv hs hx hy r7 hz i h1 ho Ey rfl (fun _=>rfl) kk
theorem o_putBool[Dfr]{get:α->Bool}{put:α->Bool->α}(S:Qs α Bool q get put){l':List α}(H:St W0 w ps Γ)(k:Nat)(hp:ps[k]? =some (.row (Sv (some ⟨b,0,none⟩) nn c) e sz nn xs))
 (j:Nat) {F:yLN} {l:List α} (hf:Γ[j]? =some (qQ true F xs l)) {z:Bool} (hs:∀w,(Go.sizeOf t).run P w=.ok 1 w) (hx:ev n ρ x=.pointer (some ⟨b,off,none⟩)) (hy:ev n ρ y=Bv z) (r7:qK.size α=sz) (i:Nat) (h1:i<nn) (ho:off=i*sz+q) (Ey :l'=l.set i (put (l[i]!) z))
 (kk:∀w' yr F',((∀b∈F',b∈F\/b∈([]:yLN))/\(F.Nodup->([]:yLN).Nodup->(∀b∈F,b∉([]:yLN))->F'.Nodup))->St W0 w' (ps.set k<|.row (Sv (some ⟨b,0,none⟩) nn c) e sz nn yr) (qQ true F' yr l'::Γ)->K ρ w') (hz:0<sz:=by decide):
 OW P Q ⟨none,.store t x y,ty,pos,af,none⟩ n ρ w K:=
 putPart (us:=[Bv z]) (G:=[]) (v:=Bv z) S H k hp j hf ⟨⟨rfl,rfl⟩,jS.nil _⟩ (fun b hb=>by simp at hb) rfl hs hx hy r7 hz i h1 ho Ey rfl (fun _=>rfl) kk
end
theorem St.poke(H:St W0 w ps Γ){w':World}(ho:w'.os=w.os)(ht:w'.tape=w.tape)(hu:w'.output=w.output)(hz:w'.heap.size=w.heap.size)
 (hh:∀b,b≠g->w'.heap[b]? =w.heap[b]?) (hg:W0.heap.size<=g) (hp:∀i,yQ ps i≠some g) (Γ':List Fact) (hΓ:∀f∈Γ',f∈Γ/\g∉f.F):St W0 w' ps Γ':=
 ⟨⟨ho.trans H.base.os,ht.trans H.base.tape,hu.trans H.base.output,by rw[hz];exact H.base.size,fun k hk=>(hh k qf).trans<|H.base.block k hk⟩,
  fun p zd =>(H.has p zd).stay fun b hb=>hh b fun e=>by
   obtain⟨i,hi⟩:=List.getElem?_of_mem zd
   exact hp i<|by simp[yQ,hi,hb,e],
  H.dist,fun f hf=>by
   obtain⟨h1,h2⟩:=hΓ f hf
   have h3:=H.facts f h1
   exact⟨f.stay w w' h3.1 fun b hb=>hh b fun e=>h2<|e▸hb,fun b hb=>⟨by rw[hz];exact(h3.2 b hb).1,(h3.2 b hb).2⟩⟩⟩
theorem slice_poke{γ:Type}[qK γ][Inhabited γ]{l:List γ}(h:qK.rep w F [Sv (some ⟨g,o,none⟩) m c] l)(ep:jS w F)(Oe:F.Nodup)(hp:p<l.length)(hz:0<qK.size γ){us:List Value}{z:γ}(hG:qK.rep w G us z)(hGn:G.Nodup)(hd:∀b∈F,b∉G):
 g∈F/\∃w' F',(storeCells ⟨g,o+p*qK.size γ,none⟩ us).run P w=.ok () w' /\w'.os=w.os/\w'.tape=w.tape/\w'.output=w.output/\w'.heap.size=w.heap.size/\(∀b,b≠g->w'.heap[b]? =w.heap[b]?)/\(∃cs t,w'.heap[g]? =some (.cells cs t (0,0)))∧
  qK.rep w' F' [Sv (some ⟨g,o,none⟩) m c] (l.set p z)/\(∀b∈F',b∈F\/b∈G)/\F'.Nodup:=by
 obtain⟨a,ib,hc,hl,KS⟩:=id h
 simp only[List.cons.injEq,Value.slice.injEq,and_true] at hc
 obtain⟨rfl,rfl,rfl⟩:=hc
 rcases KS with ⟨h0,_⟩|⟨b,off,F1,vs,ha,rfl,oe,hr,hcells⟩
 ·rw[h0] at hp;simp at hp
 simp only[Option.some.injEq,Addr.mk.injEq,and_true] at ha
 obtain⟨rfl,rfl⟩:=ha
 obtain⟨v1,cm,v2,G1,Gm,G2,rfl,DW,rfl,hr1,Mq⟩:=(Qs.refl (α:=γ)).el hr p hp
 obtain⟨ij,t,abL⟩:=ep g qm
 have H9:=qK.one hG
 have lg:=qK.len hG
 have lm:cm.length=us.length:=(qK.len hr1).trans lg.symm
 have EO:∀i v,(v1++cm++v2)[i]? =some v->ij[o+i]? =some v:=fun i v hi=>by
  have:=hcells i v hi
  rw[World.cell?,abL] at this
  simpa using this
 have Jm:o+(v1.length+cm.length+v2.length)<=ij.size:=by
  have h1:v1.length+cm.length+v2.length-1<(v1++cm++v2).length:=by simp;omega
  obtain⟨h2,_⟩:=Array.getElem?_eq_some_iff.1<|EO _ _<|List.getElem?_eq_getElem h1
  omega
 have A6:=run_storeCells_at P g (o+p*qK.size γ) t us 0 ij w abL qf H9
 simp only[Nat.add_zero] at A6 DW
 have acn:=List.nodup_cons.1 Oe
 have hdF:∀b∈G1++Gm++G2,b∉G:=fun b hb=>hd b<|List.mem_cons_of_mem _ hb
 have hgG:g∉G:=hd g<|List.mem_cons_self ..
 have acT:∀b,b≠g->(w.setRow g (ij.toList.take (o+p*qK.size γ)++us++ij.toList.drop (o+p*qK.size γ+us.length)).toArray).heap[b]? =w.heap[b]? :=fun b hb=>by
  simp[World.setRow,Array.getElem?_modify,Ne.symm hb]
 have US:(w.setRow g (ij.toList.take (o+p*qK.size γ)++us++ij.toList.drop (o+p*qK.size γ+us.length)).toArray).heap[g]? =some (.cells (ij.toList.take (o+p*qK.size γ)++us++ij.toList.drop (o+p*qK.size γ+us.length)).toArray t (0,0)):=by
  simp[World.setRow,Array.getElem?_modify,abL]
 have hms:=mid_swap (F1:=G1) (Fm:=Gm) (F2:=G2) (G:=G)
 refine⟨List.mem_cons_self ..,_,g::(G1++G++G2),A6,rfl,rfl,rfl,by simp[World.setRow],acT,⟨_,_,US⟩,⟨_,c,by rw[List.length_set],by rw[List.length_set];exact hl,Or.inr ⟨g,o,_,v1++us++v2,rfl,rfl,?_,?_,?_⟩⟩,fun b hb=>?_,List.nodup_cons.2 ⟨fun hb=>?_,hms.2 acn.2 hGn hdF⟩⟩
 ·simpa [World.setRow] using oe
 ·refine Mq _ G us z (fun b hb=>acT b fun e=>?_) (qK.stay hG fun b hb=>acT b fun e=>hgG<|e▸hb)
  subst e
  exact acn.1 (by simp only[List.mem_append] at hb ⊢;rcases hb with hb|hb <;> simp[hb])
 ·intro i v hi
  rw[World.cell?,US]
  have BG :i<v1.length+us.length+v2.length:=by
   have:=(List.getElem?_eq_some_iff.1 hi).1
   simpa [Nat.add_assoc] using this
  simp only[Option.bind_some]
  show (ij.toList.take (o+p*qK.size γ)++us++ij.toList.drop (o+p*qK.size γ+us.length)).toArray[o+i]? =some v
  rw[List.getElem?_toArray]
  by_cases h1:i<v1.length
  ·rw[List.append_assoc,List.getElem?_append_left qy,List.getElem?_take,if_pos qf,Array.getElem?_toList]
   refine EO i v ?_
   rw[List.append_assoc,List.getElem?_append_left h1] at hi ⊢
   exact hi
  ·by_cases h2:i<v1.length+us.length
   ·rw[List.append_assoc,List.getElem?_append_right qy,List.getElem?_append_left qy]
    rw[List.append_assoc,List.getElem?_append_right qf,List.getElem?_append_left qf] at hi
    rw[←hi];congr 1;simp;omega
   ·rw[List.getElem?_append_right qy,List.getElem?_drop,Array.getElem?_toList]
    have h3:=EO i v (by
     rw[List.getElem?_append_right qy] at hi ⊢
     rw[←hi];congr 1;simp;omega)
    rw[←h3];congr 1;simp;omega
 ·rcases List.mem_cons.1 hb with rfl|hb
  ·exact .inl<|List.mem_cons_self ..
  ·rcases hms.1 b hb with h|h
   ·exact .inl<|List.mem_cons_of_mem _ h
   ·exact .inr h
 ·rcases hms.1 g hb with h|h
  ·exact acn.1 h
  ·exact hgG h
section
variable{α γ : Type}[qK α][qK γ][Inhabited α][Inhabited γ]{q : Nat}{get : α -> List γ}{put : α -> List γ -> α}
variable{P : Program}{Q : Exit -> Act -> World -> Prop}{n : Nat}{ρ : Env}{W0 w : World}{ps : List Prv}{Γ : List Fact}
 {d:Nat} {ty:TypeId} {pos:String} {af:Array Edge} {K:Env->World->Prop}
theorem pokePart[Dfr](S:Qs α (List γ) q get put){l l':List α}(H:St W0 w ps Γ)
 (j:Nat) (hf:Γ[j]? =some (qQ true F xs l)) {G:yLN} {L:List yLN} (N:Fresh W0.heap.size (F::G::L)) {us:List Value} {z:γ} (hG:qK.rep w G us z) (hGf:jS w G) (hGo:∀b∈G,b<w.heap.size/\∀i,yQ ps i≠some b)
 (Γ':List Fact) (hΓ:∀f∈Γ',f∈Γ/\∀x∈f.F,x∉F) (i:Nat) (h1:i<l.length) {g o m c sz:Nat} (r7:qK.size α=sz) (h2:xs[i*sz+q]? =some (Sv (some ⟨g,o,none⟩) m c)) (p:Nat) (h3:p<(get<|l[i]!).length) (hz:0<qK.size γ) {v:Value}
 (hv:v.cells.toList=us) (hs:∀w,(Go.sizeOf t).run P w=.ok v.cells.size w) {off:Nat} (hx:ev n ρ x=.pointer (some ⟨g,off,none⟩)) (ho:off=o+p*qK.size γ) (hy:ev n ρ y=v)
 (Ey :l'=l.set i (put (l[i]!) ((get<|l[i]!).set p z))) (kk:∀w' F',Fresh W0.heap.size (F'::L)->St W0 w' ps (qQ true F' xs l'::Γ')->K ρ w'):
 OW P Q ⟨none,.store t x y,ty,pos,af,none⟩ n ρ w K:=by
 subst r7
 subst Ey
 have dl:=H.facts _<|List.mem_of_getElem? hf
 have hb:∀b∈F,b<w.heap.size/\∀i,yQ ps i≠some b:=dl.2
 obtain⟨YP,acl⟩:=dl.1
 have ep:=acl rfl
 obtain⟨c1,cm,c2,F1,Fm,F2,rfl,e1,rfl,hr,Mq⟩:=S.el YP i h1
 have ecm:cm=[Sv (some ⟨g,o,none⟩) m c]:=by
  obtain⟨a,ib,hc,_⟩:=id hr
  subst hc
  rw[List.append_assoc,List.getElem?_append_right qf,e1] at h2
  simpa using h2
 subst ecm
 have hnF:=N.nd _<|List.mem_cons_self ..
 have hnG:=N.nd G qm
 have hFG:∀b∈F1++Fm++F2,b∉G:=fun b gY =>(List.pairwise_cons.1 N.dj).1 G qm b gY
 have hnm:Fm.Nodup:=(List.nodup_append.1 (List.nodup_append.1 hnF).1).2.1
 obtain⟨hg,w',F',A6,k1,k2,k3,k4,k5,k6,k7,k8,k9⟩:=slice_poke hr (ep.sub fun b gY =>by simp[gY]) hnm h3 hz hG hnG (fun b gY =>hFG b<|by simp[gY]) (P:=P)
 have hgb:=hb g<|by simp[hg]
 have auN:∀b∈F1++F2,w'.heap[b]? =w.heap[b]? :=fun b gY =>k5 b fun e=>by
  subst e
  have h4:=List.nodup_append.1 hnF
  have h5:=List.nodup_append.1 h4.1
  rcases List.mem_append.1 gY with h|h
  ·exact h5.2.2 b h b hg rfl
  ·exact h4.2.2 b (by simp[hg]) b h rfl
 have hms:∀b∈F1++F' ++F2,b∈F1++Fm++F2\/b∈G:=fun b gY =>by
  simp only[List.mem_append] at gY ⊢
  rcases gY with (h|h)|h
  ·simp[h]
  ·rcases k8 b h with h|h <;> simp[h]
  ·simp[h]
 have N':Fresh W0.heap.size ((F1++F' ++F2)::L):=N.repl ⟨hms,fun _ _ _=>by
  have h4:=List.nodup_append.1 hnF
  have h5:=List.nodup_append.1 h4.1
  refine List.nodup_append.2 ⟨List.nodup_append.2 ⟨h5.1,k9,fun a ha b gY e=>?_⟩,h4.2.1,fun a ha b gY e=>?_⟩
  ·subst e
   rcases k8 a gY with h|h
   ·exact h5.2.2 a ha a h rfl
   ·exact hFG a (by simp[ha]) h
  ·subst e
   rcases List.mem_append.1 ha with h|h
   ·exact h4.2.2 a (by simp[h]) a gY rfl
   ·rcases k8 a h with h|h
    ·exact h4.2.2 a (by simp[h]) a gY rfl
    ·exact hFG a (by simp[gY]) h⟩
 have H':=H.poke k1 k2 k3 k4 k5 (N.ge _ (List.mem_cons_self ..) g<|by simp[hg]) hgb.2 Γ' fun f hf'=>⟨(hΓ f hf').1,fun h=>(hΓ f hf').2 g h<|by simp[hg]⟩
 refine o_unit (w':=w') ?_<|kk w' _ N'<|H'.add _ ⟨Mq w' F' _ _ auN k7,fun _ b gY =>?_⟩ fun b gY =>?_
 ·subst hv
  simp[execOp,hx,hy,Instr.storeAt,Instr.sureAddr,storeVar,hs,ho,A6]
 ·by_cases e:b=g
  ·subst e;exact k6
  ·rw[k5 b e]
   rcases hms b gY with h|h
   ·exact ep b h
   ·exact hGf b h
 ·rw[k4]
  rcases hms b gY with h|h
  ·exact hb b h
  ·exact hGo b h
theorem o_pokePart[Dfr](S:Qs α (List γ) q get put){l l':List α}(H:St W0 w ps Γ)
 (j:Nat) (hf:Γ[j]? =some (qQ true F xs l)) (mm:Nat) {G:yLN} {L:List yLN} {v:Value} {z:γ} (hg:Γ[mm]? =some (isF true G v z)) (N:Fresh W0.heap.size (F::G::L))
 (Γ':List Fact) (hΓ:∀f∈Γ',f∈Γ/\∀x∈f.F,x∉F) (i:Nat) (h1:i<l.length) {g o m c sz:Nat} (r7:qK.size α=sz) (h2:xs[i*sz+q]? =some (Sv (some ⟨g,o,none⟩) m c)) (p:Nat) (h3:p<(get<|l[i]!).length) (hz:qK.size γ=1)
 (hs:∀w,(Go.sizeOf t).run P w=.ok 1 w) {iv:Int} (hx:ev n ρ x=.pointer (some ⟨g,o+iv.toNat*1,none⟩)) (ho:iv.toNat=p) (hy:ev n ρ y=v)
 (Ey :l'=l.set i (put (l[i]!) ((get<|l[i]!).set p z))) (kk:∀w' F',Fresh W0.heap.size (F'::L)->St W0 w' ps (qQ true F' xs l'::Γ')->K ρ w'):
 OW P Q ⟨none,.store t x y,ty,pos,af,none⟩ n ρ w K:=by
 have hG:=H.facts _<|List.mem_of_getElem? hg
 have h1':v.oneCell'=true:=qK.one hG.1.1 v<|List.mem_singleton.2 rfl
 have hc:v.cells=#[v]:=by cases v <;> first|rfl|(simp[Value.oneCell'] at h1')
 exact pokePart S H j hf N hG.1.1 (hG.1.2 rfl) hG.2 Γ' hΓ i h1 r7 h2 p h3 qf (by rw[hc]) (by simpa [hc] using hs) hx (by rw[hz,ho]) hy Ey kk
theorem o_pokeBool[Dfr]{get:α->List Bool}{put:α->List Bool->α}(S:Qs α (List Bool) q get put){l l':List α}(H:St W0 w ps Γ)
 (j:Nat) (hf:Γ[j]? =some (qQ true F xs l)) {L:List yLN} {z:Bool} (N:Fresh W0.heap.size (F::L))
 (Γ':List Fact) (hΓ:∀f∈Γ',f∈Γ/\∀x∈f.F,x∉F) (i:Nat) (h1:i<l.length) {g o m c sz:Nat} (r7:qK.size α=sz) (h2:xs[i*sz+q]? =some (Sv (some ⟨g,o,none⟩) m c)) (p:Nat) (h3:p<(get<|l[i]!).length)
 (hs:∀w,(Go.sizeOf t).run P w=.ok 1 w) {iv:Int} (hx:ev n ρ x=.pointer (some ⟨g,o+iv.toNat*1,none⟩)) (ho:iv.toNat=p) (hy:ev n ρ y=Bv z)
 (Ey :l'=l.set i (put (l[i]!) ((get<|l[i]!).set p z))) (kk:∀w' F',Fresh W0.heap.size (F'::L)->St W0 w' ps (qQ true F' xs l'::Γ')->K ρ w'):
 OW P Q ⟨none,.store t x y,ty,pos,af,none⟩ n ρ w K:=
 pokePart (γ:=Bool) (v:=Bv z) S H j hf (Fresh.swap N.emp) (show qK.rep w [] [Bv z] z from⟨rfl,rfl⟩) (jS.nil _) (fun b hb=>by simp at hb) Γ' hΓ i h1 r7 h2 p h3 (show 0<1 from Nat.one_pos) rfl hs hx (by rw[ho];rfl) hy Ey kk
end
section
variable{W0 w : World}{ps : List Prv}{Γ : List Fact}
theorem St.zt(H:St W0 w ps Γ)(k:Nat)(hp:ps[k]? =some (.row (Sv (some ⟨b,0,none⟩) nn c) e sz nn xs))(hv:xs[i]? =some v)(ho:off=i):w.cell? ⟨b,off,none⟩=some v:=by
 subst ho;exact H.rowGet k hp hv
theorem St.takePart{α γ:Type}[qK α][qK γ][Inhabited α]{get:α->List γ}{put:α->List γ->α}(S:Qs α (List γ) q get put)(H:St W0 w ps Γ)(j:Nat){l:List α}(hf:Γ[j]? =some (qQ true F xs l))
 {L:List yLN} (N:Fresh W0.heap.size (F::L)) (i:Nat) (h1:i<l.length) {sz:Nat} (r7:qK.size α=sz) {v:Value} (h2:xs[i*sz+q]? =some v):
 ∃(a:yOA) (c:Nat) (G F':yLN),v=Sv a (get<|l[i]!).length c/\Fresh W0.heap.size (G::F'::L)/\St W0 w ps (isF true G v (get<|l[i]!)::qQ true F' (xs.set (i*sz+q)<|Sv none 0 0) (l.set i<|put (l[i]!) [])::Γ):=by
 subst r7
 have dl:=H.facts _<|List.mem_of_getElem? hf
 have hb:∀b∈F,b<w.heap.size/\∀i,yQ ps i≠some b:=dl.2
 obtain⟨YP,acl⟩:=dl.1
 have ep:=acl rfl
 obtain⟨c1,cm,c2,F1,Fm,F2,rfl,e1,rfl,hr,Mq⟩:=S.el YP i h1
 obtain⟨a,c,rfl,_⟩:=id hr
 have ev:v=Sv a (get<|l[i]!).length c:=by
  rw[List.append_assoc,List.getElem?_append_right qf,e1] at h2
  simpa using h2.symm
 subst ev
 have hnF:=N.nd _<|List.mem_cons_self ..
 have h4:=List.nodup_append.1 hnF
 have h5:=List.nodup_append.1 h4.1
 have oO:(c1++[Value.slice a (get<|l[i]!).length c]++c2).set (i*qK.size α+q) (Sv none 0 0)=c1++[Sv none 0 0]++c2:=by
  rw[←e1,List.append_assoc,List.set_append_right _ _<|Nat.le_refl _];simp
 have hd:=List.pairwise_cons.1 N.dj
 refine⟨a,c,Fm,F1++F2,rfl,⟨fun K hK=>?_,fun K hK b gY =>?_,List.pairwise_cons.2 ⟨fun K hK b gY =>?_,List.pairwise_cons.2 ⟨fun K hK b gY =>hd.1 K hK b ?_,hd.2⟩⟩⟩,?_⟩
 ·rcases List.mem_cons.1 hK with rfl|hK
  ·exact h5.2.1
  ·rcases List.mem_cons.1 hK with rfl|hK
   ·exact List.nodup_append.2 ⟨h5.1,h4.2.1,fun x hx y hy=>h4.2.2 x (by simp[hx]) y hy⟩
   ·exact N.nd K<|by simp[hK]
 ·rcases List.mem_cons.1 hK with rfl|hK
  ·exact N.ge _ (List.mem_cons_self ..) b<|by simp[gY]
  ·rcases List.mem_cons.1 hK with rfl|hK
   ·exact N.ge _ (List.mem_cons_self ..) b (by simp only[List.mem_append] at gY ⊢;rcases gY with h|h <;> simp[h])
   ·exact N.ge K (by simp[hK]) b gY
 ·rcases List.mem_cons.1 hK with rfl|hK
  ·intro hb2
   rcases List.mem_append.1 hb2 with h|h
   ·exact h5.2.2 b h b gY rfl
   ·exact h4.2.2 b (by simp[gY]) b h rfl
  ·exact hd.1 K hK b<|by simp[gY]
 ·simp only[List.mem_append] at gY ⊢;rcases gY with h|h <;> simp[h]
 ·rw[oO]
  refine(H.add (qQ true (F1++F2) (c1++[Sv none 0 0]++c2)<|l.set i<|put (l[i]!) []) ⟨?_,fun _=>ep.sub fun b gY =>?_⟩ fun b gY =>hb b ?_).add (isF true Fm _<|get<|l[i]!) ⟨hr,fun _=>ep.sub fun b gY =>by simp[gY]⟩ fun b gY =>hb b (by have gY :b∈Fm:=gY;simp[gY])
  ·have h6:=Mq w [] [Sv none 0 0] [] (fun _ _=>rfl) ⟨none,0,rfl,by simp,Or.inl ⟨rfl,rfl⟩⟩
   simpa using h6
  ·simp only[List.mem_append] at gY ⊢;rcases gY with h|h <;> simp[h]
  ·have gY :b∈F1++F2:=gY
   simp only[List.mem_append] at gY ⊢;rcases gY with h|h <;> simp[h]
end
section
variable{α β : Type}[qK α][qK β][Inhabited α]{q : Nat}{get : α -> β}{put : α -> β -> α}
variable{P : Program}{Q : Exit -> Act -> World -> Prop}{n : Nat}{ρ : Env}{W0 w : World}{ps : List Prv}{Γ : List Fact}
 {d:Nat} {ty:TypeId} {pos:String} {af:Array Edge} {K:Env->World->Prop}
theorem o_putHole[Dfr](S:Qs α β q get put){u:Value}{l':List α}(H:St W0 w ps Γ)(k:Nat)(hp:ps[k]? =some (.row (Sv (some ⟨b,0,none⟩) nn c) e sz nn xs))
 (j:Nat) {F:yLN} {l:List α} (hf:Γ[j]? =some (qQ true F (xs.set p u) l)) (m:Nat) {G:yLN} {us:List Value} {z:β} (hg:Γ[m]? =some (valF true G us z)) {v:Value}
 (hv:v.cells.toList=us) (hs:∀w,(Go.sizeOf t).run P w=.ok v.cells.size w) (hx:ev n ρ x=.pointer (some ⟨b,off,none⟩)) (hy:ev n ρ y=v) (r7:qK.size α=sz) (i:Nat) (h1:i<nn) (ho:off=i*sz+q) (Ey :l'=l.set i (put (l[i]!) z)) (hin:off<=p/\p<off+us.length)
 (kk:∀w' yr F',((∀b∈F',b∈F\/b∈G)/\(F.Nodup->G.Nodup->(∀b∈F,b∉G)->F'.Nodup))->St W0 w' (ps.set k<|.row (Sv (some ⟨b,0,none⟩) nn c) e sz nn yr) (qQ true F' yr l'::Γ)->K ρ w') (hz:0<sz:=by decide):
 OW P Q ⟨none,.store t x y,ty,pos,af,none⟩ n ρ w K:=
 putPart S H k hp j hf ⟨(H.get m hg).1,(H.get m hg).2 rfl⟩ (H.facts _<|List.mem_of_getElem? hg).2 hv hs hx hy r7 hz i h1 ho Ey qm (fun _=>by
  rw[List.take_set_of_le hin.1,List.drop_set_of_lt hin.2]) kk
end
theorem XA(OL:∀f∈Γ,∀b∈f.F,b<B)(j:Nat)(hf:Γ[j]? =some f)(N:Fresh B (F::L)):∀x∈f.F,x∉F:=away_lt (OL f<|List.mem_of_getElem? hf) N
theorem drop_mem{α:Type}{l m:List α}(n:Nat)(h:l.drop n=m){x:α}(hx:x∈m):x∈l:=List.mem_of_mem_drop<|h▸hx
theorem keeps_old{Γ0:List Fact}(n:Nat)(hn:Γ.drop n=Δ)(OL:∀f∈Γ0,∀b∈f.F,b<B)(m:Nat)(hm:Γ0.drop m=Δ)(N:Fresh B (F::L)):∀f∈Δ,f∈Γ/\∀x∈f.F,x∉F:=
 fun f hf=>⟨drop_mem n hn hf,away_lt (OL f<|drop_mem m hm hf) N⟩
theorem away_part(sb:∀G∈L,∀x∈G,x∈F1)(i:Nat)(h:L[i]? =some G)(hN:∀x∈F1,x∉F):∀x∈G,x∉F:=fun x hx=>hN x<|sb G (List.mem_of_getElem? h) x hx
theorem olds_none:∀f∈([]:List Fact),∀b∈f.F,b<B:=fun f hf=>by cases hf
theorem xQ(h:∀b∈f.F,b<B)(k:∀f∈Γ,∀b∈f.F,b<B):∀g∈f::Γ,∀b∈g.F,b<B:=fun g hg=>by
 rcases List.mem_cons.1 hg with rfl|hg
 ·exact h
 ·exact k g hg
theorem zQ(OL:∀f∈Γ,∀b∈f.F,b<B)(j:Nat)(hf:Γ[j]? =some f):∀b∈f.F,b<B:=OL f<|List.mem_of_getElem? hf
theorem XX(OL:∀f∈Γ,∀b∈f.F,b<B)(n:Nat)(hn:Γ.drop n=Δ):∀f∈Δ,∀b∈f.F,b<B:=fun f hf=>OL f<|drop_mem n hn hf
theorem St.yG{α:Type}[qK α](H:St W0 w ps Γ)(k:Nat)(hp:ps[k]? =some (.row (Sv (some ⟨b,0,none⟩) nn c) e 1 nn xs))(j:Nat){l:List (List α)}
 (hf:Γ[j]? =some (qQ fr F xs l)) {iv:Int} (i:Nat) (h:iv.toNat=i) (h1:i<nn):
 ∃(a:yOA) (c':Nat) (G:yLN),xs[i*1+0]? =some (Sv a (l[i]!).length c')/\St W0 w ps (isF fr G (Sv a (l[i]!).length c') (l[i]!)::Γ):=by
 obtain⟨cs,G,hc,hr,bU,ep,v1,v2,hx,hv⟩:=H.rowElem k hp j hf Nat.one_pos h h1
 obtain⟨a,c',rfl,hx'⟩:=id hr
 have hxi:xs[i*1+0]? =some (Sv a (l[i]!).length c'):=by
  have DW:v1.length=i:=by rw[hv];exact Nat.mul_one _
  rw[hx,List.append_assoc,List.getElem?_append_right qf]
  simp[DW]
 exact⟨a,c',G,hxi,H.vT j hf _ ⟨hr,ep⟩ bU⟩
theorem St.splitLast{α:Type}[qK α](H:St W0 w ps Γ)(j:Nat){l:List (List α)}(hf:Γ[j]? =some (isF true G (Sv (some ⟨b,o,none⟩) m c) l))(N:Fresh W0.heap.size (G::L))(n:Nat)(hn:l.length=n+1):
 ∃(a:yOA) (c':Nat) (G1 G2:yLN),Fresh W0.heap.size (G1::G2::L)/\St W0 w ps (isF true G1 (Sv (some ⟨b,o,none⟩) (l.take n).length c) (l.take n)::isF true G2 (Sv a (l[n]!).length c') (l[n]!)::atF b (o+(n:Int).toNat*1) [Sv a (l[n]!).length c']::Γ):=by
 have dl:=H.facts _<|List.mem_of_getElem? hf
 have hb:∀b∈G,b<w.heap.size/\∀i,yQ ps i≠some b:=dl.2
 obtain⟨⟨a0,c0,hc,⟨hl,ZH⟩,KS⟩,ep⟩:=dl.1
 simp only[List.cons.injEq,Value.slice.injEq,and_true] at hc
 obtain⟨rfl,rfl,rfl⟩:=hc
 rcases KS with ⟨h0,_⟩|⟨b',off,F1,vs,ha,rfl,oe,hr,hcells⟩
 ·rw[h0] at hn;simp at hn
 simp only[Option.some.injEq,Addr.mk.injEq,and_true] at ha
 obtain⟨rfl,rfl⟩:=ha
 obtain⟨G1,Gk,G2,v1,cs,v2,rfl,rfl,DW,hl2,YP,hr1,hr2⟩:=reps_get hr n qf
 have ek:l[n]! =l[n]:=getElem!_pos l n qf
 rw[←ek] at YP
 have hd:l.drop (n+1)=[]:=List.drop_eq_nil_of_le qf
 rw[hd] at hr2
 obtain⟨rfl,rfl⟩:G2=[]/\v2=[]:=hr2
 obtain⟨a,c',rfl,_⟩:=id YP
 simp only[List.append_nil] at N hb ep hr oe hcells
 have ep:=ep trivial
 have asZ :v1.length=n:=by rw[DW];exact Nat.mul_one _
 have Oe:=List.nodup_cons.1<|N.nd _<|List.mem_cons_self ..
 have hna:=List.nodup_append.1 Oe.2
 have hdj:=List.pairwise_cons.1 N.dj
 have ht:(l.take n).length=n:=List.length_take_of_le qf
 refine⟨a,c',b::G1,Gk,⟨fun K hK=>?_,fun K hK x hx=>?_,List.pairwise_cons.2 ⟨fun K hK x hx=>?_,List.pairwise_cons.2 ⟨fun K hK x hx=>hdj.1 K hK x<|by simp[hx],hdj.2⟩⟩⟩,?_⟩
 ·rcases List.mem_cons.1 hK with rfl|hK
  ·exact List.nodup_cons.2 ⟨fun h=>Oe.1<|by simp[h],hna.1⟩
  ·rcases List.mem_cons.1 hK with rfl|hK
   ·exact hna.2.1
   ·exact N.nd K<|by simp[hK]
 ·rcases List.mem_cons.1 hK with rfl|hK
  ·exact N.ge _ (List.mem_cons_self ..) x (by rcases List.mem_cons.1 hx with rfl|h;exact List.mem_cons_self ..;exact List.mem_cons_of_mem _ (List.mem_append_left _ h))
  ·rcases List.mem_cons.1 hK with rfl|hK
   ·exact N.ge _ (List.mem_cons_self ..) x<|by simp[hx]
   ·exact N.ge K (by simp[hK]) x hx
 ·rcases List.mem_cons.1 hK with rfl|hK
  ·rcases List.mem_cons.1 hx with rfl|h
   ·exact fun h=>Oe.1<|by simp[h]
   ·exact fun h2=>hna.2.2 x h x h2 rfl
  ·exact hdj.1 K hK x (by rcases List.mem_cons.1 hx with rfl|h;exact List.mem_cons_self ..;exact List.mem_cons_of_mem _ (List.mem_append_left _ h))
 ·have CZ:jI w b (o+(n:Int).toNat*1) [Sv a (l[n]!).length c']:=fun i v hi=>by
   have h1:=hcells (v1.length+i) v<|by rw[List.getElem?_append_right qf,Nat.add_sub_cancel_left];exact hi
   rw[asZ] at h1
   rw[show o+(n:Int).toNat*1+i=o+(n+i) by omega];exact h1
  refine((H.add (atF b (o+(n:Int).toNat*1) _) CZ fun x hx=>hb x ?_).add (isF true Gk _<|l[n]!) ⟨YP,fun _=>ep.sub fun x hx=>by simp[hx]⟩ fun x hx=>hb x (by have hx:x∈Gk:=hx;simp[hx])).add (isF true (b::G1) _<|l.take n) ⟨⟨_,_,rfl,⟨by omega,by omega⟩,Or.inr ⟨b,o,G1,v1,rfl,rfl,oe,hr1,fun i v hi=>?_⟩⟩,fun _=>ep.sub fun x hx=>?_⟩ fun x hx=>hb x ?_
  ·have hx:x=b:=by simpa [atF] using hx
   simp[hx]
  ·refine hcells i v ?_
   rw[List.getElem?_append_left (List.getElem?_eq_some_iff.1 hi).1];exact hi
  ·rcases List.mem_cons.1 hx with rfl|h
   ·exact List.mem_cons_self ..
   ·exact List.mem_cons_of_mem _<|List.mem_append_left _ h
  ·have hx:x∈b::G1:=hx
   rcases List.mem_cons.1 hx with rfl|h
   ·exact List.mem_cons_self ..
   ·exact List.mem_cons_of_mem _<|List.mem_append_left _ h
theorem o_headV[Dfr]{Q:Exit->Act->World->Prop}{d:Nat}{pos:String}{af:Array Edge}{K:Env->World->Prop}
 {x y:Operand} {t e:TypeId} {z:Value} {sz fx b off m c:Nat} (kk:Nat) {r:Nat} (hr:r=kk) {iv:Int} (hu:P.underlying t=some (.slice e)) (he:TI P e z sz fx)
 (hx:ev n ρ x=Sv (some ⟨b,off,none⟩) m c) (hy:ev n ρ y=.int .i64 iv) (hv:iv=kk) (hk:kk<=c) (k:K (upd ρ d<|Sv (some ⟨b,off,none⟩) r c) w):
 OW P Q ⟨some d,.slice t x none (some y) none,ty,pos,af,none⟩ n ρ w K:=by
 subst hr hv
 refine Q8 _ ?_ k
 have e1:(if c=0 then some ⟨b,off,none⟩ else (some (⟨b,off,none⟩:Addr)).map (·.add (0*sz)))=some ⟨b,off,none⟩:=by split <;> simp[Addr.add_mid]
 rw[Nat.zero_mul] at e1
 simp[execOp,hx,hy,Instr.sliceAt,Instr.slice,Instr.sliceBounds,Instr.sliceBound,asIntOf,run_underlying hu,he.sizeOf,show r<=c by omega,Addr.add_mid]
end
section
theorem St.partS_DeskD{α:Type}[qK α][Inhabited α]{get:α->zA}{put:α->zA->α}(S:Qs α zA q get put)(H:St W0 w ps Γ)(k:Nat)(hp:ps[k]? =some (.row (Sv (aa b 0) nn c) e sz nn xs))(j:Nat){l:List α}
 (hf:Γ[j]? =some (qQ fr F xs l)) (r7:qK.size α=sz) (i:Nat) (h1:i<nn) (hz:0<sz:=by decide):
 ∃(eI:yOA) (eJ:Nat) (Q4:yLN) (im:yOA) (ig:Nat) (QW:yLN) (AU:yOA) (Ak:Nat) (nJ:yLN) (iy:yOA) (iq:Nat) (dZ:yLN) (AJ:yOA) (A3:Nat) (nQ:yLN) (pC:yOA) (qb:Nat) (gG:yLN),(∀(r:Nat) (v:Value),([yI (get<|l[i]!).qP,Sv eI (get<|l[i]!).qG.length eJ,Sv im (get<|l[i]!).qF.length ig,Bv (get<|l[i]!).qV,Sv AU (get<|l[i]!).vM.length Ak,Sv iy (get<|l[i]!).qL.length iq,Sv AJ (get<|l[i]!).vX.length A3,Sv pC (get<|l[i]!).x8.length qb]:List Value)[r]? =some v->xs[i*sz+q+r]? =some v)/\(∀G∈[Q4,QW,nJ,dZ,nQ,gG],∀x∈G,x∈F)/\St W0 w ps (isF fr Q4 (Sv eI (get<|l[i]!).qG.length eJ) (get<|l[i]!).qG::isF fr QW (Sv im (get<|l[i]!).qF.length ig) (get<|l[i]!).qF::isF fr nJ (Sv AU (get<|l[i]!).vM.length Ak) (get<|l[i]!).vM::isF fr dZ (Sv iy (get<|l[i]!).qL.length iq) (get<|l[i]!).qL::isF fr nQ (Sv AJ (get<|l[i]!).vX.length A3) (get<|l[i]!).vX::isF fr gG (Sv pC (get<|l[i]!).x8.length qb) (get<|l[i]!).x8::Γ):=by
 subst r7
 have hn:nn=l.length:=H.xk (α:=α) k hp j hf hz
 obtain⟨c1,cm,c2,F1,Fm,F2,ZU,hl,hF,hr,_⟩:=S.el (H.get j hf).1 i qf
 have bU:∀x∈Fm,x∈F:=fun x hx=>by rw[hF];simp[hx]
 have ep:fr=true->jS w Fm:=fun e=>((H.get j hf).2 e).sub bU
 obtain⟨dH,dT,tR,fR,vh,m4,Q4,QW,nJ,dZ,nQ,gG,rfl,dl,Ve,XO,sY,fp,sZ,mj⟩:=id hr
 obtain⟨eI,eJ,rfl⟩:=slice_form Ve
 obtain⟨im,ig,rfl⟩:=slice_form XO
 obtain⟨AU,Ak,rfl⟩:=slice_form sY
 obtain⟨iy,iq,rfl⟩:=slice_form fp
 obtain⟨AJ,A3,rfl⟩:=slice_form sZ
 obtain⟨pC,qb,rfl⟩:=slice_form mj
 refine⟨eI,eJ,Q4,im,ig,QW,AU,Ak,nJ,iy,iq,dZ,AJ,A3,nQ,pC,qb,gG,fun r v hv=>?_,fun G hG x hx=>?_,?_⟩
 ·have oe:=(List.getElem?_eq_some_iff.1 hv).1
  rw[ZU,←hl,List.append_assoc,List.getElem?_append_right qf,Nat.add_sub_cancel_left,List.getElem?_append_left oe]
  exact hv
 ·refine bU x ?_
  rw[dl]
  simp only[List.mem_cons,List.not_mem_nil,or_false] at hG
  simp only[List.mem_append]
  rcases hG with rfl|rfl|rfl|rfl|rfl|rfl <;> simp[hx]
 ·exact((((((H.vT (j+0) hf (isF fr gG _ (get<|l[i]!).x8) ⟨mj,fun e=>(ep e).sub<|by rw[dl];intro x hx;simp[hx]⟩<|fun x hx=>bU x (by rw[dl];have hx:x∈gG:=hx;simp[hx])).vT (j+1) hf (isF fr nQ _ (get<|l[i]!).vX) ⟨sZ,fun e=>(ep e).sub<|by rw[dl];intro x hx;simp[hx]⟩<|fun x hx=>bU x (by rw[dl];have hx:x∈nQ:=hx;simp[hx])).vT (j+2) hf (isF fr dZ _ (get<|l[i]!).qL) ⟨fp,fun e=>(ep e).sub<|by rw[dl];intro x hx;simp[hx]⟩<|fun x hx=>bU x (by rw[dl];have hx:x∈dZ:=hx;simp[hx])).vT (j+3) hf (isF fr nJ _ (get<|l[i]!).vM) ⟨sY,fun e=>(ep e).sub<|by rw[dl];intro x hx;simp[hx]⟩<|fun x hx=>bU x (by rw[dl];have hx:x∈nJ:=hx;simp[hx])).vT (j+4) hf (isF fr QW _ (get<|l[i]!).qF) ⟨XO,fun e=>(ep e).sub<|by rw[dl];intro x hx;simp[hx]⟩<|fun x hx=>bU x (by rw[dl];have hx:x∈QW:=hx;simp[hx])).vT (j+5) hf (isF fr Q4 _ (get<|l[i]!).qG) ⟨Ve,fun e=>(ep e).sub<|by rw[dl];intro x hx;simp[hx]⟩<|fun x hx=>bU x (by rw[dl];have hx:x∈Q4:=hx;simp[hx]))
theorem St.jQ{α:Type}[qK α][Inhabited α]{get:α->zA}{put:α->zA->α}(S:Qs α zA q get put)(H:St W0 w ps Γ)(k:Nat)(hp:ps[k]? =some (.row (Sv (aa b 0) nn c) e sz nn xs))(j:Nat){l:List α}
 (hf:Γ[j]? =some (qQ fr F xs l)) (r7:qK.size α=sz) (i:Nat) (h1:i<nn) (hz:0<sz:=by decide):
 ∃(eI:yOA) (eJ:Nat) (Q4:yLN) (im:yOA) (ig:Nat) (QW:yLN) (AU:yOA) (Ak:Nat) (nJ:yLN) (iy:yOA) (iq:Nat) (dZ:yLN) (AJ:yOA) (A3:Nat) (nQ:yLN) (pC:yOA) (qb:Nat) (gG:yLN),(∀(r:Nat) (v:Value),([yI (get<|l[i]!).qP,Sv eI (get<|l[i]!).qG.length eJ,Sv im (get<|l[i]!).qF.length ig,Bv (get<|l[i]!).qV,Sv AU (get<|l[i]!).vM.length Ak,Sv iy (get<|l[i]!).qL.length iq,Sv AJ (get<|l[i]!).vX.length A3,Sv pC (get<|l[i]!).x8.length qb]:List Value)[r]? =some v->xs[i*sz+q+r]? =some v)/\St W0 w ps (isF fr Q4 (Sv eI (get<|l[i]!).qG.length eJ) (get<|l[i]!).qG::isF fr QW (Sv im (get<|l[i]!).qF.length ig) (get<|l[i]!).qF::isF fr nJ (Sv AU (get<|l[i]!).vM.length Ak) (get<|l[i]!).vM::isF fr dZ (Sv iy (get<|l[i]!).qL.length iq) (get<|l[i]!).qL::isF fr nQ (Sv AJ (get<|l[i]!).vX.length A3) (get<|l[i]!).vX::isF fr gG (Sv pC (get<|l[i]!).x8.length qb) (get<|l[i]!).x8::Γ):=by
 obtain⟨eI,eJ,Q4,im,ig,QW,AU,Ak,nJ,iy,iq,dZ,AJ,A3,nQ,pC,qb,gG,h1,_,h2⟩:=H.partS_DeskD S k hp j hf r7 i h1 hz
 exact⟨eI,eJ,Q4,im,ig,QW,AU,Ak,nJ,iy,iq,dZ,AJ,A3,nQ,pC,qb,gG,h1,h2⟩
theorem St.mk_DeskD(H:St W0 w ps Γ)(pe:Int)(uK:Nat){pK:yLN}{dH:Value}{zp:yLL}(Ve:Γ[uK]? =some (isF true pK dH zp))(BC:Nat){s9:yLN}{dT:Value}{Hn:yLI}(XO:Γ[BC]? =some (isF true s9 dT Hn))(Hw:Bool)(abN:Nat){R2:yLN}{tR:Value}{akF:List Bool}(sY:Γ[abN]? =some (isF true R2 tR akF))(z0:Nat){ti:yLN}{fR:Value}{FK:yLL}(fp:Γ[z0]? =some (isF true ti fR FK))(Zz:Nat){SG:yLN}{vh:Value}{agr:List yLL}(sZ:Γ[Zz]? =some (isF true SG vh agr))(KI:Nat){Gy:yLN}{m4:Value}{TK:List yLL}(mj:Γ[KI]? =some (isF true Gy m4 TK)):
 St W0 w ps (valF true (pK++s9++R2++ti++SG++Gy) [yI pe,dH,dT,Bv Hw,tR,fR,vh,m4] (⟨pe,zp,Hn,Hw,akF,FK,agr,TK⟩:zA)::Γ):=by
 refine H.add _ ⟨⟨dH,dT,tR,fR,vh,m4,pK,s9,R2,ti,SG,Gy,rfl,rfl,(H.get uK Ve).1,(H.get BC XO).1,(H.get abN sY).1,(H.get z0 fp).1,(H.get Zz sZ).1,(H.get KI mj).1⟩,fun e=>(((((((H.get uK Ve).2 e).app ((H.get BC XO).2 e)).app ((H.get abN sY).2 e)).app ((H.get z0 fp).2 e)).app ((H.get Zz sZ).2 e)).app ((H.get KI mj).2 e))⟩ fun b hb=>?_
 have h:b∈(pK++s9++R2++ti++SG++Gy):=hb
 simp only[List.mem_append] at h
 rcases h with (((((h|h)|h)|h)|h)|h)
 ·exact(H.facts _<|List.mem_of_getElem? Ve).2 b h
 ·exact(H.facts _<|List.mem_of_getElem? XO).2 b h
 ·exact(H.facts _<|List.mem_of_getElem? sY).2 b h
 ·exact(H.facts _<|List.mem_of_getElem? fp).2 b h
 ·exact(H.facts _<|List.mem_of_getElem? sZ).2 b h
 ·exact(H.facts _<|List.mem_of_getElem? mj).2 b h
theorem part_Server_DeskBags:Qs zu yLL 1 (fun x=>x.qC.qG) (fun x y=>{ x with qC:={ x.qC with qG:=y }}):=
 ⟨fun {w F cs x} h=>by
  obtain⟨bh,aD,bz,aK,bA,a6,aS,ay,a9,aw,a8,aT,aM,an,aZ,aq,aY,aF,av,ai,aJ,ah,aG,au,rfl,rfl,bv,aW,bK,aV,bN,bu,bf,aQ,bo,aP,bq,bg⟩:=h
  refine⟨[yI x.qC.qP],[bh],[aD,Bv x.qC.qV,bz,aK,bA,a6,yI x.qI.qP,aS,ay,Bv x.qI.qV,a9,aw,a8,aT],[],aM,(an++aZ++aq++aY++aF++av++ai++aJ++ah++aG++au),by simp,rfl,by simp,bv,fun w' F' c' y hs hr=>?_⟩
  obtain⟨a,c,rfl,_⟩:=id hr
  exact⟨_,aD,bz,aK,bA,a6,aS,ay,a9,aw,a8,aT,F',an,aZ,aq,aY,aF,av,ai,aJ,ah,aG,au,by simp,by simp,hr,qK.stay aW fun b hb=>hs b<|by simp[hb],qK.stay bK fun b hb=>hs b<|by simp[hb],qK.stay aV fun b hb=>hs b<|by simp[hb],qK.stay bN fun b hb=>hs b<|by simp[hb],qK.stay bu fun b hb=>hs b<|by simp[hb],qK.stay bf fun b hb=>hs b<|by simp[hb],qK.stay aQ fun b hb=>hs b<|by simp[hb],qK.stay bo fun b hb=>hs b<|by simp[hb],qK.stay aP fun b hb=>hs b<|by simp[hb],qK.stay bq fun b hb=>hs b<|by simp[hb],qK.stay bg fun b hb=>hs b<|by simp[hb]⟩⟩
theorem part_Server_DeskWorked:Qs zu Bool 3 (fun x=>x.qC.qV) (fun x y=>{ x with qC:={ x.qC with qV:=y }}):=
 ⟨fun {w F cs x} h=>by
  obtain⟨bh,aD,bz,aK,bA,a6,aS,ay,a9,aw,a8,aT,aM,an,aZ,aq,aY,aF,av,ai,aJ,ah,aG,au,rfl,rfl,bv,aW,bK,aV,bN,bu,bf,aQ,bo,aP,bq,bg⟩:=h
  refine⟨[yI x.qC.qP,bh,aD],[Bv x.qC.qV],[bz,aK,bA,a6,yI x.qI.qP,aS,ay,Bv x.qI.qV,a9,aw,a8,aT],(aM++an),[],(aZ++aq++aY++aF++av++ai++aJ++ah++aG++au),by simp,rfl,by simp,⟨rfl,rfl⟩,fun w' F' c' y hs hr=>?_⟩
  obtain⟨rfl,rfl⟩:=hr
  exact⟨bh,aD,bz,aK,bA,a6,aS,ay,a9,aw,a8,aT,aM,an,aZ,aq,aY,aF,av,ai,aJ,ah,aG,au,by simp,by simp,qK.stay bv fun b hb=>hs b<|by simp[hb],qK.stay aW fun b hb=>hs b<|by simp[hb],qK.stay bK fun b hb=>hs b<|by simp[hb],qK.stay aV fun b hb=>hs b<|by simp[hb],qK.stay bN fun b hb=>hs b<|by simp[hb],qK.stay bu fun b hb=>hs b<|by simp[hb],qK.stay bf fun b hb=>hs b<|by simp[hb],qK.stay aQ fun b hb=>hs b<|by simp[hb],qK.stay bo fun b hb=>hs b<|by simp[hb],qK.stay aP fun b hb=>hs b<|by simp[hb],qK.stay bq fun b hb=>hs b<|by simp[hb],qK.stay bg fun b hb=>hs b<|by simp[hb]⟩⟩
theorem Xz:Qs zu (List Bool) 4 (fun x=>x.qC.vM) (fun x y=>{ x with qC:={ x.qC with vM:=y }}):=
 ⟨fun {w F cs x} h=>by
  obtain⟨bh,aD,bz,aK,bA,a6,aS,ay,a9,aw,a8,aT,aM,an,aZ,aq,aY,aF,av,ai,aJ,ah,aG,au,rfl,rfl,bv,aW,bK,aV,bN,bu,bf,aQ,bo,aP,bq,bg⟩:=h
  refine⟨[yI x.qC.qP,bh,aD,Bv x.qC.qV],[bz],[aK,bA,a6,yI x.qI.qP,aS,ay,Bv x.qI.qV,a9,aw,a8,aT],(aM++an),aZ,(aq++aY++aF++av++ai++aJ++ah++aG++au),by simp,rfl,by simp,bK,fun w' F' c' y hs hr=>?_⟩
  obtain⟨a,c,rfl,_⟩:=id hr
  exact⟨bh,aD,_,aK,bA,a6,aS,ay,a9,aw,a8,aT,aM,an,F',aq,aY,aF,av,ai,aJ,ah,aG,au,by simp,by simp,qK.stay bv fun b hb=>hs b<|by simp[hb],qK.stay aW fun b hb=>hs b<|by simp[hb],hr,qK.stay aV fun b hb=>hs b<|by simp[hb],qK.stay bN fun b hb=>hs b<|by simp[hb],qK.stay bu fun b hb=>hs b<|by simp[hb],qK.stay bf fun b hb=>hs b<|by simp[hb],qK.stay aQ fun b hb=>hs b<|by simp[hb],qK.stay bo fun b hb=>hs b<|by simp[hb],qK.stay aP fun b hb=>hs b<|by simp[hb],qK.stay bq fun b hb=>hs b<|by simp[hb],qK.stay bg fun b hb=>hs b<|by simp[hb]⟩⟩
theorem XL:Qs zu yLL 5 (fun x=>x.qC.qL) (fun x y=>{ x with qC:={ x.qC with qL:=y }}):=
 ⟨fun {w F cs x} h=>by
  obtain⟨bh,aD,bz,aK,bA,a6,aS,ay,a9,aw,a8,aT,aM,an,aZ,aq,aY,aF,av,ai,aJ,ah,aG,au,rfl,rfl,bv,aW,bK,aV,bN,bu,bf,aQ,bo,aP,bq,bg⟩:=h
  refine⟨[yI x.qC.qP,bh,aD,Bv x.qC.qV,bz],[aK],[bA,a6,yI x.qI.qP,aS,ay,Bv x.qI.qV,a9,aw,a8,aT],(aM++an++aZ),aq,(aY++aF++av++ai++aJ++ah++aG++au),by simp,rfl,by simp,aV,fun w' F' c' y hs hr=>?_⟩
  obtain⟨a,c,rfl,_⟩:=id hr
  exact⟨bh,aD,bz,_,bA,a6,aS,ay,a9,aw,a8,aT,aM,an,aZ,F',aY,aF,av,ai,aJ,ah,aG,au,by simp,by simp,qK.stay bv fun b hb=>hs b<|by simp[hb],qK.stay aW fun b hb=>hs b<|by simp[hb],qK.stay bK fun b hb=>hs b<|by simp[hb],hr,qK.stay bN fun b hb=>hs b<|by simp[hb],qK.stay bu fun b hb=>hs b<|by simp[hb],qK.stay bf fun b hb=>hs b<|by simp[hb],qK.stay aQ fun b hb=>hs b<|by simp[hb],qK.stay bo fun b hb=>hs b<|by simp[hb],qK.stay aP fun b hb=>hs b<|by simp[hb],qK.stay bq fun b hb=>hs b<|by simp[hb],qK.stay bg fun b hb=>hs b<|by simp[hb]⟩⟩
theorem part_Server_DeskNow:Qs zu (List yLL) 6 (fun x=>x.qC.vX) (fun x y=>{ x with qC:={ x.qC with vX:=y }}):=
 ⟨fun {w F cs x} h=>by
  obtain⟨bh,aD,bz,aK,bA,a6,aS,ay,a9,aw,a8,aT,aM,an,aZ,aq,aY,aF,av,ai,aJ,ah,aG,au,rfl,rfl,bv,aW,bK,aV,bN,bu,bf,aQ,bo,aP,bq,bg⟩:=h
  refine⟨[yI x.qC.qP,bh,aD,Bv x.qC.qV,bz,aK],[bA],[a6,yI x.qI.qP,aS,ay,Bv x.qI.qV,a9,aw,a8,aT],(aM++an++aZ++aq),aY,(aF++av++ai++aJ++ah++aG++au),by simp,rfl,by simp,bN,fun w' F' c' y hs hr=>?_⟩
  obtain⟨a,c,rfl,_⟩:=id hr
  exact⟨bh,aD,bz,aK,_,a6,aS,ay,a9,aw,a8,aT,aM,an,aZ,aq,F',aF,av,ai,aJ,ah,aG,au,by simp,by simp,qK.stay bv fun b hb=>hs b<|by simp[hb],qK.stay aW fun b hb=>hs b<|by simp[hb],qK.stay bK fun b hb=>hs b<|by simp[hb],qK.stay aV fun b hb=>hs b<|by simp[hb],hr,qK.stay bu fun b hb=>hs b<|by simp[hb],qK.stay bf fun b hb=>hs b<|by simp[hb],qK.stay aQ fun b hb=>hs b<|by simp[hb],qK.stay bo fun b hb=>hs b<|by simp[hb],qK.stay aP fun b hb=>hs b<|by simp[hb],qK.stay bq fun b hb=>hs b<|by simp[hb],qK.stay bg fun b hb=>hs b<|by simp[hb]⟩⟩
theorem zC:Qs zu zA 0 (fun x=>x.qC) (fun x y=>{ x with qC:=y }):=
 ⟨fun {w F cs x} h=>by
  obtain⟨bh,aD,bz,aK,bA,a6,aS,ay,a9,aw,a8,aT,aM,an,aZ,aq,aY,aF,av,ai,aJ,ah,aG,au,rfl,rfl,bv,aW,bK,aV,bN,bu,bf,aQ,bo,aP,bq,bg⟩:=h
  refine⟨[],[yI x.qC.qP,bh,aD,Bv x.qC.qV,bz,aK,bA,a6],[yI x.qI.qP,aS,ay,Bv x.qI.qV,a9,aw,a8,aT],[],(aM++an++aZ++aq++aY++aF),(av++ai++aJ++ah++aG++au),by simp,rfl,by simp,⟨bh,aD,bz,aK,bA,a6,aM,an,aZ,aq,aY,aF,rfl,rfl,bv,aW,bK,aV,bN,bu⟩,fun w' F' c' y hs hr=>?_⟩
  obtain⟨Jw,CY,N8,C2,LC,Ik,iB,fH,kN,fD,li,iK,rfl,rfl,JD,DO,KO,Dd,On,JK⟩:=hr
  exact⟨Jw,CY,N8,C2,LC,Ik,aS,ay,a9,aw,a8,aT,iB,fH,kN,fD,li,iK,av,ai,aJ,ah,aG,au,by simp,by simp,JD,DO,KO,Dd,On,JK,qK.stay bf fun b hb=>hs b<|by simp[hb],qK.stay aQ fun b hb=>hs b<|by simp[hb],qK.stay bo fun b hb=>hs b<|by simp[hb],qK.stay aP fun b hb=>hs b<|by simp[hb],qK.stay bq fun b hb=>hs b<|by simp[hb],qK.stay bg fun b hb=>hs b<|by simp[hb]⟩⟩
theorem Qh:Qs zu zA 8 (fun x=>x.qI) (fun x y=>{ x with qI:=y }):=
 ⟨fun {w F cs x} h=>by
  obtain⟨bh,aD,bz,aK,bA,a6,aS,ay,a9,aw,a8,aT,aM,an,aZ,aq,aY,aF,av,ai,aJ,ah,aG,au,rfl,rfl,bv,aW,bK,aV,bN,bu,bf,aQ,bo,aP,bq,bg⟩:=h
  refine⟨[yI x.qC.qP,bh,aD,Bv x.qC.qV,bz,aK,bA,a6],[yI x.qI.qP,aS,ay,Bv x.qI.qV,a9,aw,a8,aT],[],(aM++an++aZ++aq++aY++aF),(av++ai++aJ++ah++aG++au),[],by simp,rfl,by simp,⟨aS,ay,a9,aw,a8,aT,av,ai,aJ,ah,aG,au,rfl,rfl,bf,aQ,bo,aP,bq,bg⟩,fun w' F' c' y hs hr=>?_⟩
  obtain⟨Fg,Ae,JR,BE,JE,Ej,fY,eZ,iH,eU,iG,f3,rfl,rfl,Ei,Bx,Ip,AI,I7,ER⟩:=hr
  exact⟨bh,aD,bz,aK,bA,a6,Fg,Ae,JR,BE,JE,Ej,aM,an,aZ,aq,aY,aF,fY,eZ,iH,eU,iG,f3,by simp,by simp,qK.stay bv fun b hb=>hs b<|by simp[hb],qK.stay aW fun b hb=>hs b<|by simp[hb],qK.stay bK fun b hb=>hs b<|by simp[hb],qK.stay aV fun b hb=>hs b<|by simp[hb],qK.stay bN fun b hb=>hs b<|by simp[hb],qK.stay bu fun b hb=>hs b<|by simp[hb],Ei,Bx,Ip,AI,I7,ER⟩⟩
theorem St.partS_ServerD{α:Type}[qK α][Inhabited α]{get:α->zu}{put:α->zu->α}(S:Qs α zu q get put)(H:St W0 w ps Γ)(k:Nat)(hp:ps[k]? =some (.row (Sv (aa b 0) nn c) e sz nn xs))(j:Nat){l:List α}
 (hf:Γ[j]? =some (qQ fr F xs l)) (r7:qK.size α=sz) (i:Nat) (h1:i<nn) (hz:0<sz:=by decide):
 ∃(dA:yOA) (dr:Nat) (aM:yLN) (cG:yOA) (cK:Nat) (an:yLN) (dU:yOA) (dW:Nat) (aZ:yLN) (cV:yOA) (cJ:Nat) (aq:yLN) (dX:yOA) (dY:Nat) (aY:yLN) (dx:yOA) (dy:Nat) (aF:yLN) (da:yOA) (c9:Nat) (av:yLN) (cq:yOA) (cg:Nat) (ai:yLN) (dv:yOA) (du:Nat) (aJ:yLN) (cj:yOA) (cv:Nat) (ah:yLN) (dt:yOA) (dz:Nat) (aG:yLN) (dc:yOA) (db:Nat) (au:yLN),(∀(r:Nat) (v:Value),([yI (get<|l[i]!).qC.qP,Sv dA (get<|l[i]!).qC.qG.length dr,Sv cG (get<|l[i]!).qC.qF.length cK,Bv (get<|l[i]!).qC.qV,Sv dU (get<|l[i]!).qC.vM.length dW,Sv cV (get<|l[i]!).qC.qL.length cJ,Sv dX (get<|l[i]!).qC.vX.length dY,Sv dx (get<|l[i]!).qC.x8.length dy,yI (get<|l[i]!).qI.qP,Sv da (get<|l[i]!).qI.qG.length c9,Sv cq (get<|l[i]!).qI.qF.length cg,Bv (get<|l[i]!).qI.qV,Sv dv (get<|l[i]!).qI.vM.length du,Sv cj (get<|l[i]!).qI.qL.length cv,Sv dt (get<|l[i]!).qI.vX.length dz,Sv dc (get<|l[i]!).qI.x8.length db]:List Value)[r]? =some v->xs[i*sz+q+r]? =some v)/\(∀G∈[aM,an,aZ,aq,aY,aF,av,ai,aJ,ah,aG,au],∀x∈G,x∈F)/\St W0 w ps (isF fr aM (Sv dA (get<|l[i]!).qC.qG.length dr) (get<|l[i]!).qC.qG::isF fr an (Sv cG (get<|l[i]!).qC.qF.length cK) (get<|l[i]!).qC.qF::isF fr aZ (Sv dU (get<|l[i]!).qC.vM.length dW) (get<|l[i]!).qC.vM::isF fr aq (Sv cV (get<|l[i]!).qC.qL.length cJ) (get<|l[i]!).qC.qL::isF fr aY (Sv dX (get<|l[i]!).qC.vX.length dY) (get<|l[i]!).qC.vX::isF fr aF (Sv dx (get<|l[i]!).qC.x8.length dy) (get<|l[i]!).qC.x8::isF fr av (Sv da (get<|l[i]!).qI.qG.length c9) (get<|l[i]!).qI.qG::isF fr ai (Sv cq (get<|l[i]!).qI.qF.length cg) (get<|l[i]!).qI.qF::isF fr aJ (Sv dv (get<|l[i]!).qI.vM.length du) (get<|l[i]!).qI.vM::isF fr ah (Sv cj (get<|l[i]!).qI.qL.length cv) (get<|l[i]!).qI.qL::isF fr aG (Sv dt (get<|l[i]!).qI.vX.length dz) (get<|l[i]!).qI.vX::isF fr au (Sv dc (get<|l[i]!).qI.x8.length db) (get<|l[i]!).qI.x8::Γ):=by
 subst r7
 have hn:nn=l.length:=H.xk (α:=α) k hp j hf hz
 obtain⟨c1,cm,c2,F1,Fm,F2,ZU,hl,hF,hr,_⟩:=S.el (H.get j hf).1 i qf
 have bU:∀x∈Fm,x∈F:=fun x hx=>by rw[hF];simp[hx]
 have ep:fr=true->jS w Fm:=fun e=>((H.get j hf).2 e).sub bU
 obtain⟨bh,aD,bz,aK,bA,a6,aS,ay,a9,aw,a8,aT,aM,an,aZ,aq,aY,aF,av,ai,aJ,ah,aG,au,rfl,dl,bv,aW,bK,aV,bN,bu,bf,aQ,bo,aP,bq,bg⟩:=id hr
 obtain⟨dA,dr,rfl⟩:=slice_form bv
 obtain⟨cG,cK,rfl⟩:=slice_form aW
 obtain⟨dU,dW,rfl⟩:=slice_form bK
 obtain⟨cV,cJ,rfl⟩:=slice_form aV
 obtain⟨dX,dY,rfl⟩:=slice_form bN
 obtain⟨dx,dy,rfl⟩:=slice_form bu
 obtain⟨da,c9,rfl⟩:=slice_form bf
 obtain⟨cq,cg,rfl⟩:=slice_form aQ
 obtain⟨dv,du,rfl⟩:=slice_form bo
 obtain⟨cj,cv,rfl⟩:=slice_form aP
 obtain⟨dt,dz,rfl⟩:=slice_form bq
 obtain⟨dc,db,rfl⟩:=slice_form bg
 refine⟨dA,dr,aM,cG,cK,an,dU,dW,aZ,cV,cJ,aq,dX,dY,aY,dx,dy,aF,da,c9,av,cq,cg,ai,dv,du,aJ,cj,cv,ah,dt,dz,aG,dc,db,au,fun r v hv=>?_,fun G hG x hx=>?_,?_⟩
 ·have oe:=(List.getElem?_eq_some_iff.1 hv).1
  rw[ZU,←hl,List.append_assoc,List.getElem?_append_right qf,Nat.add_sub_cancel_left,List.getElem?_append_left oe]
  exact hv
 ·refine bU x ?_
  rw[dl]
  simp only[List.mem_cons,List.not_mem_nil,or_false] at hG
  simp only[List.mem_append]
  rcases hG with rfl|rfl|rfl|rfl|rfl|rfl|rfl|rfl|rfl|rfl|rfl|rfl <;> simp[hx]
 ·exact((((((((((((H.vT (j+0) hf (isF fr au _ (get<|l[i]!).qI.x8) ⟨bg,fun e=>(ep e).sub<|by rw[dl];intro x hx;simp[hx]⟩<|fun x hx=>bU x (by rw[dl];have hx:x∈au:=hx;simp[hx])).vT (j+1) hf (isF fr aG _ (get<|l[i]!).qI.vX) ⟨bq,fun e=>(ep e).sub<|by rw[dl];intro x hx;simp[hx]⟩<|fun x hx=>bU x (by rw[dl];have hx:x∈aG:=hx;simp[hx])).vT (j+2) hf (isF fr ah _ (get<|l[i]!).qI.qL) ⟨aP,fun e=>(ep e).sub<|by rw[dl];intro x hx;simp[hx]⟩<|fun x hx=>bU x (by rw[dl];have hx:x∈ah:=hx;simp[hx])).vT (j+3) hf (isF fr aJ _ (get<|l[i]!).qI.vM) ⟨bo,fun e=>(ep e).sub<|by rw[dl];intro x hx;simp[hx]⟩<|fun x hx=>bU x (by rw[dl];have hx:x∈aJ:=hx;simp[hx])).vT (j+4) hf (isF fr ai _ (get<|l[i]!).qI.qF) ⟨aQ,fun e=>(ep e).sub<|by rw[dl];intro x hx;simp[hx]⟩<|fun x hx=>bU x (by rw[dl];have hx:x∈ai:=hx;simp[hx])).vT (j+5) hf (isF fr av _ (get<|l[i]!).qI.qG) ⟨bf,fun e=>(ep e).sub<|by rw[dl];intro x hx;simp[hx]⟩<|fun x hx=>bU x (by rw[dl];have hx:x∈av:=hx;simp[hx])).vT (j+6) hf (isF fr aF _ (get<|l[i]!).qC.x8) ⟨bu,fun e=>(ep e).sub<|by rw[dl];intro x hx;simp[hx]⟩<|fun x hx=>bU x (by rw[dl];have hx:x∈aF:=hx;simp[hx])).vT (j+7) hf (isF fr aY _ (get<|l[i]!).qC.vX) ⟨bN,fun e=>(ep e).sub<|by rw[dl];intro x hx;simp[hx]⟩<|fun x hx=>bU x (by rw[dl];have hx:x∈aY:=hx;simp[hx])).vT (j+8) hf (isF fr aq _ (get<|l[i]!).qC.qL) ⟨aV,fun e=>(ep e).sub<|by rw[dl];intro x hx;simp[hx]⟩<|fun x hx=>bU x (by rw[dl];have hx:x∈aq:=hx;simp[hx])).vT (j+9) hf (isF fr aZ _ (get<|l[i]!).qC.vM) ⟨bK,fun e=>(ep e).sub<|by rw[dl];intro x hx;simp[hx]⟩<|fun x hx=>bU x (by rw[dl];have hx:x∈aZ:=hx;simp[hx])).vT (j+10) hf (isF fr an _ (get<|l[i]!).qC.qF) ⟨aW,fun e=>(ep e).sub<|by rw[dl];intro x hx;simp[hx]⟩<|fun x hx=>bU x (by rw[dl];have hx:x∈an:=hx;simp[hx])).vT (j+11) hf (isF fr aM _ (get<|l[i]!).qC.qG) ⟨bv,fun e=>(ep e).sub<|by rw[dl];intro x hx;simp[hx]⟩<|fun x hx=>bU x (by rw[dl];have hx:x∈aM:=hx;simp[hx]))
theorem St.part_ServerD{α:Type}[qK α][Inhabited α]{get:α->zu}{put:α->zu->α}(S:Qs α zu q get put)(H:St W0 w ps Γ)(k:Nat)(hp:ps[k]? =some (.row (Sv (aa b 0) nn c) e sz nn xs))(j:Nat){l:List α}
 (hf:Γ[j]? =some (qQ fr F xs l)) (r7:qK.size α=sz) (i:Nat) (h1:i<nn) (hz:0<sz:=by decide):
 ∃(dA:yOA) (dr:Nat) (aM:yLN) (cG:yOA) (cK:Nat) (an:yLN) (dU:yOA) (dW:Nat) (aZ:yLN) (cV:yOA) (cJ:Nat) (aq:yLN) (dX:yOA) (dY:Nat) (aY:yLN) (dx:yOA) (dy:Nat) (aF:yLN) (da:yOA) (c9:Nat) (av:yLN) (cq:yOA) (cg:Nat) (ai:yLN) (dv:yOA) (du:Nat) (aJ:yLN) (cj:yOA) (cv:Nat) (ah:yLN) (dt:yOA) (dz:Nat) (aG:yLN) (dc:yOA) (db:Nat) (au:yLN),(∀(r:Nat) (v:Value),([yI (get<|l[i]!).qC.qP,Sv dA (get<|l[i]!).qC.qG.length dr,Sv cG (get<|l[i]!).qC.qF.length cK,Bv (get<|l[i]!).qC.qV,Sv dU (get<|l[i]!).qC.vM.length dW,Sv cV (get<|l[i]!).qC.qL.length cJ,Sv dX (get<|l[i]!).qC.vX.length dY,Sv dx (get<|l[i]!).qC.x8.length dy,yI (get<|l[i]!).qI.qP,Sv da (get<|l[i]!).qI.qG.length c9,Sv cq (get<|l[i]!).qI.qF.length cg,Bv (get<|l[i]!).qI.qV,Sv dv (get<|l[i]!).qI.vM.length du,Sv cj (get<|l[i]!).qI.qL.length cv,Sv dt (get<|l[i]!).qI.vX.length dz,Sv dc (get<|l[i]!).qI.x8.length db]:List Value)[r]? =some v->xs[i*sz+q+r]? =some v)/\St W0 w ps (isF fr aM (Sv dA (get<|l[i]!).qC.qG.length dr) (get<|l[i]!).qC.qG::isF fr an (Sv cG (get<|l[i]!).qC.qF.length cK) (get<|l[i]!).qC.qF::isF fr aZ (Sv dU (get<|l[i]!).qC.vM.length dW) (get<|l[i]!).qC.vM::isF fr aq (Sv cV (get<|l[i]!).qC.qL.length cJ) (get<|l[i]!).qC.qL::isF fr aY (Sv dX (get<|l[i]!).qC.vX.length dY) (get<|l[i]!).qC.vX::isF fr aF (Sv dx (get<|l[i]!).qC.x8.length dy) (get<|l[i]!).qC.x8::isF fr av (Sv da (get<|l[i]!).qI.qG.length c9) (get<|l[i]!).qI.qG::isF fr ai (Sv cq (get<|l[i]!).qI.qF.length cg) (get<|l[i]!).qI.qF::isF fr aJ (Sv dv (get<|l[i]!).qI.vM.length du) (get<|l[i]!).qI.vM::isF fr ah (Sv cj (get<|l[i]!).qI.qL.length cv) (get<|l[i]!).qI.qL::isF fr aG (Sv dt (get<|l[i]!).qI.vX.length dz) (get<|l[i]!).qI.vX::isF fr au (Sv dc (get<|l[i]!).qI.x8.length db) (get<|l[i]!).qI.x8::Γ):=by
 obtain⟨dA,dr,aM,cG,cK,an,dU,dW,aZ,cV,cJ,aq,dX,dY,aY,dx,dy,aF,da,c9,av,cq,cg,ai,dv,du,aJ,cj,cv,ah,dt,dz,aG,dc,db,au,h1,_,h2⟩:=H.partS_ServerD S k hp j hf r7 i h1 hz
 exact⟨dA,dr,aM,cG,cK,an,dU,dW,aZ,cV,cJ,aq,dX,dY,aY,dx,dy,aF,da,c9,av,cq,cg,ai,dv,du,aJ,cj,cv,ah,dt,dz,aG,dc,db,au,h1,h2⟩
theorem St.partS_ParcelD{α:Type}[qK α][Inhabited α]{get:α->zk}{put:α->zk->α}(S:Qs α zk q get put)(H:St W0 w ps Γ)(k:Nat)(hp:ps[k]? =some (.row (Sv (aa b 0) nn c) e sz nn xs))(j:Nat){l:List α}
 (hf:Γ[j]? =some (qQ fr F xs l)) (r7:qK.size α=sz) (i:Nat) (h1:i<nn) (hz:0<sz:=by decide):
 ∃(eI:yOA) (eJ:Nat) (Q4:yLN),(∀(r:Nat) (v:Value),([yI (get<|l[i]!).qP,yI (get<|l[i]!).QO,yI (get<|l[i]!).fTo,Sv eI (get<|l[i]!).qG.length eJ]:List Value)[r]? =some v->xs[i*sz+q+r]? =some v)/\(∀G∈[Q4],∀x∈G,x∈F)/\St W0 w ps (isF fr Q4 (Sv eI (get<|l[i]!).qG.length eJ) (get<|l[i]!).qG::Γ):=by
 subst r7
 have hn:nn=l.length:=H.xk (α:=α) k hp j hf hz
 obtain⟨c1,cm,c2,F1,Fm,F2,ZU,hl,hF,hr,_⟩:=S.el (H.get j hf).1 i qf
 have bU:∀x∈Fm,x∈F:=fun x hx=>by rw[hF];simp[hx]
 have ep:fr=true->jS w Fm:=fun e=>((H.get j hf).2 e).sub bU
 obtain⟨dH,Q4,rfl,dl,Ve⟩:=id hr
 obtain⟨eI,eJ,rfl⟩:=slice_form Ve
 refine⟨eI,eJ,Q4,fun r v hv=>?_,fun G hG x hx=>?_,?_⟩
 ·have oe:=(List.getElem?_eq_some_iff.1 hv).1
  rw[ZU,←hl,List.append_assoc,List.getElem?_append_right qf,Nat.add_sub_cancel_left,List.getElem?_append_left oe]
  exact hv
 ·refine bU x ?_
  rw[dl]
  simp only[List.mem_cons,List.not_mem_nil,or_false] at hG
  rcases hG with rfl <;> simp[hx]
 ·exact(H.vT (j+0) hf (isF fr Q4 _ (get<|l[i]!).qG) ⟨Ve,fun e=>(ep e).sub<|by rw[dl];intro x hx;simp[hx]⟩<|fun x hx=>bU x (by rw[dl];have hx:x∈Q4:=hx;simp[hx]))
theorem St.part_ParcelD{α:Type}[qK α][Inhabited α]{get:α->zk}{put:α->zk->α}(S:Qs α zk q get put)(H:St W0 w ps Γ)(k:Nat)(hp:ps[k]? =some (.row (Sv (aa b 0) nn c) e sz nn xs))(j:Nat){l:List α}
 (hf:Γ[j]? =some (qQ fr F xs l)) (r7:qK.size α=sz) (i:Nat) (h1:i<nn) (hz:0<sz:=by decide):
 ∃(eI:yOA) (eJ:Nat) (Q4:yLN),(∀(r:Nat) (v:Value),([yI (get<|l[i]!).qP,yI (get<|l[i]!).QO,yI (get<|l[i]!).fTo,Sv eI (get<|l[i]!).qG.length eJ]:List Value)[r]? =some v->xs[i*sz+q+r]? =some v)/\St W0 w ps (isF fr Q4 (Sv eI (get<|l[i]!).qG.length eJ) (get<|l[i]!).qG::Γ):=by
 obtain⟨eI,eJ,Q4,h1,_,h2⟩:=H.partS_ParcelD S k hp j hf r7 i h1 hz
 exact⟨eI,eJ,Q4,h1,h2⟩
end
section
theorem dNext_ok(ag:List UInt8)(ip:Int)(sd:Int)(bs:Nat)(ac:yOA)(cc:Nat)(Fc:yLN)(H:St W0 w ((.box bs [Sv ac ag.length cc,yI ip,.int .u64 sd] 116)::ps) ((sF false Fc ac cc ag)::Γ))(N:Fresh W0.heap.size (Ns))(K0:Kept Ns Γ)(q0:0<=ip/\ip<=100000):Calls Tryz.prog 100 #[pp bs 0] w (fun e w'=>∃v,e=.returned v/\∃(lQ:Int) (Ar:Int) (v_:Int),(ip<=lQ/\lQ<=ip+1)/\(0<=v_/\v_<=255)/\v=yI v_/\Fresh W0.heap.size (Ns)/\St W0 w' ((.box bs [Sv ac ag.length cc,yI lQ,.int .u64 Ar] 116)::ps) ((sF false Fc ac cc ag)::Γ)):=by
 refine en func100 ntmps100 ?_
 have aCl:=qM (H.get 0 rfl).1
 refine zcr<|sp (yI 0)<|zjc<|sp (yI 0)<|zjn<|xM<|xM<|c_drawK2 rfl H [0] [0] fun H=>?_
 have S:=H.zW [0] [0]
 refine rtl 0 S ?_
 refine rtl 1 S ?_
 refine tF 2 rfl rfl S ?_
 refine tL 3 rfl rfl (fun _ h=>h.cell 0 rfl rfl) S ?_
 refine rtl 4 S ?_
 refine rtl 5 S ?_
 refine tF 6 rfl rfl S ?_
 refine tL 7 rfl rfl (fun _ h=>h.cell 0 rfl rfl) S ?_
 refine tN 8 rfl rfl S ?_
 refine rtl 9 S ?_
 refine xy qh<|t_n<|cD rfl (fun h2=>?_)<|fun h2=>?_
 ·refine c_drawK2 rfl H [0] [0] fun H=>?_
  have S:=H.zW [0] [0]
  refine rtl 0 S ?_
  refine rtl 1 S ?_
  refine tF 2 rfl rfl S ?_
  refine tL 3 rfl rfl (fun _ h=>h.cell 0 rfl rfl) S ?_
  refine rtl 4 S ?_
  refine rtl 5 S ?_
  refine tF 6 rfl rfl S ?_
  refine tL 7 rfl rfl (fun _ h=>h.cell 0 rfl rfl) S ?_
  obtain⟨b4,o5,rfl⟩:=H.addr 0 rfl qf
  refine tI 8 rfl rfl rfl (H.pick [0] [0])<|ro 9 rfl ?_
  have hb7:=byte_lt<|ag[ip.toNat]!
  refine zJ (.int .u8 (((ag[ip.toNat]!).toNat:Nat):Int)) isAgg5 rfl (H.elemByte 0 rfl ip ip.toNat qf qf qf)<|⟨H.pick [0] [0],(ro 10 rfl<|o_convI (((ag[ip.toNat]!).toNat:Nat):Int) underlying5 underlying3 rfl qf<|⟨H.pick [0] [0],(rtl 11 (H.pick [0] [0]) ?_)⟩)⟩
  refine xy qh<|t_n<|zcr<|sq 2<|oF rfl<|oL rfl (H.cell 0 rfl rfl)<|sw<|zS ip 1 rfl rfl qf<|sq 1<|oF rfl<|sw<|zh H 0 [Sv (aa b4 o5) ag.length cc,yI<|ip+1,.int .u64 sd] sizeOf3 fun w8 H=>?_
  dsimp only[List.set] at H
  refine zjc<|sq 3<|oF rfl<|oL rfl (H.cell 0 rfl rfl)<|sw<|o_mulU sd 6364136223846793005 rfl rfl fun r9=>sq 1<|sw<|o_convU (((ag[ip.toNat]!).toNat:Nat):Int) underlying3 underlying114 rfl fun r10=>sw<|o_addU r9 r10 rfl rfl fun r11=>sw<|o_addU r11 1442695040888963407 rfl rfl fun r12=>sq 1<|oF rfl<|sw<|zh H 0 [Sv (aa b4 o5) ag.length cc,yI<|ip+1,.int .u64 r12] sizeOf114 fun Dv H=>?_
  dsimp only[List.set] at H
  refine zjn<|xM<|xM<|c_drawK2 rfl H [0] [0] fun H=>?_
  have S:=H.zW [0] [0]
  refine rtl 0 S ?_
  refine rtl 1 S ?_
  refine tF 2 rfl rfl S ?_
  refine tL 3 rfl rfl (fun _ h=>h.cell 0 rfl rfl) S ?_
  refine rtl 4 S ?_
  refine rtl 5 S ?_
  refine tF 6 rfl rfl S ?_
  refine tL 7 rfl rfl (fun _ h=>h.cell 0 rfl rfl) S ?_
  refine tN 8 rfl rfl S ?_
  refine rtl 9 S ?_
  refine xy qh<|t_n<|cD rfl (fun rV=>?_)<|fun rV=>?_
  ·refine zcr<|sq 2<|zjr<|t_r<|ret1 (yI (((ag[ip.toNat]!).toNat:Nat):Int)) rfl rfl ⟨_,rfl,(⟨ip+1,r12,(((ag[ip.toNat]!).toNat:Nat):Int),qf,qf,rfl,N,H.xm 1 1 [0] [0] (by simp only[List.length_cons,List.length_append];omega)<|by simp only[List.length_cons,List.length_append];omega⟩)⟩
  refine qW<|t_n<|zcr<|sq 2<|oF rfl<|oL rfl (H.cell 0 rfl rfl)<|sw<|o_shrU r12 40 qj rfl rfl fun r16=>sw<|o_andU r16 rfl rfl fun r17 aDi=>sw<|o_convI r17 underlying114 underlying2 rfl qf<|sq 1<|zjr<|ret1 (yI r17) rfl rfl ⟨_,rfl,(⟨ip+1,r12,r17,qf,qf,rfl,N,H.xm 1 1 [0] [0] (by simp only[List.length_cons,List.length_append];omega)<|by simp only[List.length_cons,List.length_append];omega⟩)⟩
 refine qW<|t_n<|zcr<|sq 2<|oF rfl<|oL rfl (H.cell 0 rfl rfl)<|sw<|zS ip 1 rfl rfl qf<|sq 1<|oF rfl<|sw<|zh H 0 [Sv ac ag.length cc,yI<|ip+1,.int .u64 sd] sizeOf3 fun ZR H=>?_
 dsimp only[List.set] at H
 refine zjc<|sq 3<|oF rfl<|oL rfl (H.cell 0 rfl rfl)<|sw<|o_mulU sd 6364136223846793005 rfl rfl fun r19=>sp (yI 0)<|sw<|o_convU 0 underlying3 underlying114 rfl fun r20=>sw<|o_addU r19 r20 rfl rfl fun r21=>sw<|o_addU r21 1442695040888963407 rfl rfl fun r22=>sq 1<|oF rfl<|sw<|zh H 0 [Sv ac ag.length cc,yI<|ip+1,.int .u64 r22] sizeOf114 fun Kf H=>?_
 dsimp only[List.set] at H
 refine zjn<|xM<|xM<|c_drawK2 rfl H [0] [0] fun H=>?_
 have S:=H.zW [0] [0]
 refine rtl 0 S ?_
 refine rtl 1 S ?_
 refine tF 2 rfl rfl S ?_
 refine tL 3 rfl rfl (fun _ h=>h.cell 0 rfl rfl) S ?_
 refine rtl 4 S ?_
 refine rtl 5 S ?_
 refine tF 6 rfl rfl S ?_
 refine tL 7 rfl rfl (fun _ h=>h.cell 0 rfl rfl) S ?_
 refine tN 8 rfl rfl S ?_
 refine rtl 9 S ?_
 refine xy qh<|t_n<|cD rfl (fun h25=>?_)<|fun h25=>?_
 ·refine zcr<|sp (yI 0)<|sp (yI 0)<|zjr<|t_r<|ret1 (yI 0) rfl rfl ⟨_,rfl,(⟨ip+1,r22,0,qf,qf,rfl,N,H.xm 1 1 [0] [0] (by simp only[List.length_cons,List.length_append];omega)<|by simp only[List.length_cons,List.length_append];omega⟩)⟩
 refine qW<|t_n<|zcr<|sq 2<|oF rfl<|oL rfl (H.cell 0 rfl rfl)<|sw<|o_shrU r22 40 qj rfl rfl fun r26=>sw<|o_andU r26 rfl rfl fun r27 aIs=>sw<|o_convI r27 underlying114 underlying2 rfl qf<|sq 1<|zjr<|ret1 (yI r27) rfl rfl ⟨_,rfl,(⟨ip+1,r22,r27,qf,qf,rfl,N,H.xm 1 1 [0] [0] (by simp only[List.length_cons,List.length_append];omega)<|by simp only[List.length_cons,List.length_append];omega⟩)⟩
theorem yR(ag:List UInt8)(ip:Int)(sd:Int)(bs:Nat)(ac:yOA)(cc:Nat)(Fc:yLN)(nn:Int)(H:St W0 w ((.box bs [Sv ac ag.length cc,yI ip,.int .u64 sd] 116)::ps) ((sF false Fc ac cc ag)::Γ))(N:Fresh W0.heap.size (Ns))(K0:Kept Ns Γ)(q0:0<=ip/\ip<=90000):Calls Tryz.prog 59 #[pp bs 0,yI nn] w (fun e w'=>∃v,e=.returned v/\∃(lQ:Int) (Ar:Int) (v_:Int),(ip<=lQ/\lQ<=ip+2)/\(0<=v_/\(v_<nn\/v_=0))/\v=yI v_/\Fresh W0.heap.size (Ns)/\St W0 w' ((.box bs [Sv ac ag.length cc,yI lQ,.int .u64 Ar] 116)::ps) ((sF false Fc ac cc ag)::Γ)):=by
 refine en func59 ntmps59 ?_
 refine zcr<|sp (yI 0)<|zjcc<|sp (yI nn)<|sp (Bv<|decide ((nn:Int)<=1))<|zjn<|cD rfl (fun h1=>?_)<|fun h1=>?_
 ·refine zcr<|sp (yI 0)<|zjr<|t_r<|ret1 (yI 0) rfl rfl ⟨_,rfl,(⟨ip,sd,0,qf,(by omega),rfl,N,H.xm 1 1 [0] [0] (by simp only[List.length_cons,List.length_append];omega)<|by simp only[List.length_cons,List.length_append];omega⟩)⟩
 refine qW<|t_n<|zcr<|sq 1 ?_
 have H1:=H.yt 1 1 [0] [0] (by simp only[List.length_cons,List.length_append];omega)<|by simp only[List.length_cons,List.length_append];omega
 have N1:Fresh _ (Ns):=N
 have K1:Kept (Ns) (Γ):=K0.behind 0 rfl
 refine sw<|zD #[pp bs 0] rfl rfl call100 (dNext_ok ag ip sd bs ac cc Fc H1 N1 K1 qg) ?_
 clear H H1 N1 K1
 rintro _ w2 ⟨zi6,JU,FZ,hx4,hx5,rfl,N,H⟩
 refine sq 1<|zjcc<|sp (yI nn)<|sp (Bv<|decide ((nn:Int)>200))<|zjn<|cD rfl (fun h9=>?_)<|fun h9=>?_
 ·refine xX (sq 1<|sw<|o_mul FZ 256 rfl rfl qf<|sq 1 ?_)
  have H1:=H.yt 1 1 [0] [0] (by simp only[List.length_cons,List.length_append];omega)<|by simp only[List.length_cons,List.length_append];omega
  have N1:Fresh _ (Ns):=N
  have K1:Kept (Ns) (Γ):=K0.behind 0 rfl
  refine sw<|zD #[pp bs 0] rfl rfl call100 (dNext_ok ag zi6 JU bs ac cc Fc H1 N1 K1 qg) ?_
  clear H H1 N1 K1
  rintro _ sI ⟨awW,wU,gB,axj,Dp,rfl,N,H⟩
  refine sw<|zS (FZ*256) gB rfl rfl qf<|sq 1<|zjc<|sq 1<|sp (yI nn)<|sw<|o_rem ((FZ*256)+gB) nn rfl rfl qf qf qf<|sq 1<|zjr<|ret1 (yI (((FZ*256)+gB) % nn)) rfl rfl ⟨_,rfl,?_⟩
  have hm:=fun(x:Int)=>Int.emod_nonneg x<|show nn≠0 by omega
  have hm2:=fun(x:Int)=>Int.emod_lt_of_pos x<|show 0<nn by omega
  exact⟨awW,wU,((FZ*256)+gB) % nn,qf,(by exact⟨hm _,.inl<|hm2 _⟩),rfl,N,H.xm 1 1 [0] [0] (by simp only[List.length_cons,List.length_append];omega)<|by simp only[List.length_cons,List.length_append];omega⟩
 refine qW<|t_n<|zcr<|sq 1<|sp (yI nn)<|sw<|o_rem FZ nn rfl rfl qf qf qf<|sq 1<|zjr<|ret1 (yI<|FZ % nn) rfl rfl ⟨_,rfl,?_⟩
 have hm:=fun(x:Int)=>Int.emod_nonneg x<|show nn≠0 by omega
 have hm2:=fun(x:Int)=>Int.emod_lt_of_pos x<|show 0<nn by omega
 exact⟨zi6,JU,FZ % nn,qf,(by exact⟨hm _,.inl<|hm2 _⟩),rfl,N,H.xm 1 1 [0] [0] (by simp only[List.length_cons,List.length_append];omega)<|by simp only[List.length_cons,List.length_append];omega⟩
theorem dOne_ok(ag:List UInt8)(ip:Int)(sd:Int)(bs:Nat)(ac:yOA)(cc:Nat)(Fc:yLN)(nn:Int)(H:St W0 w ((.box bs [Sv ac ag.length cc,yI ip,.int .u64 sd] 116)::ps) ((sF false Fc ac cc ag)::Γ))(N:Fresh W0.heap.size (Ns))(K0:Kept Ns Γ)(q0:0<=ip/\ip<=90000):Calls Tryz.prog 58 #[pp bs 0,yI nn] w (fun e w'=>∃v,e=.returned v/\∃(lQ:Int) (Ar:Int) (v_:Bool),(ip<=lQ/\lQ<=ip+2)/\v=Bv v_/\Fresh W0.heap.size (Ns)/\St W0 w' ((.box bs [Sv ac ag.length cc,yI lQ,.int .u64 Ar] 116)::ps) ((sF false Fc ac cc ag)::Γ)):=by
 refine en func58 ntmps58 ?_
 refine zcr<|sp (Bv false)<|zjc<|sq 1<|sp (yI nn) ?_
 have H1:=H.yt 1 1 [0] [0] (by simp only[List.length_cons,List.length_append];omega)<|by simp only[List.length_cons,List.length_append];omega
 have N1:Fresh _ (Ns):=N
 have K1:Kept (Ns) (Γ):=K0.behind 0 rfl
 refine sw<|zD #[pp bs 0,yI nn] rfl rfl call59 (yR ag ip sd bs ac cc Fc nn H1 N1 K1 qg) ?_
 clear H H1 N1 K1
 rintro _ w1 ⟨PM,zi6,JU,wQ,hx4,rfl,N,H⟩
 refine sp (Bv ((JU:Int) == 0))<|sp (Bv ((JU:Int) == 0))<|zjr<|ret1 (Bv ((JU:Int) == 0)) rfl rfl ⟨_,rfl,(⟨PM,zi6,(JU:Int) == 0,qf,rfl,N,H.xm 1 1 [0] [0] (by simp only[List.length_cons,List.length_append];omega)<|by simp only[List.length_cons,List.length_append];omega⟩)⟩
theorem dFew_ok(ag:List UInt8)(ip:Int)(sd:Int)(bs:Nat)(ac:yOA)(cc:Nat)(Fc:yLN)(kk:Int)(fa:Int)(H:St W0 w ((.box bs [Sv ac ag.length cc,yI ip,.int .u64 sd] 116)::ps) ((sF false Fc ac cc ag)::Γ))(N:Fresh W0.heap.size (Ns))(K0:Kept Ns Γ)(q0:0<=ip/\ip<=80000)(q1:1<=kk/\kk<=8)(q2:1<=fa/\fa<=6):Calls Tryz.prog 61 #[pp bs 0,yI kk,yI fa] w (fun e w'=>∃v,e=.returned v/\∃(lQ:Int) (Ar:Int) (nD:yLI) (KL:yOA) (Og:Nat) (MP:Nat),(ip<=lQ/\lQ<=ip+20)/\(jk kk fa nD)/\v=Sv KL Og MP/\Fresh W0.heap.size (Ns)/\St W0 w' ((.box bs [Sv ac ag.length cc,yI lQ,.int .u64 Ar] 116)::(rr KL Og MP 2 1<|nD.map<|Value.int .i64)::ps) ((sF false Fc ac cc ag)::Γ)):=by
 refine en func61 ntmps61 ?_
 refine zcr<|sq 1<|zjc<|sp (yI kk)<|sw<|jP H underlying24 ti2 kk.toNat rfl rfl qf qf qf fun b1 w2 H=>sq 1<|zjcc<|sq 2<|sw<|zS fa 1 rfl rfl qf ?_
 have H1:=H.yt 2 1 [1,0] [0] (by simp only[List.length_cons,List.length_append];omega)<|by simp only[List.length_cons,List.length_append];omega
 have N1:Fresh _ (Ns):=N
 have K1:Kept (Ns) (Γ):=K0.behind 0 rfl
 refine sw<|zD #[pp bs 0,yI<|fa+1] rfl rfl call59 (yR ag ip sd bs ac cc Fc (fa+1) H1 N1 K1 qg) ?_
 clear H H1 N1 K1
 rintro _ w3 ⟨JU,FZ,fh,hx5,hx6,rfl,N,H⟩
 refine sq 1<|zjn<|xe<|zT ((fun Z0=>fun m' ρ sI=>∃(xP:Env) (k:Int) (eF:Int) (dB:Int) (out:yLI),ρ=upd (upd (upd (upd xP 0<|pp bs 0) 1<|yI kk) 7<|Sv (aa b1 0) kk.toNat kk.toNat) 8 (yI k)/\(0<=k/\k<=fa)/\(ip<=eF/\eF+2*k<=ip+20)/\(jk kk (fa-k) out)/\m'=k.toNat/\Fresh W0.heap.size (Ns)/\St W0 sI ((.box bs [Sv ac ag.length cc,yI eF,.int .u64 dB] 116)::(rr (aa b1 0) kk.toNat kk.toNat 2 1<|out.map<|Value.int .i64)::ps) (Z0::Γ)) _) (fh.toNat) ⟨_,fh,JU,FZ,(List.replicate kk.toNat (0:Int)),uE4,qf,qf,(by exact jk.zero qf qf),rfl,N,H⟩ ?_
 clear H N
 rintro m' ρ BF ⟨xP,k,eF,dB,out,rfl,i1,i2,i3,rfl,N,H⟩
 have Vm:=H.Qc 1 rfl
 have i4:=i3.len qf
 refine zcc<|sp (yI k)<|sp (Bv<|decide ((k:Int)>0))<|zjn<|cD rfl (fun lw=>?_)<|fun lw=>?_
 ·refine qW (t_n<|xM<|xe<|xX<|sq 2<|sp (yI kk) ?_)
  have H1:=H.yt 2 1 [0,1] [0] (by simp only[List.length_cons,List.length_append];omega)<|by simp only[List.length_cons,List.length_append];omega
  have N1:Fresh _ (Ns):=N
  have K1:Kept (Ns) (Γ):=K0.behind 0 rfl
  refine sw<|zD #[pp bs 0,yI kk] rfl rfl call59 (yR ag eF dB bs ac cc Fc kk H1 N1 K1 qg) ?_
  clear H H1 N1 K1
  rintro _ Dv ⟨nq,AR,DN,aae,aIz,rfl,N,H⟩
  have i5:=i3.2 DN.toNat qf
  refine oI rfl rfl<|oL rfl (H.rowInt 1 rfl (iv:=DN) (i:=DN.toNat) qf qf)<|sw<|zS (out[DN.toNat]!) 1 rfl rfl qf<|oI rfl rfl<|sw<|o_storeInt H 1 rfl ((out[DN.toNat]!)+1) sizeOf2 rfl rfl (i:=DN.toNat) qf qf fun KA H=>?_
  dsimp only[List.set] at H
  refine xU<|b_n<|t_n<|xX<|sp (yI k)<|sw<|o_sub k 1 rfl rfl qf<|sq 1<|xU<|xu (m':=(k-1).toNat) qf ⟨_,_,_,_,_,uE4,?_,?_,?_,rfl,N,H⟩
  ·omega
  ·omega
  ·exact i3.up qf qf
 refine zx4<|zcr<|sq 2<|zjr<|ret1 (Sv (aa b1 0) kk.toNat kk.toNat) rfl rfl ⟨_,rfl,(⟨eF,dB,out,(aa b1 0),kk.toNat,kk.toNat,qf,(by rw[show fa=fa-k by omega];exact i3),rfl,N,H.xm 2 1 [0,1] [0] (by simp only[List.length_cons,List.length_append];omega)<|by simp only[List.length_cons,List.length_append];omega⟩)⟩
theorem Xd(ag:List UInt8)(ip:Int)(sd:Int)(bs:Nat)(ac:yOA)(cc:Nat)(Fc:yLN)(kk:Int)(fa:Int)(H:St W0 w ((.box bs [Sv ac ag.length cc,yI ip,.int .u64 sd] 116)::ps) ((sF false Fc ac cc ag)::Γ))(N:Fresh W0.heap.size (Ns))(K0:Kept Ns Γ)(q0:0<=ip/\ip<=70000)(q1:1<=kk/\kk<=8)(q2:1<=fa/\fa<=6):Calls Tryz.prog 146 #[pp bs 0,yI kk,yI fa] w (fun e w'=>∃v,e=.returned v/\∃(lQ:Int) (Ar:Int) (nD:yLI) (KL:yOA) (Og:Nat) (MP:Nat),(ip<=lQ/\lQ<=ip+24)/\(jk kk fa nD/\VN nD≠0)/\v=Sv KL Og MP/\Fresh W0.heap.size (Ns)/\St W0 w' ((.box bs [Sv ac ag.length cc,yI lQ,.int .u64 Ar] 116)::(rr KL Og MP 2 1<|nD.map<|Value.int .i64)::ps) ((sF false Fc ac cc ag)::Γ)):=by
 refine en func146 ntmps146 ?_
 refine zcr<|sq 1<|zjc<|sq 1<|sp (yI kk)<|sq 1 ?_
 have H1:=H.yt 1 1 [0] [0] (by simp only[List.length_cons,List.length_append];omega)<|by simp only[List.length_cons,List.length_append];omega
 have N1:Fresh _ (Ns):=N
 have K1:Kept (Ns) (Γ):=K0.behind 0 rfl
 refine sw<|zD #[pp bs 0,yI kk,yI fa] rfl rfl call61 (dFew_ok ag ip sd bs ac cc Fc kk fa H1 N1 K1 qg qg qg) ?_
 clear H H1 N1 K1
 rintro _ w1 ⟨PM,zi6,Rn,mr,rn9,kB,wQ,hx4,rfl,N,H⟩
 obtain rfl:=H.Qc 1 rfl
 have j1:=(‹jk kk fa _›:jk kk fa Rn)
 have j2:=j1.small q1 qf
 have j3:=j1.len qf
 refine sq 1<|zjcc<|sq 1 ?_
 obtain⟨G11,aCB,Ed⟩:=H.rowIsI 1 rfl
 refine sw<|oq (l01Size_ok _ Rn Ed<|by assumption) H fun Um H=>sp (Bv ((VN Rn:Int) == 0))<|zjn<|cE rfl (fun Ij=>?_)<|fun Ij=>?_
 ·refine xX (sq 2<|sp (yI kk) ?_)
  have H1:=H.yt 2 1 [0,1] [0] (by simp only[List.length_cons,List.length_append];omega)<|by simp only[List.length_cons,List.length_append];omega
  have N1:Fresh _ (Ns):=N
  have K1:Kept (Ns) (Γ):=K0.behind 0 rfl
  refine sw<|zD #[pp bs 0,yI kk] rfl rfl call59 (yR ag PM zi6 bs ac cc Fc kk H1 N1 K1 qg) ?_
  clear H H1 N1 K1
  rintro _ J8 ⟨EL,Q6,Ev,acv,afI,rfl,N,H⟩
  obtain⟨Sg,rfl⟩:=H.jB 1 rfl qf
  refine oI rfl rfl<|sw<|o_storeInt H 1 rfl 1 sizeOf2 rfl rfl (i:=Ev.toNat) qf qf fun D0 H=>?_
  dsimp only[List.set] at H
  refine zjc<|sq 2<|zjr<|ret1 (Sv (aa Sg 0) Rn.length kB) rfl rfl ⟨_,rfl,(⟨EL,Q6,(Rn.set Ev.toNat 1),(aa Sg 0),Rn.length,kB,qf,(by exact⟨j1.put qf,j1.one q1 qf ‹_› qf⟩),rfl,N,H.xm 2 1 [0,1] [0] (by simp only[List.length_cons,List.length_append];omega)<|by simp only[List.length_cons,List.length_append];omega⟩)⟩
 refine qW<|t_n<|zcr<|sq 2<|zjr<|ret1 (Sv mr Rn.length kB) rfl rfl ⟨_,rfl,(⟨PM,zi6,Rn,mr,Rn.length,kB,qf,(by exact⟨j1,by assumption⟩),rfl,N,H.xm 2 1 [0,1] [0] (by simp only[List.length_cons,List.length_append];omega)<|by simp only[List.length_cons,List.length_append];omega⟩)⟩
theorem dRule_ok(ag:List UInt8)(ip:Int)(sd:Int)(bs:Nat)(ac:yOA)(cc:Nat)(Fc:yLN)(kk:Int)(par:yLI)(rules:List yu)(bY:Nat)(lu:yOA)(rnp:Nat)(lr:Nat)(lq:yOA)(rnR:Nat)(ls:Nat)(eE:List Value)(bZ:yLN)(H:St W0 w ((.box bs [Sv ac ag.length cc,yI ip,.int .u64 sd] 116)::(.box bY [yI kk,Sv lu rnp lr,Sv lq rnR ls] 27)::(rr lu rnp lr 2 1<|par.map<|Value.int .i64)::(rr lq rnR ls 110 9 eE)::ps) ((sF false Fc ac cc ag)::(qQ true bZ eE rules)::Γ))(N:Fresh W0.heap.size (bZ::Ns))(K0:Kept Ns Γ)(q0:0<=ip/\ip<=60000)(f0:jZ (⟨kk,par,rules⟩:qO)):Calls Tryz.prog 99 #[pp bs 0,pp bY 0] w (fun e w'=>∃v,e=.returned v/\∃(lQ:Int) (Ar:Int) (Tm:Int) (UE:Int) (VU:yLI) (TO:yLI) (WN:yLI) (Uo:yLI) (nD:yLI) (YK:List IntoD) (OM:Bool) (raN:yOA) (rnN:Nat) (rcN:Nat) (raH:yOA) (rnH:Nat) (rcH:Nat) (raL:yOA) (rnL:Nat) (rcL:Nat) (raE:yOA) (rnE:Nat) (rcE:Nat) (raO:yOA) (rnO:Nat) (rcO:Nat) (raI:yOA) (rnI:Nat) (rcI:Nat) (rxI:List Value) (rFI:yLN),(ip<=lQ/\lQ<=ip+300)/\(RuleDr kk par ⟨Tm,UE,VU,TO,WN,Uo,nD,YK,OM⟩)/\v=.agg #[yI Tm,yI UE,Sv raN rnN rcN,Sv raH rnH rcH,Sv raL rnL rcL,Sv raE rnE rcE,Sv raO rnO rcO,Sv raI rnI rcI,Bv OM]/\Fresh W0.heap.size (bZ::rFI::Ns)/\St W0 w' ((.box bs [Sv ac ag.length cc,yI lQ,.int .u64 Ar] 116)::(.box bY [yI kk,Sv lu rnp lr,Sv lq rnR ls] 27)::(rr lu rnp lr 2 1<|par.map<|Value.int .i64)::(rr lq rnR ls 110 9 eE)::(rr raN rnN rcN 2 1<|VU.map<|Value.int .i64)::(rr raH rnH rcH 2 1<|TO.map<|Value.int .i64)::(rr raL rnL rcL 2 1<|WN.map<|Value.int .i64)::(rr raE rnE rcE 2 1<|Uo.map<|Value.int .i64)::(rr raO rnO rcO 2 1<|nD.map<|Value.int .i64)::(rr raI rnI rcI 161 2 rxI)::ps) ((sF false Fc ac cc ag)::(qQ true bZ eE rules)::(qQ true rFI rxI YK)::Γ)):=by
 refine en func99 ntmps99 ?_
 obtain rfl:=H.Qc 2 rfl
 obtain rfl:=H.xk (α:=yu) 3 rfl 1 rfl qj
 have f1:1<=kk/\kk<=8:=f0.1
 have f2:1<=par.length/\par.length<=6:=f0.2.1
 refine zcr<|sw<|zn H ti110 [yI 0,yI 0,yN,yN,yN,yN,yN,yN,Bv false] fun b1 w2 H=>zjc<|sq 2<|oF rfl<|oL rfl (H.cell 2 rfl rfl)<|oN rfl<|sq 1<|zjn<|xM<|c_cut (fun ρ Dv=>∃(xP:Env) (zi3:Int) (nT:Int) (PM:Int) (md:yLI) (b7:Nat) (mr:yOA) (mc:Nat) (wS:Nat) (sT:Nat) (Rs:Int),ρ=upd (upd (upd (upd (upd xP 0<|pp bs 0) 1<|pp bY 0) 4<|pp b1 0) 5<|yI par.length) 6 (pp b7 0)/\(ip<=zi3/\zi3<=ip+2)/\(0<=nT/\(nT<par.length\/nT=0))/\(zi3<=PM/\PM<=zi3+24)/\(jk kk (2:Int) md/\VN md≠0)/\Fresh W0.heap.size (bZ::Ns)/\St W0 Dv ((.box b7 [yI nT,yI 0,Sv mr md.length mc,Sv (aa wS 0) kk.toNat kk.toNat,Sv (aa sT 0) kk.toNat kk.toNat,yN,yN,yN,Bv false] 110)::(rr (aa sT 0) kk.toNat kk.toNat 2 1 ((List.replicate kk.toNat (0:Int)).map<|Value.int .i64))::(rr (aa wS 0) kk.toNat kk.toNat 2 1 ((List.replicate kk.toNat (0:Int)).map<|Value.int .i64))::(.box bs [Sv ac ag.length cc,yI PM,.int .u64 Rs] 116)::(rr mr md.length mc 2 1<|md.map<|Value.int .i64)::(.box b1 [yI 0,yI 0,yN,yN,yN,yN,yN,yN,Bv false] 110)::(.box bY [yI kk,Sv lu par.length lr,Sv lq rules.length ls] 27)::(rr lu par.length lr 2 1<|par.map<|Value.int .i64)::(rr lq rules.length ls 110 9 eE)::ps) ((sF false Fc ac cc ag)::(qQ true bZ eE rules)::Γ)) ?_ ?_
 ·refine c_drawK2 rfl H [0,2,3,4] [0,1] fun H=>?_
  refine QX (fun ρ D0=>∃(xP:Env) (wU:Int) (gB:Int) (nq:Int) (mu:yLI) (uP:yOA) (lV:Nat) (wK:Nat) (wN:Nat) (Ev:Int),ρ=upd (upd (upd (upd (upd (upd (upd (upd xP 0<|pp bs 0) 1<|pp bY 0) 4<|pp b1 0) 5<|yI par.length) 15<|yI gB) 21<|Sv uP mu.length lV) 26<|Sv (aa wK 0) kk.toNat kk.toNat) 31 (Sv (aa wN 0) kk.toNat kk.toNat)/\(ip<=wU/\wU<=ip+2)/\(0<=gB/\(gB<par.length\/gB=0))/\(wU<=nq/\nq<=wU+24)/\(jk kk (2:Int) mu/\VN mu≠0)/\Fresh W0.heap.size (bZ::Ns)/\St W0 D0 ((rr (aa wN 0) kk.toNat kk.toNat 2 1 ((List.replicate kk.toNat (0:Int)).map<|Value.int .i64))::(rr (aa wK 0) kk.toNat kk.toNat 2 1 ((List.replicate kk.toNat (0:Int)).map<|Value.int .i64))::(.box bs [Sv ac ag.length cc,yI nq,.int .u64 Ev] 116)::(rr uP mu.length lV 2 1<|mu.map<|Value.int .i64)::(.box b1 [yI 0,yI 0,yN,yN,yN,yN,yN,yN,Bv false] 110)::(.box bY [yI kk,Sv lu par.length lr,Sv lq rules.length ls] 27)::(rr lu par.length lr 2 1<|par.map<|Value.int .i64)::(rr lq rules.length ls 110 9 eE)::ps) ((sF false Fc ac cc ag)::(qQ true bZ eE rules)::Γ)) 3 #[true,true,true,true,true,true,true,true,true,true,true,true,true,true,true,true,true,true,true,false,false,false] ?_ fun L24=>?_
  ·rintro ρ Fq ⟨xP,wU,gB,nq,mu,uP,lV,wK,wN,Ev,rfl,ak2,aaL,Ct,D2,N,H⟩
   refine jC [19,20] qh qm<|yV rfl ?_<|yV rfl ?_ jD
   ·refine jE [yI gB,yI 0,Sv uP mu.length lV,Sv (aa wK 0) kk.toNat kk.toNat,Sv (aa wN 0) kk.toNat kk.toNat,yN,yN,yN,Bv false] [(0,yI gB),(2,Sv uP mu.length lV),(3,Sv (aa wK 0) kk.toNat kk.toNat),(4,Sv (aa wN 0) kk.toNat kk.toNat)] (⟨H.pick (zR 4 4) [0,1],(ro 20 rfl<|zn H ti110 [yI 0,yI 0,yN,yN,yN,yN,yN,yN,Bv false] fun b31 Pn H=>⟨H.pick (zR 5 4) [0,1],(ro 21 rfl ?_)⟩)⟩)
    refine zF H 0 [yI gB,yI 0,Sv uP mu.length lV,Sv (aa wK 0) kk.toNat kk.toNat,Sv (aa wN 0) kk.toNat kk.toNat,yN,yN,yN,Bv false] sizeOf110 fun w33 H=>?_
    dsimp only[List.set] at H
    refine⟨H.pick (zR 5 4) [0,1],(xy qh ((meet ⟨_,wU,gB,nq,mu,b31,uP,lV,wK,wN,Ev,uE5,ak2,aaL,Ct,D2,N,H⟩)))⟩
   refine zn H ti110 [yI 0,yI 0,yN,yN,yN,yN,yN,yN,Bv false] fun b34 Na H=>⟨H.pick (zR 5 4) [0,1],(ro 19 rfl<|jE [yI gB,yI 0,Sv uP mu.length lV,Sv (aa wK 0) kk.toNat kk.toNat,Sv (aa wN 0) kk.toNat kk.toNat,yN,yN,yN,Bv false] [(0,yI gB),(2,Sv uP mu.length lV),(3,Sv (aa wK 0) kk.toNat kk.toNat),(4,Sv (aa wN 0) kk.toNat kk.toNat)]<|⟨H.pick (zR 5 4) [0,1],(ro 21 rfl ?_)⟩)⟩
   refine zF H 0 [yI gB,yI 0,Sv uP mu.length lV,Sv (aa wK 0) kk.toNat kk.toNat,Sv (aa wN 0) kk.toNat kk.toNat,yN,yN,yN,Bv false] sizeOf110 fun FY H=>?_
   dsimp only[List.set] at H
   refine⟨H.pick (zR 5 4) [0,1],(xy qh ((meet ⟨_,wU,gB,nq,mu,b34,uP,lV,wK,wN,Ev,uE5,ak2,aaL,Ct,D2,N,H⟩)))⟩
  refine QX (fun ρ SF=>∃(xP:Env) (xt:Int) (q7:Int) (Ic:Int) (vd:yLI) (Ch:yOA) (uM:Nat) (SB:Nat) (R7:Int),ρ=upd (upd (upd (upd (upd (upd (upd (upd xP 0<|pp bs 0) 1<|pp bY 0) 4<|pp b1 0) 5<|yI par.length) 15<|yI q7) 21<|Sv Ch vd.length uM) 26<|Sv (aa SB 0) kk.toNat kk.toNat) 30 (yI kk)/\(ip<=xt/\xt<=ip+2)/\(0<=q7/\(q7<par.length\/q7=0))/\(xt<=Ic/\Ic<=xt+24)/\(jk kk (2:Int) vd/\VN vd≠0)/\Fresh W0.heap.size (bZ::Ns)/\St W0 SF ((rr (aa SB 0) kk.toNat kk.toNat 2 1 ((List.replicate kk.toNat (0:Int)).map<|Value.int .i64))::(.box bs [Sv ac ag.length cc,yI Ic,.int .u64 R7] 116)::(rr Ch vd.length uM 2 1<|vd.map<|Value.int .i64)::(.box b1 [yI 0,yI 0,yN,yN,yN,yN,yN,yN,Bv false] 110)::(.box bY [yI kk,Sv lu par.length lr,Sv lq rules.length ls] 27)::(rr lu par.length lr 2 1<|par.map<|Value.int .i64)::(rr lq rules.length ls 110 9 eE)::ps) ((sF false Fc ac cc ag)::(qQ true bZ eE rules)::Γ)) 4 #[true,true,true,true,true,true,true,true,true,true,true,true,true,true,true,true,true,true,false,false,false,false] ?_ fun L45=>?_
  ·rintro ρ w47 ⟨xP,xt,q7,Ic,vd,Ch,uM,SB,R7,rfl,AE,SE,ami,ag3,N,H⟩
   refine jC [18,20] qh qm<|yV rfl ?_<|yV rfl ?_ jD
   ·refine jP H underlying24 ti2 kk.toNat rfl rfl qf qf qf fun b52 w53 H=>⟨H.pick (zR 4 4) [0,1],(yP L24 ⟨_,xt,q7,Ic,vd,Ch,uM,SB,b52,R7,uE8,AE,SE,ami,ag3,N,H⟩)⟩
   refine zn H ti110 [yI 0,yI 0,yN,yN,yN,yN,yN,yN,Bv false] fun Uq w55 H=>⟨H.pick (zR 4 4) [0,1],(ro 18 rfl<|jP H underlying24 ti2 kk.toNat rfl rfl qf qf qf fun b56 w57 H=>⟨H.pick (zR 5 4) [0,1],(ro 19 rfl ?_)⟩)⟩
   refine jE [yI q7,yI 0,Sv Ch vd.length uM,Sv (aa SB 0) kk.toNat kk.toNat,Sv (aa b56 0) kk.toNat kk.toNat,yN,yN,yN,Bv false] [(0,yI q7),(2,Sv Ch vd.length uM),(3,Sv (aa SB 0) kk.toNat kk.toNat),(4,Sv (aa b56 0) kk.toNat kk.toNat)]<|⟨H.pick (zR 5 4) [0,1],(ro 21 rfl ?_)⟩
   refine zF H 1 [yI q7,yI 0,Sv Ch vd.length uM,Sv (aa SB 0) kk.toNat kk.toNat,Sv (aa b56 0) kk.toNat kk.toNat,yN,yN,yN,Bv false] sizeOf110 fun w58 H=>?_
   dsimp only[List.set] at H
   refine⟨H.pick (zR 5 4) [0,1],(xy qh ((meet ⟨_,xt,q7,Ic,vd,Uq,Ch,uM,SB,b56,R7,uE5,AE,SE,ami,ag3,N,H.xm 9 2 (1::0::zR 2 7) [0,1] (by simp only[List.length_cons,List.length_append];omega)<|by simp only[List.length_cons,List.length_append];omega⟩)))⟩
  refine QX (fun ρ w68=>∃(xP:Env) (Ai:Int) (sV:Int) (Dq:Int) (uF:yLI) (sR:yOA) (Ci:Nat) (KN:Nat) (P0:Int),ρ=upd (upd (upd (upd (upd (upd (upd (upd xP 0<|pp bs 0) 1<|pp bY 0) 4<|pp b1 0) 5<|yI par.length) 15<|yI sV) 21<|Sv sR uF.length Ci) 25<|yI kk) 31 (Sv (aa KN 0) kk.toNat kk.toNat)/\(ip<=Ai/\Ai<=ip+2)/\(0<=sV/\(sV<par.length\/sV=0))/\(Ai<=Dq/\Dq<=Ai+24)/\(jk kk (2:Int) uF/\VN uF≠0)/\Fresh W0.heap.size (bZ::Ns)/\St W0 w68 ((rr (aa KN 0) kk.toNat kk.toNat 2 1 ((List.replicate kk.toNat (0:Int)).map<|Value.int .i64))::(.box bs [Sv ac ag.length cc,yI Dq,.int .u64 P0] 116)::(rr sR uF.length Ci 2 1<|uF.map<|Value.int .i64)::(.box b1 [yI 0,yI 0,yN,yN,yN,yN,yN,yN,Bv false] 110)::(.box bY [yI kk,Sv lu par.length lr,Sv lq rules.length ls] 27)::(rr lu par.length lr 2 1<|par.map<|Value.int .i64)::(rr lq rules.length ls 110 9 eE)::ps) ((sF false Fc ac cc ag)::(qQ true bZ eE rules)::Γ)) 4 #[true,true,true,true,true,true,true,true,true,true,true,true,true,false,true,true,true,true,true,false,false,false] ?_ fun L67=>?_
  ·rintro ρ w69 ⟨xP,Ai,sV,Dq,uF,sR,Ci,KN,P0,rfl,ahy,amA,ag7,ajP,N,H⟩
   refine jC [13,20] qh qm<|yV rfl ?_<|yV rfl ?_ jD
   ·refine jP H underlying24 ti2 kk.toNat rfl rfl qf qf qf fun b74 w75 H=>⟨H.pick (zR 4 4) [0,1],(yP L24 ⟨_,Ai,sV,Dq,uF,sR,Ci,b74,KN,P0,uE8,ahy,amA,ag7,ajP,N,H.xm 8 2 (1::0::zR 2 6) [0,1] (by simp only[List.length_cons,List.length_append];omega)<|by simp only[List.length_cons,List.length_append];omega⟩)⟩
   refine zn H ti110 [yI 0,yI 0,yN,yN,yN,yN,yN,yN,Bv false] fun b76 w77 H=>⟨H.pick (zR 4 4) [0,1],(ro 13 rfl<|jP H underlying24 ti2 kk.toNat rfl rfl qf qf qf fun SX w79 H=>⟨H.pick (zR 5 4) [0,1],(ro 19 rfl ?_)⟩)⟩
   refine jE [yI sV,yI 0,Sv sR uF.length Ci,Sv (aa SX 0) kk.toNat kk.toNat,Sv (aa KN 0) kk.toNat kk.toNat,yN,yN,yN,Bv false] [(0,yI sV),(2,Sv sR uF.length Ci),(3,Sv (aa SX 0) kk.toNat kk.toNat),(4,Sv (aa KN 0) kk.toNat kk.toNat)]<|⟨H.pick (zR 5 4) [0,1],(ro 21 rfl ?_)⟩
   refine zF H 1 [yI sV,yI 0,Sv sR uF.length Ci,Sv (aa SX 0) kk.toNat kk.toNat,Sv (aa KN 0) kk.toNat kk.toNat,yN,yN,yN,Bv false] sizeOf110 fun Te H=>?_
   dsimp only[List.set] at H
   refine⟨H.pick (zR 5 4) [0,1],(xy qh ((meet ⟨_,Ai,sV,Dq,uF,b76,sR,Ci,SX,KN,P0,uE5,ahy,amA,ag7,ajP,N,H.xm 9 2 (1::2::0::zR 3 6) [0,1] (by simp only[List.length_cons,List.length_append];omega)<|by simp only[List.length_cons,List.length_append];omega⟩)))⟩
  refine QX (fun ρ T0=>∃(xP:Env) (Em:Int) (rS:Int) (JG:Int) (qq:yLI) (rH:yOA) (wh:Nat) (b87:Nat) (E7:Int),ρ=upd (upd (upd (upd (upd (upd (upd (upd (upd xP 0<|pp bs 0) 1<|pp bY 0) 4<|pp b1 0) 5<|yI par.length) 6<|pp b87 0) 15<|yI rS) 21<|Sv rH qq.length wh) 25<|yI kk) 30 (yI kk)/\(ip<=Em/\Em<=ip+2)/\(0<=rS/\(rS<par.length\/rS=0))/\(Em<=JG/\JG<=Em+24)/\(jk kk (2:Int) qq/\VN qq≠0)/\Fresh W0.heap.size (bZ::Ns)/\St W0 T0 ((.box b87 [yI 0,yI 0,yN,yN,yN,yN,yN,yN,Bv false] 110)::(.box bs [Sv ac ag.length cc,yI JG,.int .u64 E7] 116)::(rr rH qq.length wh 2 1<|qq.map<|Value.int .i64)::(.box b1 [yI 0,yI 0,yN,yN,yN,yN,yN,yN,Bv false] 110)::(.box bY [yI kk,Sv lu par.length lr,Sv lq rules.length ls] 27)::(rr lu par.length lr 2 1<|par.map<|Value.int .i64)::(rr lq rules.length ls 110 9 eE)::ps) ((sF false Fc ac cc ag)::(qQ true bZ eE rules)::Γ)) 4 #[true,true,true,true,true,true,true,true,true,true,true,true,true,false,true,true,true,true,false,false,true,false] ?_ fun L89=>?_
  ·rintro ρ w91 ⟨xP,Em,rS,JG,qq,rH,wh,b87,E7,rfl,anr,It,Eu,amh,N,H⟩
   refine jC [13,18] qh qm<|yV rfl ?_<|yV rfl ?_ jD
   ·refine jP H underlying24 ti2 kk.toNat rfl rfl qf qf qf fun b96 w97 H=>⟨H.pick (zR 4 4) [0,1],(ro 18 rfl<|jP H underlying24 ti2 kk.toNat rfl rfl qf qf qf fun ur w99 H=>⟨H.pick (zR 5 4) [0,1],(ro 19 rfl<|jE [yI rS,yI 0,Sv rH qq.length wh,Sv (aa b96 0) kk.toNat kk.toNat,Sv (aa ur 0) kk.toNat kk.toNat,yN,yN,yN,Bv false] [(0,yI rS),(2,Sv rH qq.length wh),(3,Sv (aa b96 0) kk.toNat kk.toNat),(4,Sv (aa ur 0) kk.toNat kk.toNat)] ?_)⟩)⟩
    refine⟨H.pick (zR 5 4) [0,1],(ro 21 rfl<|zF H 2 [yI rS,yI 0,Sv rH qq.length wh,Sv (aa b96 0) kk.toNat kk.toNat,Sv (aa ur 0) kk.toNat kk.toNat,yN,yN,yN,Bv false] sizeOf110 fun amv H=>?_)⟩
    dsimp only[List.set] at H
    refine⟨H.pick (zR 5 4) [0,1],(xy qh ((meet ⟨_,Em,rS,JG,qq,b87,rH,wh,b96,ur,E7,uE5,anr,It,Eu,amh,N,H.xm 9 2 (2::0::1::zR 3 6) [0,1] (by simp only[List.length_cons,List.length_append];omega)<|by simp only[List.length_cons,List.length_append];omega⟩)))⟩
   refine jP H underlying24 ti2 kk.toNat rfl rfl qf qf qf fun MI alL H=>⟨H.pick (zR 4 4) [0,1],(ro 13 rfl<|jP H underlying24 ti2 kk.toNat rfl rfl qf qf qf fun Me MU H=>⟨H.pick (zR 5 4) [0,1],(ro 19 rfl<|jE [yI rS,yI 0,Sv rH qq.length wh,Sv (aa Me 0) kk.toNat kk.toNat,Sv (aa MI 0) kk.toNat kk.toNat,yN,yN,yN,Bv false] [(0,yI rS),(2,Sv rH qq.length wh),(3,Sv (aa Me 0) kk.toNat kk.toNat),(4,Sv (aa MI 0) kk.toNat kk.toNat)] ?_)⟩)⟩
   refine⟨H.pick (zR 5 4) [0,1],(ro 21 rfl<|zF H 2 [yI rS,yI 0,Sv rH qq.length wh,Sv (aa Me 0) kk.toNat kk.toNat,Sv (aa MI 0) kk.toNat kk.toNat,yN,yN,yN,Bv false] sizeOf110 fun ae1 H=>?_)⟩
   dsimp only[List.set] at H
   refine⟨H.pick (zR 5 4) [0,1],(xy qh ((meet ⟨_,Em,rS,JG,qq,b87,rH,wh,Me,MI,E7,uE5,anr,It,Eu,amh,N,H.xm 9 2 (2::1::0::zR 3 6) [0,1] (by simp only[List.length_cons,List.length_append];omega)<|by simp only[List.length_cons,List.length_append];omega⟩)))⟩
  refine QX (fun ρ Ru=>∃(xP:Env) (ss:Int) (ou:Int) (fT:Nat) (Cb:Nat) (F7:Int),ρ=upd (upd (upd (upd (upd (upd (upd (upd (upd xP 0<|pp bs 0) 1<|pp bY 0) 4<|pp b1 0) 5<|yI par.length) 15<|yI ou) 16<|pp bs 0) 20<|yI kk) 26<|Sv (aa fT 0) kk.toNat kk.toNat) 31 (Sv (aa Cb 0) kk.toNat kk.toNat)/\(ip<=ss/\ss<=ip+2)/\(0<=ou/\(ou<par.length\/ou=0))/\Fresh W0.heap.size (bZ::Ns)/\St W0 Ru ((rr (aa Cb 0) kk.toNat kk.toNat 2 1 ((List.replicate kk.toNat (0:Int)).map<|Value.int .i64))::(rr (aa fT 0) kk.toNat kk.toNat 2 1 ((List.replicate kk.toNat (0:Int)).map<|Value.int .i64))::(.box bs [Sv ac ag.length cc,yI ss,.int .u64 F7] 116)::(.box b1 [yI 0,yI 0,yN,yN,yN,yN,yN,yN,Bv false] 110)::(.box bY [yI kk,Sv lu par.length lr,Sv lq rules.length ls] 27)::(rr lu par.length lr 2 1<|par.map<|Value.int .i64)::(rr lq rules.length ls 110 9 eE)::ps) ((sF false Fc ac cc ag)::(qQ true bZ eE rules)::Γ)) 4 #[true,true,true,true,true,true,true,true,false,true,true,true,true,true,true,true,true,true,true,false,false,false] ?_ fun aby=>?_
  ·rintro ρ ZM ⟨xP,ss,ou,fT,Cb,F7,rfl,Wn,Ub,N,H⟩
   refine jC [8,20] qh qm<|yV rfl ?_<|yV rfl ?_ jD
   ·have H1:=H.yt 7 2 [2,0,1,3,4,5,6] [0,1] (by simp only[List.length_cons,List.length_append];omega) (by simp only[List.length_cons,List.length_append];omega)
    have N1:Fresh _ (bZ::Ns):=N
    have K1:Kept (Ns) ((qQ true bZ eE rules)::Γ):=K0.behind 1 rfl
    replace K1:=K1.cons (F:=bZ) 0 rfl rfl
    refine zD #[pp bs 0,yI kk,yI 2] rfl rfl call146 (Xd ag ss F7 bs ac cc Fc kk (2:Int) H1 N1 K1 qg qg qg) ?_
    clear H H1 N1 K1
    rintro _ aEQ ⟨aiS,an2,aki,ae2,aAA,ahX,ag0,agU,rfl,N,H⟩
    obtain rfl:=H.Qc 1 rfl
    refine⟨H.pick (zR 4 4) [0,1],(yP L24 ⟨_,ss,ou,aiS,aki,ae2,ahX,fT,Cb,an2,uE8,Wn,Ub,ag0,agU,N,H.xm 8 2 [2,3,0,1,4,5,6,7] [0,1] (by simp only[List.length_cons,List.length_append];omega)<|by simp only[List.length_cons,List.length_append];omega⟩)⟩
   refine zn H ti110 [yI 0,yI 0,yN,yN,yN,yN,yN,yN,Bv false] fun axL aoQ H=>⟨H.pick (zR 4 4) [0,1],(ro 8 rfl ?_)⟩
   have H1:=H.yt 8 2 [3,0,1,2,4,5,6,7] [0,1] (by simp only[List.length_cons,List.length_append];omega)<|by simp only[List.length_cons,List.length_append];omega
   have N1:Fresh _ (bZ::Ns):=N
   have K1:Kept (Ns) ((qQ true bZ eE rules)::Γ):=K0.behind 1 rfl
   replace K1:=K1.cons (F:=bZ) 0 rfl rfl
   refine zD #[pp bs 0,yI kk,yI 2] rfl rfl call146 (Xd ag ss F7 bs ac cc Fc kk (2:Int) H1 N1 K1 qg qg qg) ?_
   clear H H1 N1 K1
   rintro _ Rt ⟨alC,apD,t6,HK,aA1,GI,aiC,ah2,rfl,N,H⟩
   obtain rfl:=H.Qc 1 rfl
   refine⟨H.pick (zR 5 4) [0,1],(ro 19 rfl<|jE [yI ou,yI 0,Sv HK t6.length GI,Sv (aa fT 0) kk.toNat kk.toNat,Sv (aa Cb 0) kk.toNat kk.toNat,yN,yN,yN,Bv false] [(0,yI ou),(2,Sv HK t6.length GI),(3,Sv (aa fT 0) kk.toNat kk.toNat),(4,Sv (aa Cb 0) kk.toNat kk.toNat)]<|⟨H.pick (zR 5 4) [0,1],(ro 21 rfl ?_)⟩)⟩
   refine zF H 2 [yI ou,yI 0,Sv HK t6.length GI,Sv (aa fT 0) kk.toNat kk.toNat,Sv (aa Cb 0) kk.toNat kk.toNat,yN,yN,yN,Bv false] sizeOf110 fun afH H=>?_
   dsimp only[List.set] at H
   refine⟨H.pick (zR 5 4) [0,1],(xy qh ((meet ⟨_,ss,ou,alC,t6,axL,HK,GI,fT,Cb,apD,uE5,Wn,Ub,aiC,ah2,N,H.xm 9 2 [2,3,4,0,1,5,6,7,8] [0,1] (by simp only[List.length_cons,List.length_append];omega)<|by simp only[List.length_cons,List.length_append];omega⟩)))⟩
  refine QX (fun ρ abE=>∃(xP:Env) (sC:Int) (kW:Int) (tr:Nat) (OG:Nat) (HD:Int),ρ=upd (upd (upd (upd (upd (upd (upd (upd (upd (upd xP 0<|pp bs 0) 1<|pp bY 0) 4<|pp b1 0) 5<|yI par.length) 6<|pp OG 0) 15<|yI kW) 16<|pp bs 0) 20<|yI kk) 26<|Sv (aa tr 0) kk.toNat kk.toNat) 30 (yI kk)/\(ip<=sC/\sC<=ip+2)/\(0<=kW/\(kW<par.length\/kW=0))/\Fresh W0.heap.size (bZ::Ns)/\St W0 abE ((.box OG [yI 0,yI 0,yN,yN,yN,yN,yN,yN,Bv false] 110)::(rr (aa tr 0) kk.toNat kk.toNat 2 1 ((List.replicate kk.toNat (0:Int)).map<|Value.int .i64))::(.box bs [Sv ac ag.length cc,yI sC,.int .u64 HD] 116)::(.box b1 [yI 0,yI 0,yN,yN,yN,yN,yN,yN,Bv false] 110)::(.box bY [yI kk,Sv lu par.length lr,Sv lq rules.length ls] 27)::(rr lu par.length lr 2 1<|par.map<|Value.int .i64)::(rr lq rules.length ls 110 9 eE)::ps) ((sF false Fc ac cc ag)::(qQ true bZ eE rules)::Γ)) 4 #[true,true,true,true,true,true,true,true,false,true,true,true,true,true,true,true,true,true,false,false,true,false] ?_ fun Zl=>?_
  ·rintro ρ Mn ⟨xP,sC,kW,tr,OG,HD,rfl,Tb,Ts,N,H⟩
   refine jC [8,18] qh qm<|yV rfl ?_<|yV rfl ?_ jD
   ·have H1:=H.yt 7 2 [2,0,1,3,4,5,6] [0,1] (by simp only[List.length_cons,List.length_append];omega) (by simp only[List.length_cons,List.length_append];omega)
    have N1:Fresh _ (bZ::Ns):=N
    have K1:Kept (Ns) ((qQ true bZ eE rules)::Γ):=K0.behind 1 rfl
    replace K1:=K1.cons (F:=bZ) 0 rfl rfl
    refine zD #[pp bs 0,yI kk,yI 2] rfl rfl call146 (Xd ag sC HD bs ac cc Fc kk (2:Int) H1 N1 K1 qg qg qg) ?_
    clear H H1 N1 K1
    rintro _ aGy ⟨ajI,agI,GW,HT,azA,H6,aj3,aeN,rfl,N,H⟩
    obtain rfl:=H.Qc 1 rfl
    refine⟨H.pick (zR 4 4) [0,1],(ro 18 rfl<|jP H underlying24 ti2 kk.toNat rfl rfl qf qf qf fun Iw abS H=>⟨H.pick (zR 5 4) [0,1],(ro 19 rfl<|jE [yI kW,yI 0,Sv HT GW.length H6,Sv (aa tr 0) kk.toNat kk.toNat,Sv (aa Iw 0) kk.toNat kk.toNat,yN,yN,yN,Bv false] [(0,yI kW),(2,Sv HT GW.length H6),(3,Sv (aa tr 0) kk.toNat kk.toNat),(4,Sv (aa Iw 0) kk.toNat kk.toNat)]<|⟨H.pick (zR 5 4) [0,1],(ro 21 rfl ?_)⟩)⟩)⟩
    refine zF H 3 [yI kW,yI 0,Sv HT GW.length H6,Sv (aa tr 0) kk.toNat kk.toNat,Sv (aa Iw 0) kk.toNat kk.toNat,yN,yN,yN,Bv false] sizeOf110 fun avg H=>?_
    dsimp only[List.set] at H
    refine⟨H.pick (zR 5 4) [0,1],(xy qh ((meet ⟨_,sC,kW,ajI,GW,OG,HT,H6,tr,Iw,agI,uE5,Tb,Ts,aj3,aeN,N,H.xm 9 2 [3,0,4,1,2,5,6,7,8] [0,1] (by simp only[List.length_cons,List.length_append];omega)<|by simp only[List.length_cons,List.length_append];omega⟩)))⟩
   refine jP H underlying24 ti2 kk.toNat rfl rfl qf qf qf fun S8 aEX H=>⟨H.pick (zR 4 4) [0,1],(ro 8 rfl ?_)⟩
   have H1:=H.yt 8 2 [3,0,1,2,4,5,6,7] [0,1] (by simp only[List.length_cons,List.length_append];omega)<|by simp only[List.length_cons,List.length_append];omega
   have N1:Fresh _ (bZ::Ns):=N
   have K1:Kept (Ns) ((qQ true bZ eE rules)::Γ):=K0.behind 1 rfl
   replace K1:=K1.cons (F:=bZ) 0 rfl rfl
   refine zD #[pp bs 0,yI kk,yI 2] rfl rfl call146 (Xd ag sC HD bs ac cc Fc kk (2:Int) H1 N1 K1 qg qg qg) ?_
   clear H H1 N1 K1
   rintro _ atE ⟨ako,aip,GX,FF,aA9,x2,aiK,Wa,rfl,N,H⟩
   obtain rfl:=H.Qc 1 rfl
   refine⟨H.pick (zR 5 4) [0,1],(ro 19 rfl<|jE [yI kW,yI 0,Sv FF GX.length x2,Sv (aa tr 0) kk.toNat kk.toNat,Sv (aa S8 0) kk.toNat kk.toNat,yN,yN,yN,Bv false] [(0,yI kW),(2,Sv FF GX.length x2),(3,Sv (aa tr 0) kk.toNat kk.toNat),(4,Sv (aa S8 0) kk.toNat kk.toNat)]<|⟨H.pick (zR 5 4) [0,1],(ro 21 rfl ?_)⟩)⟩
   refine zF H 3 [yI kW,yI 0,Sv FF GX.length x2,Sv (aa tr 0) kk.toNat kk.toNat,Sv (aa S8 0) kk.toNat kk.toNat,yN,yN,yN,Bv false] sizeOf110 fun awM H=>?_
   dsimp only[List.set] at H
   refine⟨H.pick (zR 5 4) [0,1],(xy qh ((meet ⟨_,sC,kW,ako,GX,OG,FF,x2,tr,S8,aip,uE5,Tb,Ts,aiK,Wa,N,H.xm 9 2 [3,2,4,0,1,5,6,7,8] [0,1] (by simp only[List.length_cons,List.length_append];omega)<|by simp only[List.length_cons,List.length_append];omega⟩)))⟩
  refine QX (fun ρ w181=>∃(xP:Env) (sf:Int) (lf:Int) (wA:Nat) (Eb:Nat) (Fz:Int),ρ=upd (upd (upd (upd (upd (upd (upd (upd (upd (upd xP 0<|pp bs 0) 1<|pp bY 0) 4<|pp b1 0) 5<|yI par.length) 6<|pp Eb 0) 15<|yI lf) 16<|pp bs 0) 20<|yI kk) 25<|yI kk) 31 (Sv (aa wA 0) kk.toNat kk.toNat)/\(ip<=sf/\sf<=ip+2)/\(0<=lf/\(lf<par.length\/lf=0))/\Fresh W0.heap.size (bZ::Ns)/\St W0 w181 ((.box Eb [yI 0,yI 0,yN,yN,yN,yN,yN,yN,Bv false] 110)::(rr (aa wA 0) kk.toNat kk.toNat 2 1 ((List.replicate kk.toNat (0:Int)).map<|Value.int .i64))::(.box bs [Sv ac ag.length cc,yI sf,.int .u64 Fz] 116)::(.box b1 [yI 0,yI 0,yN,yN,yN,yN,yN,yN,Bv false] 110)::(.box bY [yI kk,Sv lu par.length lr,Sv lq rules.length ls] 27)::(rr lu par.length lr 2 1<|par.map<|Value.int .i64)::(rr lq rules.length ls 110 9 eE)::ps) ((sF false Fc ac cc ag)::(qQ true bZ eE rules)::Γ)) 4 #[true,true,true,true,true,true,true,true,false,true,true,true,true,false,true,true,true,true,true,false,true,false] ?_ fun Y9=>?_
  ·rintro ρ ahU ⟨xP,sf,lf,wA,Eb,Fz,rfl,WO,Up,N,H⟩
   refine jC [8,13] qh qm<|yV rfl ?_<|yV rfl ?_ jD
   ·have H1:=H.yt 7 2 [2,0,1,3,4,5,6] [0,1] (by simp only[List.length_cons,List.length_append];omega) (by simp only[List.length_cons,List.length_append];omega)
    have N1:Fresh _ (bZ::Ns):=N
    have K1:Kept (Ns) ((qQ true bZ eE rules)::Γ):=K0.behind 1 rfl
    replace K1:=K1.cons (F:=bZ) 0 rfl rfl
    refine zD #[pp bs 0,yI kk,yI 2] rfl rfl call146 (Xd ag sf Fz bs ac cc Fc kk (2:Int) H1 N1 K1 qg qg qg) ?_
    clear H H1 N1 K1
    rintro _ asv ⟨amn,amR,Fv,pD,aha,pZ,qS,ao3,rfl,N,H⟩
    obtain rfl:=H.Qc 1 rfl
    refine⟨H.pick (zR 4 4) [0,1],(ro 13 rfl<|jP H underlying24 ti2 kk.toNat rfl rfl qf qf qf fun Of abH H=>⟨H.pick (zR 5 4) [0,1],(ro 19 rfl<|jE [yI lf,yI 0,Sv pD Fv.length pZ,Sv (aa Of 0) kk.toNat kk.toNat,Sv (aa wA 0) kk.toNat kk.toNat,yN,yN,yN,Bv false] [(0,yI lf),(2,Sv pD Fv.length pZ),(3,Sv (aa Of 0) kk.toNat kk.toNat),(4,Sv (aa wA 0) kk.toNat kk.toNat)]<|⟨H.pick (zR 5 4) [0,1],(ro 21 rfl ?_)⟩)⟩)⟩
    refine zF H 3 [yI lf,yI 0,Sv pD Fv.length pZ,Sv (aa Of 0) kk.toNat kk.toNat,Sv (aa wA 0) kk.toNat kk.toNat,yN,yN,yN,Bv false] sizeOf110 fun auw H=>?_
    dsimp only[List.set] at H
    refine⟨H.pick (zR 5 4) [0,1],(xy qh ((meet ⟨_,sf,lf,amn,Fv,Eb,pD,pZ,Of,wA,amR,uE5,WO,Up,qS,ao3,N,H.xm 9 2 [3,4,0,1,2,5,6,7,8] [0,1] (by simp only[List.length_cons,List.length_append];omega)<|by simp only[List.length_cons,List.length_append];omega⟩)))⟩
   refine jP H underlying24 ti2 kk.toNat rfl rfl qf qf qf fun Sj abt H=>⟨H.pick (zR 4 4) [0,1],(ro 8 rfl ?_)⟩
   have H1:=H.yt 8 2 [3,0,1,2,4,5,6,7] [0,1] (by simp only[List.length_cons,List.length_append];omega)<|by simp only[List.length_cons,List.length_append];omega
   have N1:Fresh _ (bZ::Ns):=N
   have K1:Kept (Ns) ((qQ true bZ eE rules)::Γ):=K0.behind 1 rfl
   replace K1:=K1.cons (F:=bZ) 0 rfl rfl
   refine zD #[pp bs 0,yI kk,yI 2] rfl rfl call146 (Xd ag sf Fz bs ac cc Fc kk (2:Int) H1 N1 K1 qg qg qg) ?_
   clear H H1 N1 K1
   rintro _ awi ⟨alu,ahT,GZ,nC,akE,pw,aen,al1,rfl,N,H⟩
   obtain rfl:=H.Qc 1 rfl
   refine⟨H.pick (zR 5 4) [0,1],(ro 19 rfl<|jE [yI lf,yI 0,Sv nC GZ.length pw,Sv (aa Sj 0) kk.toNat kk.toNat,Sv (aa wA 0) kk.toNat kk.toNat,yN,yN,yN,Bv false] [(0,yI lf),(2,Sv nC GZ.length pw),(3,Sv (aa Sj 0) kk.toNat kk.toNat),(4,Sv (aa wA 0) kk.toNat kk.toNat)]<|⟨H.pick (zR 5 4) [0,1],(ro 21 rfl ?_)⟩)⟩
   refine zF H 3 [yI lf,yI 0,Sv nC GZ.length pw,Sv (aa Sj 0) kk.toNat kk.toNat,Sv (aa wA 0) kk.toNat kk.toNat,yN,yN,yN,Bv false] sizeOf110 fun auC H=>?_
   dsimp only[List.set] at H
   refine⟨H.pick (zR 5 4) [0,1],(xy qh ((meet ⟨_,sf,lf,alu,GZ,Eb,nC,pw,Sj,wA,ahT,uE5,WO,Up,aen,al1,N,H.xm 9 2 [3,4,2,0,1,5,6,7,8] [0,1] (by simp only[List.length_cons,List.length_append];omega)<|by simp only[List.length_cons,List.length_append];omega⟩)))⟩
  refine QX (fun ρ anb=>∃(xP:Env) (sA:Int) (sj:Int) (C4:Nat) (CR:Int),ρ=upd (upd (upd (upd (upd (upd (upd (upd (upd xP 0<|pp bs 0) 1<|pp bY 0) 4<|pp b1 0) 5<|yI par.length) 15<|yI sj) 16<|pp bs 0) 20<|yI kk) 26<|Sv (aa C4 0) kk.toNat kk.toNat) 30 (yI kk)/\(ip<=sA/\sA<=ip+2)/\(0<=sj/\(sj<par.length\/sj=0))/\Fresh W0.heap.size (bZ::Ns)/\St W0 anb ((rr (aa C4 0) kk.toNat kk.toNat 2 1 ((List.replicate kk.toNat (0:Int)).map<|Value.int .i64))::(.box bs [Sv ac ag.length cc,yI sA,.int .u64 CR] 116)::(.box b1 [yI 0,yI 0,yN,yN,yN,yN,yN,yN,Bv false] 110)::(.box bY [yI kk,Sv lu par.length lr,Sv lq rules.length ls] 27)::(rr lu par.length lr 2 1<|par.map<|Value.int .i64)::(rr lq rules.length ls 110 9 eE)::ps) ((sF false Fc ac cc ag)::(qQ true bZ eE rules)::Γ)) 5 #[true,true,true,true,true,true,true,true,false,true,true,true,true,true,true,true,true,true,false,false,false,false] ?_ fun aeK=>?_
  ·rintro ρ al5 ⟨xP,sA,sj,C4,CR,rfl,Nv,K7,N,H⟩
   refine jC [8,18,20] qh qm<|yV rfl ?_<|yV rfl ?_<|yV rfl ?_ jD
   ·have H1:=H.yt 6 2 [1,0,2,3,4,5] [0,1] (by simp only[List.length_cons,List.length_append];omega) (by simp only[List.length_cons,List.length_append];omega)
    have N1:Fresh _ (bZ::Ns):=N
    have K1:Kept (Ns) ((qQ true bZ eE rules)::Γ):=K0.behind 1 rfl
    replace K1:=K1.cons (F:=bZ) 0 rfl rfl
    refine zD #[pp bs 0,yI kk,yI 2] rfl rfl call146 (Xd ag sA CR bs ac cc Fc kk (2:Int) H1 N1 K1 qg qg qg) ?_
    clear H H1 N1 K1
    rintro _ aye ⟨ae0,agt,apn,am9,aAq,aji,ajZ,ajt,rfl,N,H⟩
    obtain rfl:=H.Qc 1 rfl
    refine⟨H.pick (zR 3 4) [0,1],(yP L45 ⟨_,sA,sj,ae0,apn,am9,aji,C4,agt,uE8,Nv,K7,ajZ,ajt,N,H.xm 7 2 [2,0,1,3,4,5,6] [0,1] (by simp only[List.length_cons,List.length_append];omega)<|by simp only[List.length_cons,List.length_append];omega⟩)⟩
   ·refine jP H underlying24 ti2 kk.toNat rfl rfl qf qf qf fun aai au5 H=>⟨H.pick (zR 3 4) [0,1],(yP aby ⟨_,sA,sj,C4,aai,CR,uE9,Nv,K7,N,H⟩)⟩
   refine zn H ti110 [yI 0,yI 0,yN,yN,yN,yN,yN,yN,Bv false] fun asT afW H=>⟨H.pick (zR 3 4) [0,1],(yP Zl ⟨_,sA,sj,C4,asT,CR,uE10,Nv,K7,N,H⟩)⟩
  refine QX (fun ρ w239=>∃(xP:Env) (si:Int) (st:Int) (DK:Nat) (CW:Int),ρ=upd (upd (upd (upd (upd (upd (upd (upd (upd xP 0<|pp bs 0) 1<|pp bY 0) 4<|pp b1 0) 5<|yI par.length) 15<|yI st) 16<|pp bs 0) 20<|yI kk) 25<|yI kk) 31 (Sv (aa DK 0) kk.toNat kk.toNat)/\(ip<=si/\si<=ip+2)/\(0<=st/\(st<par.length\/st=0))/\Fresh W0.heap.size (bZ::Ns)/\St W0 w239 ((rr (aa DK 0) kk.toNat kk.toNat 2 1 ((List.replicate kk.toNat (0:Int)).map<|Value.int .i64))::(.box bs [Sv ac ag.length cc,yI si,.int .u64 CW] 116)::(.box b1 [yI 0,yI 0,yN,yN,yN,yN,yN,yN,Bv false] 110)::(.box bY [yI kk,Sv lu par.length lr,Sv lq rules.length ls] 27)::(rr lu par.length lr 2 1<|par.map<|Value.int .i64)::(rr lq rules.length ls 110 9 eE)::ps) ((sF false Fc ac cc ag)::(qQ true bZ eE rules)::Γ)) 5 #[true,true,true,true,true,true,true,true,false,true,true,true,true,false,true,true,true,true,true,false,false,false] ?_ fun aod=>?_
  ·rintro ρ aus ⟨xP,si,st,DK,CW,rfl,MC,Mp,N,H⟩
   refine jC [8,13,20] qh qm<|yV rfl ?_<|yV rfl ?_<|yV rfl ?_ jD
   ·have H1:=H.yt 6 2 [1,0,2,3,4,5] [0,1] (by simp only[List.length_cons,List.length_append];omega) (by simp only[List.length_cons,List.length_append];omega)
    have N1:Fresh _ (bZ::Ns):=N
    have K1:Kept (Ns) ((qQ true bZ eE rules)::Γ):=K0.behind 1 rfl
    replace K1:=K1.cons (F:=bZ) 0 rfl rfl
    refine zD #[pp bs 0,yI kk,yI 2] rfl rfl call146 (Xd ag si CW bs ac cc Fc kk (2:Int) H1 N1 K1 qg qg qg) ?_
    clear H H1 N1 K1
    rintro _ afE ⟨amD,aoG,amf,alj,ay1,ao7,afo,ahb,rfl,N,H⟩
    obtain rfl:=H.Qc 1 rfl
    refine⟨H.pick (zR 3 4) [0,1],(yP L67 ⟨_,si,st,amD,amf,alj,ao7,DK,aoG,uE8,MC,Mp,afo,ahb,N,H.xm 7 2 [2,0,1,3,4,5,6] [0,1] (by simp only[List.length_cons,List.length_append];omega)<|by simp only[List.length_cons,List.length_append];omega⟩)⟩
   ·refine jP H underlying24 ti2 kk.toNat rfl rfl qf qf qf fun ax1 aHC H=>⟨H.pick (zR 3 4) [0,1],(yP aby ⟨_,si,st,ax1,DK,CW,uE9,MC,Mp,N,H.xm 7 2 (1::0::zR 2 5) [0,1] (by simp only[List.length_cons,List.length_append];omega)<|by simp only[List.length_cons,List.length_append];omega⟩)⟩
   refine zn H ti110 [yI 0,yI 0,yN,yN,yN,yN,yN,yN,Bv false] fun axF aIy H=>⟨H.pick (zR 3 4) [0,1],(yP Y9 ⟨_,si,st,DK,axF,CW,uE10,MC,Mp,N,H⟩)⟩
  refine QX (fun ρ apz=>∃(xP:Env) (sB:Int) (sr:Int) (Il:Nat) (CB:Int),ρ=upd (upd (upd (upd (upd (upd (upd (upd (upd (upd xP 0<|pp bs 0) 1<|pp bY 0) 4<|pp b1 0) 5<|yI par.length) 6<|pp Il 0) 15<|yI sr) 16<|pp bs 0) 20<|yI kk) 25<|yI kk) 30 (yI kk)/\(ip<=sB/\sB<=ip+2)/\(0<=sr/\(sr<par.length\/sr=0))/\Fresh W0.heap.size (bZ::Ns)/\St W0 apz ((.box Il [yI 0,yI 0,yN,yN,yN,yN,yN,yN,Bv false] 110)::(.box bs [Sv ac ag.length cc,yI sB,.int .u64 CB] 116)::(.box b1 [yI 0,yI 0,yN,yN,yN,yN,yN,yN,Bv false] 110)::(.box bY [yI kk,Sv lu par.length lr,Sv lq rules.length ls] 27)::(rr lu par.length lr 2 1<|par.map<|Value.int .i64)::(rr lq rules.length ls 110 9 eE)::ps) ((sF false Fc ac cc ag)::(qQ true bZ eE rules)::Γ)) 5 #[true,true,true,true,true,true,true,true,false,true,true,true,true,false,true,true,true,true,false,false,true,false] ?_ fun apZ=>?_
  ·rintro ρ axX ⟨xP,sB,sr,Il,CB,rfl,L9,OA,N,H⟩
   refine jC [8,13,18] qh qm<|yV rfl ?_<|yV rfl ?_<|yV rfl ?_ jD
   ·have H1:=H.yt 6 2 [1,0,2,3,4,5] [0,1] (by simp only[List.length_cons,List.length_append];omega) (by simp only[List.length_cons,List.length_append];omega)
    have N1:Fresh _ (bZ::Ns):=N
    have K1:Kept (Ns) ((qQ true bZ eE rules)::Γ):=K0.behind 1 rfl
    replace K1:=K1.cons (F:=bZ) 0 rfl rfl
    refine zD #[pp bs 0,yI kk,yI 2] rfl rfl call146 (Xd ag sB CB bs ac cc Fc kk (2:Int) H1 N1 K1 qg qg qg) ?_
    clear H H1 N1 K1
    rintro _ aCN ⟨aeG,aoF,akl,aoX,az9,apd,agx,afi,rfl,N,H⟩
    obtain rfl:=H.Qc 1 rfl
    refine⟨H.pick (zR 3 4) [0,1],(yP L89 ⟨_,sB,sr,aeG,akl,aoX,apd,Il,aoF,uE9,L9,OA,agx,afi,N,H.xm 7 2 [2,0,1,3,4,5,6] [0,1] (by simp only[List.length_cons,List.length_append];omega)<|by simp only[List.length_cons,List.length_append];omega⟩)⟩
   ·refine jP H underlying24 ti2 kk.toNat rfl rfl qf qf qf fun avE aEZ H=>⟨H.pick (zR 3 4) [0,1],(yP Zl ⟨_,sB,sr,avE,Il,CB,uE10,L9,OA,N,H.xm 7 2 (1::0::zR 2 5) [0,1] (by simp only[List.length_cons,List.length_append];omega)<|by simp only[List.length_cons,List.length_append];omega⟩)⟩
   refine jP H underlying24 ti2 kk.toNat rfl rfl qf qf qf fun auh aDf H=>⟨H.pick (zR 3 4) [0,1],(yP Y9 ⟨_,sB,sr,auh,Il,CB,uE10,L9,OA,N,H.xm 7 2 (1::0::zR 2 5) [0,1] (by simp only[List.length_cons,List.length_append];omega)<|by simp only[List.length_cons,List.length_append];omega⟩)⟩
  refine QX (fun ρ w283=>∃(xP:Env) (Dm:Nat) (CP:Nat),ρ=upd (upd (upd (upd (upd (upd (upd (upd (upd (upd xP 0<|pp bs 0) 1<|pp bY 0) 4<|pp b1 0) 5<|yI par.length) 13<|pp bs 0) 14<|yI par.length) 16<|pp bs 0) 20<|yI kk) 26<|Sv (aa Dm 0) kk.toNat kk.toNat) 31 (Sv (aa CP 0) kk.toNat kk.toNat)/\Fresh W0.heap.size (bZ::Ns)/\St W0 w283 ((rr (aa CP 0) kk.toNat kk.toNat 2 1 ((List.replicate kk.toNat (0:Int)).map<|Value.int .i64))::(rr (aa Dm 0) kk.toNat kk.toNat 2 1 ((List.replicate kk.toNat (0:Int)).map<|Value.int .i64))::(.box b1 [yI 0,yI 0,yN,yN,yN,yN,yN,yN,Bv false] 110)::(.box bs [Sv ac ag.length cc,yI ip,.int .u64 sd] 116)::(.box bY [yI kk,Sv lu par.length lr,Sv lq rules.length ls] 27)::(rr lu par.length lr 2 1<|par.map<|Value.int .i64)::(rr lq rules.length ls 110 9 eE)::ps) ((sF false Fc ac cc ag)::(qQ true bZ eE rules)::Γ)) 5 #[true,true,false,true,true,true,true,true,false,true,true,true,true,true,true,true,true,true,true,false,false,false] ?_ fun agb=>?_
  ·rintro ρ axC ⟨xP,Dm,CP,rfl,N,H⟩
   refine jC [2,20] qh qm<|yV rfl ?_<|yV rfl ?_ jD
   ·have H1:=H.yt 7 2 [3,0,1,2,4,5,6] [0,1] (by simp only[List.length_cons,List.length_append];omega) (by simp only[List.length_cons,List.length_append];omega)
    have N1:Fresh _ (bZ::Ns):=N
    have K1:Kept (Ns) ((qQ true bZ eE rules)::Γ):=K0.behind 1 rfl
    replace K1:=K1.cons (F:=bZ) 0 rfl rfl
    refine zD #[pp bs 0,yI par.length] rfl rfl call59 (yR ag ip sd bs ac cc Fc par.length H1 N1 K1 qg) ?_
    clear H H1 N1 K1
    rintro _ aFt ⟨alV,aoS,alB,aeO,ae4,rfl,N,H⟩
    refine⟨H.pick (zR 3 4) [0,1],(yP aby ⟨_,alV,alB,Dm,CP,aoS,uE9,aeO,ae4,N,H.xm 7 2 [1,2,0,3,4,5,6] [0,1] (by simp only[List.length_cons,List.length_append];omega)<|by simp only[List.length_cons,List.length_append];omega⟩)⟩
   refine zn H ti110 [yI 0,yI 0,yN,yN,yN,yN,yN,yN,Bv false] fun ax8 alt H=>⟨H.pick [3,5,6,7] [0,1],(ro 2 rfl ?_)⟩
   have H1:=H.yt 8 2 [4,0,1,2,3,5,6,7] [0,1] (by simp only[List.length_cons,List.length_append];omega)<|by simp only[List.length_cons,List.length_append];omega
   have N1:Fresh _ (bZ::Ns):=N
   have K1:Kept (Ns) ((qQ true bZ eE rules)::Γ):=K0.behind 1 rfl
   replace K1:=K1.cons (F:=bZ) 0 rfl rfl
   refine zD #[pp bs 0,yI par.length] rfl rfl call59 (yR ag ip sd bs ac cc Fc par.length H1 N1 K1 qg) ?_
   clear H H1 N1 K1
   rintro _ axJ ⟨TQ,am7,Hd,aj1,aje,rfl,N,H⟩
   refine⟨H.pick (zR 4 4) [0,1],(ro 8 rfl ?_)⟩
   have H1:=H.yt 8 2 [0,1,2,3,4,5,6,7] [0,1] (by simp only[List.length_cons,List.length_append];omega)<|by simp only[List.length_cons,List.length_append];omega
   have N1:Fresh _ (bZ::Ns):=N
   have K1:Kept (Ns) ((qQ true bZ eE rules)::Γ):=K0.behind 1 rfl
   replace K1:=K1.cons (F:=bZ) 0 rfl rfl
   refine zD #[pp bs 0,yI kk,yI 2] rfl rfl call146 (Xd ag TQ am7 bs ac cc Fc kk (2:Int) H1 N1 K1 qg qg qg) ?_
   clear H H1 N1 K1
   rintro _ aIB ⟨agj,ajl,F9,HM,azn,HC,aly,aeS,rfl,N,H⟩
   obtain rfl:=H.Qc 1 rfl
   refine⟨H.pick (zR 5 4) [0,1],(ro 19 rfl<|jE [yI Hd,yI 0,Sv HM F9.length HC,Sv (aa Dm 0) kk.toNat kk.toNat,Sv (aa CP 0) kk.toNat kk.toNat,yN,yN,yN,Bv false] [(0,yI Hd),(2,Sv HM F9.length HC),(3,Sv (aa Dm 0) kk.toNat kk.toNat),(4,Sv (aa CP 0) kk.toNat kk.toNat)]<|⟨H.pick (zR 5 4) [0,1],(ro 21 rfl ?_)⟩)⟩
   refine zF H 2 [yI Hd,yI 0,Sv HM F9.length HC,Sv (aa Dm 0) kk.toNat kk.toNat,Sv (aa CP 0) kk.toNat kk.toNat,yN,yN,yN,Bv false] sizeOf110 fun anp H=>?_
   dsimp only[List.set] at H
   refine⟨H.pick (zR 5 4) [0,1],(xy qh ((meet ⟨_,TQ,Hd,agj,F9,ax8,HM,HC,Dm,CP,ajl,uE5,aj1,aje,aly,aeS,N,H.xm 9 2 [2,3,4,0,1,5,6,7,8] [0,1] (by simp only[List.length_cons,List.length_append];omega)<|by simp only[List.length_cons,List.length_append];omega⟩)))⟩
  refine QX (fun ρ w315=>∃(xP:Env) (Cd:Nat) (Oi:Nat),ρ=upd (upd (upd (upd (upd (upd (upd (upd (upd (upd (upd xP 0<|pp bs 0) 1<|pp bY 0) 4<|pp b1 0) 5<|yI par.length) 6<|pp Oi 0) 13<|pp bs 0) 14<|yI par.length) 16<|pp bs 0) 20<|yI kk) 26<|Sv (aa Cd 0) kk.toNat kk.toNat) 30 (yI kk)/\Fresh W0.heap.size (bZ::Ns)/\St W0 w315 ((.box Oi [yI 0,yI 0,yN,yN,yN,yN,yN,yN,Bv false] 110)::(rr (aa Cd 0) kk.toNat kk.toNat 2 1 ((List.replicate kk.toNat (0:Int)).map<|Value.int .i64))::(.box b1 [yI 0,yI 0,yN,yN,yN,yN,yN,yN,Bv false] 110)::(.box bs [Sv ac ag.length cc,yI ip,.int .u64 sd] 116)::(.box bY [yI kk,Sv lu par.length lr,Sv lq rules.length ls] 27)::(rr lu par.length lr 2 1<|par.map<|Value.int .i64)::(rr lq rules.length ls 110 9 eE)::ps) ((sF false Fc ac cc ag)::(qQ true bZ eE rules)::Γ)) 5 #[true,true,false,true,true,true,true,true,false,true,true,true,true,true,true,true,true,true,false,false,true,false] ?_ fun afc=>?_
  ·rintro ρ aGw ⟨xP,Cd,Oi,rfl,N,H⟩
   refine jC [2,18] qh qm<|yV rfl ?_<|yV rfl ?_ jD
   ·have H1:=H.yt 7 2 [3,0,1,2,4,5,6] [0,1] (by simp only[List.length_cons,List.length_append];omega) (by simp only[List.length_cons,List.length_append];omega)
    have N1:Fresh _ (bZ::Ns):=N
    have K1:Kept (Ns) ((qQ true bZ eE rules)::Γ):=K0.behind 1 rfl
    replace K1:=K1.cons (F:=bZ) 0 rfl rfl
    refine zD #[pp bs 0,yI par.length] rfl rfl call59 (yR ag ip sd bs ac cc Fc par.length H1 N1 K1 qg) ?_
    clear H H1 N1 K1
    rintro _ aE1 ⟨ai2,anz,afX,ag9,ap4,rfl,N,H⟩
    refine⟨H.pick (zR 3 4) [0,1],(yP Zl ⟨_,ai2,afX,Cd,Oi,anz,uE10,ag9,ap4,N,H.xm 7 2 [1,2,0,3,4,5,6] [0,1] (by simp only[List.length_cons,List.length_append];omega)<|by simp only[List.length_cons,List.length_append];omega⟩)⟩
   refine jP H underlying24 ti2 kk.toNat rfl rfl qf qf qf fun RV ajp H=>⟨H.pick [3,5,6,7] [0,1],(ro 2 rfl ?_)⟩
   have H1:=H.yt 8 2 [4,0,1,2,3,5,6,7] [0,1] (by simp only[List.length_cons,List.length_append];omega)<|by simp only[List.length_cons,List.length_append];omega
   have N1:Fresh _ (bZ::Ns):=N
   have K1:Kept (Ns) ((qQ true bZ eE rules)::Γ):=K0.behind 1 rfl
   replace K1:=K1.cons (F:=bZ) 0 rfl rfl
   refine zD #[pp bs 0,yI par.length] rfl rfl call59 (yR ag ip sd bs ac cc Fc par.length H1 N1 K1 qg) ?_
   clear H H1 N1 K1
   rintro _ ax4 ⟨Tk,akY,Gw,OS,aox,rfl,N,H⟩
   refine⟨H.pick (zR 4 4) [0,1],(ro 8 rfl ?_)⟩
   have H1:=H.yt 8 2 [0,1,2,3,4,5,6,7] [0,1] (by simp only[List.length_cons,List.length_append];omega)<|by simp only[List.length_cons,List.length_append];omega
   have N1:Fresh _ (bZ::Ns):=N
   have K1:Kept (Ns) ((qQ true bZ eE rules)::Γ):=K0.behind 1 rfl
   replace K1:=K1.cons (F:=bZ) 0 rfl rfl
   refine zD #[pp bs 0,yI kk,yI 2] rfl rfl call146 (Xd ag Tk akY bs ac cc Fc kk (2:Int) H1 N1 K1 qg qg qg) ?_
   clear H H1 N1 K1
   rintro _ aHr ⟨akn,ahL,HA,GL,aBT,Hg,am4,ana,rfl,N,H⟩
   obtain rfl:=H.Qc 1 rfl
   refine⟨H.pick (zR 5 4) [0,1],(ro 19 rfl<|jE [yI Gw,yI 0,Sv GL HA.length Hg,Sv (aa Cd 0) kk.toNat kk.toNat,Sv (aa RV 0) kk.toNat kk.toNat,yN,yN,yN,Bv false] [(0,yI Gw),(2,Sv GL HA.length Hg),(3,Sv (aa Cd 0) kk.toNat kk.toNat),(4,Sv (aa RV 0) kk.toNat kk.toNat)]<|⟨H.pick (zR 5 4) [0,1],(ro 21 rfl ?_)⟩)⟩
   refine zF H 3 [yI Gw,yI 0,Sv GL HA.length Hg,Sv (aa Cd 0) kk.toNat kk.toNat,Sv (aa RV 0) kk.toNat kk.toNat,yN,yN,yN,Bv false] sizeOf110 fun aGE H=>?_
   dsimp only[List.set] at H
   refine⟨H.pick (zR 5 4) [0,1],(xy qh ((meet ⟨_,Tk,Gw,akn,HA,Oi,GL,Hg,Cd,RV,ahL,uE5,OS,aox,am4,ana,N,H.xm 9 2 [3,2,4,0,1,5,6,7,8] [0,1] (by simp only[List.length_cons,List.length_append];omega)<|by simp only[List.length_cons,List.length_append];omega⟩)))⟩
  refine QX (fun ρ w347=>∃(xP:Env) (C9:Nat) (Ek:Nat),ρ=upd (upd (upd (upd (upd (upd (upd (upd (upd (upd (upd xP 0<|pp bs 0) 1<|pp bY 0) 4<|pp b1 0) 5<|yI par.length) 6<|pp Ek 0) 13<|pp bs 0) 14<|yI par.length) 16<|pp bs 0) 20<|yI kk) 25<|yI kk) 31 (Sv (aa C9 0) kk.toNat kk.toNat)/\Fresh W0.heap.size (bZ::Ns)/\St W0 w347 ((.box Ek [yI 0,yI 0,yN,yN,yN,yN,yN,yN,Bv false] 110)::(rr (aa C9 0) kk.toNat kk.toNat 2 1 ((List.replicate kk.toNat (0:Int)).map<|Value.int .i64))::(.box b1 [yI 0,yI 0,yN,yN,yN,yN,yN,yN,Bv false] 110)::(.box bs [Sv ac ag.length cc,yI ip,.int .u64 sd] 116)::(.box bY [yI kk,Sv lu par.length lr,Sv lq rules.length ls] 27)::(rr lu par.length lr 2 1<|par.map<|Value.int .i64)::(rr lq rules.length ls 110 9 eE)::ps) ((sF false Fc ac cc ag)::(qQ true bZ eE rules)::Γ)) 5 #[true,true,false,true,true,true,true,true,false,true,true,true,true,false,true,true,true,true,true,false,true,false] ?_ fun ajo=>?_
  ·rintro ρ aGc ⟨xP,C9,Ek,rfl,N,H⟩
   refine jC [2,13] qh qm<|yV rfl ?_<|yV rfl ?_ jD
   ·have H1:=H.yt 7 2 [3,0,1,2,4,5,6] [0,1] (by simp only[List.length_cons,List.length_append];omega) (by simp only[List.length_cons,List.length_append];omega)
    have N1:Fresh _ (bZ::Ns):=N
    have K1:Kept (Ns) ((qQ true bZ eE rules)::Γ):=K0.behind 1 rfl
    replace K1:=K1.cons (F:=bZ) 0 rfl rfl
    refine zD #[pp bs 0,yI par.length] rfl rfl call59 (yR ag ip sd bs ac cc Fc par.length H1 N1 K1 qg) ?_
    clear H H1 N1 K1
    rintro _ aD1 ⟨aob,amd,anf,anY,Ft,rfl,N,H⟩
    refine⟨H.pick (zR 3 4) [0,1],(yP Y9 ⟨_,aob,anf,C9,Ek,amd,uE10,anY,Ft,N,H.xm 7 2 [1,2,0,3,4,5,6] [0,1] (by simp only[List.length_cons,List.length_append];omega)<|by simp only[List.length_cons,List.length_append];omega⟩)⟩
   refine jP H underlying24 ti2 kk.toNat rfl rfl qf qf qf fun R1 aEb H=>⟨H.pick [3,5,6,7] [0,1],(ro 2 rfl ?_)⟩
   have H1:=H.yt 8 2 [4,0,1,2,3,5,6,7] [0,1] (by simp only[List.length_cons,List.length_append];omega)<|by simp only[List.length_cons,List.length_append];omega
   have N1:Fresh _ (bZ::Ns):=N
   have K1:Kept (Ns) ((qQ true bZ eE rules)::Γ):=K0.behind 1 rfl
   replace K1:=K1.cons (F:=bZ) 0 rfl rfl
   refine zD #[pp bs 0,yI par.length] rfl rfl call59 (yR ag ip sd bs ac cc Fc par.length H1 N1 K1 qg) ?_
   clear H H1 N1 K1
   rintro _ aCE ⟨WF,akM,GG,aoH,aeH,rfl,N,H⟩
   refine⟨H.pick (zR 4 4) [0,1],(ro 8 rfl ?_)⟩
   have H1:=H.yt 8 2 [0,1,2,3,4,5,6,7] [0,1] (by simp only[List.length_cons,List.length_append];omega)<|by simp only[List.length_cons,List.length_append];omega
   have N1:Fresh _ (bZ::Ns):=N
   have K1:Kept (Ns) ((qQ true bZ eE rules)::Γ):=K0.behind 1 rfl
   replace K1:=K1.cons (F:=bZ) 0 rfl rfl
   refine zD #[pp bs 0,yI kk,yI 2] rfl rfl call146 (Xd ag WF akM bs ac cc Fc kk (2:Int) H1 N1 K1 qg qg qg) ?_
   clear H H1 N1 K1
   rintro _ aHL ⟨aiR,ahj,FT,GH,aAS,Gn,aho,FG,rfl,N,H⟩
   obtain rfl:=H.Qc 1 rfl
   refine⟨H.pick (zR 5 4) [0,1],(ro 19 rfl<|jE [yI GG,yI 0,Sv GH FT.length Gn,Sv (aa R1 0) kk.toNat kk.toNat,Sv (aa C9 0) kk.toNat kk.toNat,yN,yN,yN,Bv false] [(0,yI GG),(2,Sv GH FT.length Gn),(3,Sv (aa R1 0) kk.toNat kk.toNat),(4,Sv (aa C9 0) kk.toNat kk.toNat)]<|⟨H.pick (zR 5 4) [0,1],(ro 21 rfl ?_)⟩)⟩
   refine zF H 3 [yI GG,yI 0,Sv GH FT.length Gn,Sv (aa R1 0) kk.toNat kk.toNat,Sv (aa C9 0) kk.toNat kk.toNat,yN,yN,yN,Bv false] sizeOf110 fun aFX H=>?_
   dsimp only[List.set] at H
   refine⟨H.pick (zR 5 4) [0,1],(xy qh ((meet ⟨_,WF,GG,aiR,FT,Ek,GH,Gn,R1,C9,ahj,uE5,aoH,aeH,aho,FG,N,H.xm 9 2 [3,4,2,0,1,5,6,7,8] [0,1] (by simp only[List.length_cons,List.length_append];omega)<|by simp only[List.length_cons,List.length_append];omega⟩)))⟩
  have S:=H.zW [0,2,3,4] [0,1]
  refine rtl 0 S ?_
  refine rtl 1 S ?_
  refine rtl 3 S ?_
  refine rtl 4 S ?_
  refine rtl 5 S ?_
  refine tF 6 rfl rfl S ?_
  refine tL 7 rfl rfl (fun _ h=>h.cell 1 rfl rfl) S ?_
  refine rtl 9 S ?_
  refine rtl 10 S ?_
  refine tF 11 rfl rfl S ?_
  refine tL 12 rfl rfl (fun _ h=>h.cell 1 rfl rfl) S ?_
  refine rtl 14 S ?_
  refine rtl 15 S ?_
  refine tF 16 rfl rfl S ?_
  refine tL 17 rfl rfl (fun _ h=>h.cell 1 rfl rfl) S ?_
  refine jC [2,13,18,20] qh qm<|yV rfl ?_<|yV rfl ?_<|yV rfl ?_<|yV rfl ?_ jD
  ·have H1:=H.yt 5 2 [1,0,2,3,4] [0,1] (by simp only[List.length_cons,List.length_append];omega) (by simp only[List.length_cons,List.length_append];omega)
   have N1:Fresh _ (bZ::Ns):=N
   have K1:Kept (Ns) ((qQ true bZ eE rules)::Γ):=K0.behind 1 rfl
   replace K1:=K1.cons (F:=bZ) 0 rfl rfl
   refine zD #[pp bs 0,yI par.length] rfl rfl call59 (yR ag ip sd bs ac cc Fc par.length H1 N1 K1 qg) ?_
   clear H H1 N1 K1
   rintro _ aEp ⟨u0,H2,za,yi,yd,rfl,N,H⟩
   refine⟨H.pick (zR 1 4) [0,1],(jC [8,13,18,20] qh qm<|yV rfl ?_<|yV rfl ?_<|yV rfl ?_<|yV rfl ?_ jD)⟩
   ·have H1:=H.yt 5 2 [0,1,2,3,4] [0,1] (by simp only[List.length_cons,List.length_append];omega) (by simp only[List.length_cons,List.length_append];omega)
    have N1:Fresh _ (bZ::Ns):=N
    have K1:Kept (Ns) ((qQ true bZ eE rules)::Γ):=K0.behind 1 rfl
    replace K1:=K1.cons (F:=bZ) 0 rfl rfl
    refine zD #[pp bs 0,yI kk,yI 2] rfl rfl call146 (Xd ag u0 H2 bs ac cc Fc kk (2:Int) H1 N1 K1 qg qg qg) ?_
    clear H H1 N1 K1
    rintro _ aCP ⟨KQ,Ll,O6,Nn,aAt,Ma,N6,Mk,rfl,N,H⟩
    obtain rfl:=H.Qc 1 rfl
    refine⟨H.pick (zR 2 4) [0,1],(jC [13,18,20] qh qm<|yV rfl ?_<|yV rfl ?_<|yV rfl ?_ jD)⟩
    ·refine jP H underlying24 ti2 kk.toNat rfl rfl qf qf qf fun ayC aDQ H=>⟨H.pick (zR 3 4) [0,1],(yP L45 ⟨_,u0,za,KQ,O6,Nn,Ma,ayC,Ll,uE8,yi,yd,N6,Mk,N,H⟩)⟩
    ·refine jP H underlying24 ti2 kk.toNat rfl rfl qf qf qf fun aot aCL H=>⟨H.pick (zR 3 4) [0,1],(yP L67 ⟨_,u0,za,KQ,O6,Nn,Ma,aot,Ll,uE8,yi,yd,N6,Mk,N,H⟩)⟩
    refine zn H ti110 [yI 0,yI 0,yN,yN,yN,yN,yN,yN,Bv false] fun ayu aG5 H=>⟨H.pick (zR 3 4) [0,1],(yP L89 ⟨_,u0,za,KQ,O6,Nn,Ma,ayu,Ll,uE9,yi,yd,N6,Mk,N,H⟩)⟩
   ·refine jP H underlying24 ti2 kk.toNat rfl rfl qf qf qf fun awI aEY H=>⟨H.pick (zR 2 4) [0,1],(yP aeK ⟨_,u0,za,awI,H2,uE9,yi,yd,N,H⟩)⟩
   ·refine jP H underlying24 ti2 kk.toNat rfl rfl qf qf qf fun awc aDM H=>⟨H.pick (zR 2 4) [0,1],(yP aod ⟨_,u0,za,awc,H2,uE9,yi,yd,N,H⟩)⟩
   refine zn H ti110 [yI 0,yI 0,yN,yN,yN,yN,yN,yN,Bv false] fun aw8 aFr H=>⟨H.pick (zR 2 4) [0,1],(yP apZ ⟨_,u0,za,aw8,H2,uE10,yi,yd,N,H⟩)⟩
  ·refine jP H underlying24 ti2 kk.toNat rfl rfl qf qf qf fun Zt atW H=>⟨H.pick [1,3,4,5] [0,1],(jC [2,18,20] qh qm<|yV rfl ?_<|yV rfl ?_<|yV rfl ?_ jD)⟩
   ·have H1:=H.yt 6 2 [2,0,1,3,4,5] [0,1] (by simp only[List.length_cons,List.length_append];omega) (by simp only[List.length_cons,List.length_append];omega)
    have N1:Fresh _ (bZ::Ns):=N
    have K1:Kept (Ns) ((qQ true bZ eE rules)::Γ):=K0.behind 1 rfl
    replace K1:=K1.cons (F:=bZ) 0 rfl rfl
    refine zD #[pp bs 0,yI par.length] rfl rfl call59 (yR ag ip sd bs ac cc Fc par.length H1 N1 K1 qg) ?_
    clear H H1 N1 K1
    rintro _ aD6 ⟨aoA,amj,ajW,alm,alo,rfl,N,H⟩
    refine⟨H.pick (zR 2 4) [0,1],(yP aeK ⟨_,aoA,ajW,Zt,amj,uE9,alm,alo,N,H.xm 6 2 [1,0,2,3,4,5] [0,1] (by simp only[List.length_cons,List.length_append];omega)<|by simp only[List.length_cons,List.length_append];omega⟩)⟩
   ·refine jP H underlying24 ti2 kk.toNat rfl rfl qf qf qf fun auk aHb H=>⟨H.pick [2,4,5,6] [0,1],(yP agb ⟨_,Zt,auk,uE10,N,H⟩)⟩
   refine zn H ti110 [yI 0,yI 0,yN,yN,yN,yN,yN,yN,Bv false] fun auJ as3 H=>⟨H.pick [2,4,5,6] [0,1],(yP afc ⟨_,Zt,auJ,uE11,N,H⟩)⟩
  ·refine jP H underlying24 ti2 kk.toNat rfl rfl qf qf qf fun CA aIx H=>⟨H.pick [1,3,4,5] [0,1],(jC [2,13,20] qh qm<|yV rfl ?_<|yV rfl ?_<|yV rfl ?_ jD)⟩
   ·have H1:=H.yt 6 2 [2,0,1,3,4,5] [0,1] (by simp only[List.length_cons,List.length_append];omega) (by simp only[List.length_cons,List.length_append];omega)
    have N1:Fresh _ (bZ::Ns):=N
    have K1:Kept (Ns) ((qQ true bZ eE rules)::Γ):=K0.behind 1 rfl
    replace K1:=K1.cons (F:=bZ) 0 rfl rfl
    refine zD #[pp bs 0,yI par.length] rfl rfl call59 (yR ag ip sd bs ac cc Fc par.length H1 N1 K1 qg) ?_
    clear H H1 N1 K1
    rintro _ aDE ⟨aoE,anL,afh,M8,afz,rfl,N,H⟩
    refine⟨H.pick (zR 2 4) [0,1],(yP aod ⟨_,aoE,afh,CA,anL,uE9,M8,afz,N,H.xm 6 2 [1,0,2,3,4,5] [0,1] (by simp only[List.length_cons,List.length_append];omega)<|by simp only[List.length_cons,List.length_append];omega⟩)⟩
   ·refine jP H underlying24 ti2 kk.toNat rfl rfl qf qf qf fun asw aC8 H=>⟨H.pick [2,4,5,6] [0,1],(yP agb ⟨_,asw,CA,uE10,N,H.xm 7 2 (1::0::zR 2 5) [0,1] (by simp only[List.length_cons,List.length_append];omega)<|by simp only[List.length_cons,List.length_append];omega⟩)⟩
   refine zn H ti110 [yI 0,yI 0,yN,yN,yN,yN,yN,yN,Bv false] fun at2 ayr H=>⟨H.pick [2,4,5,6] [0,1],(yP ajo ⟨_,CA,at2,uE11,N,H⟩)⟩
  refine zn H ti110 [yI 0,yI 0,yN,yN,yN,yN,yN,yN,Bv false] fun acK av9 H=>⟨H.pick [1,3,4,5] [0,1],(jC [2,13,18] qh qm<|yV rfl ?_<|yV rfl ?_<|yV rfl ?_ jD)⟩
  ·have H1:=H.yt 6 2 [2,0,1,3,4,5] [0,1] (by simp only[List.length_cons,List.length_append];omega) (by simp only[List.length_cons,List.length_append];omega)
   have N1:Fresh _ (bZ::Ns):=N
   have K1:Kept (Ns) ((qQ true bZ eE rules)::Γ):=K0.behind 1 rfl
   replace K1:=K1.cons (F:=bZ) 0 rfl rfl
   refine zD #[pp bs 0,yI par.length] rfl rfl call59 (yR ag ip sd bs ac cc Fc par.length H1 N1 K1 qg) ?_
   clear H H1 N1 K1
   rintro _ aDb ⟨ak9,ao9,akB,alE,amH,rfl,N,H⟩
   refine⟨H.pick (zR 2 4) [0,1],(yP apZ ⟨_,ak9,akB,acK,ao9,uE10,alE,amH,N,H.xm 6 2 [1,0,2,3,4,5] [0,1] (by simp only[List.length_cons,List.length_append];omega)<|by simp only[List.length_cons,List.length_append];omega⟩)⟩
  ·refine jP H underlying24 ti2 kk.toNat rfl rfl qf qf qf fun axM aDz H=>⟨H.pick [2,4,5,6] [0,1],(yP afc ⟨_,axM,acK,uE11,N,H.xm 7 2 (1::0::zR 2 5) [0,1] (by simp only[List.length_cons,List.length_append];omega)<|by simp only[List.length_cons,List.length_append];omega⟩)⟩
  refine jP H underlying24 ti2 kk.toNat rfl rfl qf qf qf fun axk aEM H=>⟨H.pick [2,4,5,6] [0,1],(yP ajo ⟨_,axk,acK,uE11,N,H.xm 7 2 (1::0::zR 2 5) [0,1] (by simp only[List.length_cons,List.length_append];omega)<|by simp only[List.length_cons,List.length_append];omega⟩)⟩
 clear H N
 rintro ρ aEB ⟨xP,zi3,nT,PM,md,b7,mr,mc,wS,sT,Rs,rfl,ayN,aBj,ay0,aAT,N,H⟩
 refine t_n<|zcr<|sq 3<|oF rfl<|oL rfl (H.cell 6 rfl rfl) ?_
 have H1:=H.yt 9 2 [3,0,1,2,4,5,6,7,8] [0,1] (by simp only[List.length_cons,List.length_append];omega)<|by simp only[List.length_cons,List.length_append];omega
 have N1:Fresh _ (bZ::Ns):=N
 have K1:Kept (Ns) ((qQ true bZ eE rules)::Γ):=K0.behind 1 rfl
 replace K1:=K1.cons (F:=bZ) 0 rfl rfl
 refine sw<|zD #[pp bs 0,yI kk,yI 2] rfl rfl call61 (dFew_ok ag PM Rs bs ac cc Fc kk (2:Int) H1 N1 K1 qg qg qg) ?_
 clear H H1 N1 K1
 rintro _ aGm ⟨apR,ajE,dI,eo,aCs,em,ay6,ayW,rfl,N,H⟩
 obtain rfl:=H.Qc 1 rfl
 refine oF rfl<|sw<|zh H 2 [yI nT,yI 0,Sv mr md.length mc,Sv (aa wS 0) kk.toNat kk.toNat,Sv (aa sT 0) kk.toNat kk.toNat,Sv eo dI.length em,yN,yN,Bv false] sizeOf24 fun aGi H=>?_
 dsimp only[List.set] at H
 refine zjc<|sq 3<|oF rfl<|oL rfl (H.cell 7 rfl rfl) ?_
 have H1:=H.yt 10 2 [0,1,2,3,4,5,6,7,8,9] [0,1] (by simp only[List.length_cons,List.length_append];omega)<|by simp only[List.length_cons,List.length_append];omega
 have N1:Fresh _ (bZ::Ns):=N
 have K1:Kept (Ns) ((qQ true bZ eE rules)::Γ):=K0.behind 1 rfl
 replace K1:=K1.cons (F:=bZ) 0 rfl rfl
 refine sw<|zD #[pp bs 0,yI kk,yI 1] rfl rfl call61 (dFew_ok ag apR ajE bs ac cc Fc kk (1:Int) H1 N1 K1 qg qg qg) ?_
 clear H H1 N1 K1
 rintro _ aC6 ⟨ai3,akj,dP,eC,ay2,eD,aAb,aCm,rfl,N,H⟩
 obtain rfl:=H.Qc 1 rfl
 refine oF rfl<|sw<|zh H 3 [yI nT,yI 0,Sv mr md.length mc,Sv (aa wS 0) kk.toNat kk.toNat,Sv (aa sT 0) kk.toNat kk.toNat,Sv eo dI.length em,Sv eC dP.length eD,yN,Bv false] sizeOf24 fun aDv H=>?_
 dsimp only[List.set] at H
 refine zjcc<|sq 1 ?_
 have H1:=H.yt 11 2 [0,1,2,3,4,5,6,7,8,9,10] [0,1] (by simp only[List.length_cons,List.length_append];omega)<|by simp only[List.length_cons,List.length_append];omega
 have N1:Fresh _ (bZ::Ns):=N
 have K1:Kept (Ns) ((qQ true bZ eE rules)::Γ):=K0.behind 1 rfl
 replace K1:=K1.cons (F:=bZ) 0 rfl rfl
 refine sw<|zD #[pp bs 0,yI 5] rfl rfl call58 (dOne_ok ag ai3 akj bs ac cc Fc (5:Int) H1 N1 K1 qg) ?_
 clear H H1 N1 K1
 rintro _ aF7 ⟨Yq,Yl,azD,azW,rfl,N,H⟩
 refine zjn<|c_cut (fun ρ w477=>∃(xP:Env) (eF:Int) (dB:Int) (Qm:yOA) (Qk:Nat) (Ql:Nat) (nO:yLI),ρ=upd (upd (upd (upd (upd xP 0<|pp bs 0) 1<|pp bY 0) 4<|pp b1 0) 5<|yI par.length) 6 (pp b7 0)/\(jk kk 1 nO)/\(ip<=eF/\eF<=ip+92)/\Fresh W0.heap.size (bZ::Ns)/\St W0 w477 ((.box bs [Sv ac ag.length cc,yI eF,.int .u64 dB] 116)::(rr eC dP.length eD 2 1<|dP.map<|Value.int .i64)::(rr eo dI.length em 2 1<|dI.map<|Value.int .i64)::(.box b7 [yI nT,yI 0,Sv mr md.length mc,Sv Qm Qk Ql,Sv (aa sT 0) kk.toNat kk.toNat,Sv eo dI.length em,Sv eC dP.length eD,yN,Bv false] 110)::(rr (aa sT 0) kk.toNat kk.toNat 2 1 ((List.replicate kk.toNat (0:Int)).map<|Value.int .i64))::(rr Qm Qk Ql 2 1<|nO.map<|Value.int .i64)::(rr mr md.length mc 2 1<|md.map<|Value.int .i64)::(.box b1 [yI 0,yI 0,yN,yN,yN,yN,yN,yN,Bv false] 110)::(.box bY [yI kk,Sv lu par.length lr,Sv lq rules.length ls] 27)::(rr lu par.length lr 2 1<|par.map<|Value.int .i64)::(rr lq rules.length ls 110 9 eE)::ps) ((sF false Fc ac cc ag)::(qQ true bZ eE rules)::Γ)) ?_ ?_
 ·refine vg _ rfl (fun as5=>?_) (fun as5=>?_)
  ·refine xX (sq 3<|oF rfl<|oL rfl (H.cell 8 rfl rfl) ?_)
   have H1:=H.yt 11 2 [0,1,2,3,4,5,6,7,8,9,10] [0,1] (by simp only[List.length_cons,List.length_append];omega)<|by simp only[List.length_cons,List.length_append];omega
   have N1:Fresh _ (bZ::Ns):=N
   have K1:Kept (Ns) ((qQ true bZ eE rules)::Γ):=K0.behind 1 rfl
   replace K1:=K1.cons (F:=bZ) 0 rfl rfl
   refine sw<|zD #[pp bs 0,yI kk,yI 1] rfl rfl call146 (Xd ag Yq Yl bs ac cc Fc kk (1:Int) H1 N1 K1 qg qg qg) ?_
   clear H H1 N1 K1
   rintro _ aEJ ⟨ajC,ahf,LI,YL,az2,UQ,aBI,ayZ,rfl,N,H⟩
   obtain rfl:=H.Qc 1 rfl
   refine oF rfl<|sw<|zh H 4 [yI nT,yI 0,Sv mr md.length mc,Sv YL LI.length UQ,Sv (aa sT 0) kk.toNat kk.toNat,Sv eo dI.length em,Sv eC dP.length eD,yN,Bv false] sizeOf24 fun aIW H=>?_
   dsimp only[List.set] at H
   refine xU<|meet ⟨_,ajC,ahf,YL,LI.length,UQ,LI,uE5,?_,?_,N,H.xm 12 2 [0,2,3,4,5,1,7,8,9,10,11] [0,1] (by simp only[List.length_cons,List.length_append];omega)<|by simp only[List.length_cons,List.length_append];omega⟩
   ·exact(‹jk kk 1 _/\_›).1
   ·omega
  refine qW<|meet ⟨_,Yq,Yl,(aa wS 0),kk.toNat,kk.toNat,(List.replicate kk.toNat (0:Int)),uE5,?_,?_,N,H⟩
  ·exact jk.zero qf qf
  ·omega
 clear H N
 rintro ρ aDp ⟨xP,eF,dB,Qm,Qk,Ql,nO,rfl,jh,jhp,N,H⟩
 refine t_n<|zcc<|sq 1 ?_
 have H1:=H.yt 11 2 [0,1,2,3,4,5,6,7,8,9,10] [0,1] (by simp only[List.length_cons,List.length_append];omega)<|by simp only[List.length_cons,List.length_append];omega
 have N1:Fresh _ (bZ::Ns):=N
 have K1:Kept (Ns) ((qQ true bZ eE rules)::Γ):=K0.behind 1 rfl
 replace K1:=K1.cons (F:=bZ) 0 rfl rfl
 refine sw<|zD #[pp bs 0,yI 5] rfl rfl call58 (dOne_ok ag eF dB bs ac cc Fc (5:Int) H1 N1 K1 qg) ?_
 clear H H1 N1 K1
 rintro _ aIc ⟨Yo,Yb,aBN,aAC,rfl,N,H⟩
 refine zjn<|c_cut (fun ρ w497=>∃(xP:Env) (df:Int) (di:Int) (QJ:yOA) (QG:Nat) (QH:Nat) (pi:yLI),ρ=upd (upd (upd (upd (upd xP 0<|pp bs 0) 1<|pp bY 0) 4<|pp b1 0) 5<|yI par.length) 6 (pp b7 0)/\(jk kk 1 pi)/\(ip<=df/\df<=ip+118)/\Fresh W0.heap.size (bZ::Ns)/\St W0 w497 ((.box bs [Sv ac ag.length cc,yI df,.int .u64 di] 116)::(rr eC dP.length eD 2 1<|dP.map<|Value.int .i64)::(rr eo dI.length em 2 1<|dI.map<|Value.int .i64)::(.box b7 [yI nT,yI 0,Sv mr md.length mc,Sv Qm Qk Ql,Sv QJ QG QH,Sv eo dI.length em,Sv eC dP.length eD,yN,Bv false] 110)::(rr QJ QG QH 2 1<|pi.map<|Value.int .i64)::(rr Qm Qk Ql 2 1<|nO.map<|Value.int .i64)::(rr mr md.length mc 2 1<|md.map<|Value.int .i64)::(.box b1 [yI 0,yI 0,yN,yN,yN,yN,yN,yN,Bv false] 110)::(.box bY [yI kk,Sv lu par.length lr,Sv lq rules.length ls] 27)::(rr lu par.length lr 2 1<|par.map<|Value.int .i64)::(rr lq rules.length ls 110 9 eE)::ps) ((sF false Fc ac cc ag)::(qQ true bZ eE rules)::Γ)) ?_ ?_
 ·refine vg _ rfl (fun avV=>?_) (fun avV=>?_)
  ·refine xX (sq 3<|oF rfl<|oL rfl (H.cell 8 rfl rfl) ?_)
   have H1:=H.yt 11 2 [0,1,2,3,4,5,6,7,8,9,10] [0,1] (by simp only[List.length_cons,List.length_append];omega)<|by simp only[List.length_cons,List.length_append];omega
   have N1:Fresh _ (bZ::Ns):=N
   have K1:Kept (Ns) ((qQ true bZ eE rules)::Γ):=K0.behind 1 rfl
   replace K1:=K1.cons (F:=bZ) 0 rfl rfl
   refine sw<|zD #[pp bs 0,yI kk,yI 1] rfl rfl call146 (Xd ag Yo Yb bs ac cc Fc kk (1:Int) H1 N1 K1 qg qg qg) ?_
   clear H H1 N1 K1
   rintro _ aGX ⟨anW,anU,K4,WM,az0,VZ,ayQ,azd,rfl,N,H⟩
   obtain rfl:=H.Qc 1 rfl
   refine oF rfl<|sw<|zh H 4 [yI nT,yI 0,Sv mr md.length mc,Sv Qm Qk Ql,Sv WM K4.length VZ,Sv eo dI.length em,Sv eC dP.length eD,yN,Bv false] sizeOf24 fun aFF H=>?_
   dsimp only[List.set] at H
   refine xU<|meet ⟨_,anW,anU,WM,K4.length,VZ,K4,uE5,?_,?_,N,H.xm 12 2 (0::2::3::4::1::zR 6 6) [0,1] (by simp only[List.length_cons,List.length_append];omega)<|by simp only[List.length_cons,List.length_append];omega⟩
   ·exact(‹jk kk 1 _/\_›).1
   ·omega
  refine qW<|meet ⟨_,Yo,Yb,(aa sT 0),kk.toNat,kk.toNat,(List.replicate kk.toNat (0:Int)),uE5,?_,?_,N,H⟩
  ·exact jk.zero qf qf
  ·omega
 clear H N
 rintro ρ aIh ⟨xP,df,di,QJ,QG,QH,pi,rfl,jl,jlp,N,H⟩
 refine t_n<|zcc<|sq 1 ?_
 have H1:=H.yt 11 2 [0,1,2,3,4,5,6,7,8,9,10] [0,1] (by simp only[List.length_cons,List.length_append];omega)<|by simp only[List.length_cons,List.length_append];omega
 have N1:Fresh _ (bZ::Ns):=N
 have K1:Kept (Ns) ((qQ true bZ eE rules)::Γ):=K0.behind 1 rfl
 replace K1:=K1.cons (F:=bZ) 0 rfl rfl
 refine sw<|zD #[pp bs 0,yI 4] rfl rfl call58 (dOne_ok ag df di bs ac cc Fc (4:Int) H1 N1 K1 qg) ?_
 clear H H1 N1 K1
 rintro _ aDt ⟨WS,Wu,aBM,aBd,rfl,N,H⟩
 refine zjn<|c_cut (fun ρ w517=>∃(xP:Env) (ey:Int) (eX:Int) (eG:Int),ρ=upd (upd (upd (upd (upd xP 0<|pp bs 0) 1<|pp bY 0) 4<|pp b1 0) 5<|yI par.length) 6 (pp b7 0)/\(0<=eG/\eG<=2)/\(ip<=ey/\ey<=ip+122)/\Fresh W0.heap.size (bZ::Ns)/\St W0 w517 ((.box bs [Sv ac ag.length cc,yI ey,.int .u64 eX] 116)::(rr eC dP.length eD 2 1<|dP.map<|Value.int .i64)::(rr eo dI.length em 2 1<|dI.map<|Value.int .i64)::(.box b7 [yI nT,yI eG,Sv mr md.length mc,Sv Qm Qk Ql,Sv QJ QG QH,Sv eo dI.length em,Sv eC dP.length eD,yN,Bv false] 110)::(rr QJ QG QH 2 1<|pi.map<|Value.int .i64)::(rr Qm Qk Ql 2 1<|nO.map<|Value.int .i64)::(rr mr md.length mc 2 1<|md.map<|Value.int .i64)::(.box b1 [yI 0,yI 0,yN,yN,yN,yN,yN,yN,Bv false] 110)::(.box bY [yI kk,Sv lu par.length lr,Sv lq rules.length ls] 27)::(rr lu par.length lr 2 1<|par.map<|Value.int .i64)::(rr lq rules.length ls 110 9 eE)::ps) ((sF false Fc ac cc ag)::(qQ true bZ eE rules)::Γ)) ?_ ?_
 ·refine vg _ rfl (fun asQ=>?_) (fun asQ=>?_)
  ·refine xX (sq 1 ?_)
   have H1:=H.yt 11 2 [0,1,2,3,4,5,6,7,8,9,10] [0,1] (by simp only[List.length_cons,List.length_append];omega)<|by simp only[List.length_cons,List.length_append];omega
   have N1:Fresh _ (bZ::Ns):=N
   have K1:Kept (Ns) ((qQ true bZ eE rules)::Γ):=K0.behind 1 rfl
   replace K1:=K1.cons (F:=bZ) 0 rfl rfl
   refine sw<|zD #[pp bs 0,yI 3] rfl rfl call59 (yR ag WS Wu bs ac cc Fc (3:Int) H1 N1 K1 qg) ?_
   clear H H1 N1 K1
   rintro _ aG3 ⟨apw,akQ,Yd,aA6,aAz,rfl,N,H⟩
   refine oF rfl<|sw<|zh H 3 [yI nT,yI Yd,Sv mr md.length mc,Sv Qm Qk Ql,Sv QJ QG QH,Sv eo dI.length em,Sv eC dP.length eD,yN,Bv false] sizeOf2 fun aEk H=>?_
   dsimp only[List.set] at H
   refine xU<|meet ⟨_,apw,akQ,Yd,uE5,?_,?_,N,H⟩
   ·omega
   ·omega
  refine qW<|meet ⟨_,WS,Wu,0,uE5,?_,?_,N,H⟩
  ·omega
  ·omega
 clear H N
 rintro ρ aIU ⟨xP,ey,eX,eG,rfl,jr,jrp,N,H⟩
 refine t_n<|zcc<|sp (yI 1)<|zjn<|xe ?_
 replace H:=H.nilRow 161 2
 replace H:=H.yD (α:=IntoD)
 refine zT ((fun Z0 Z1 Z2 Z3 Z4 Z5 Z6 Z7 Z8 Z9 fi=>fun m' ρ atG=>∃(xP:Env) (c:Nat) (lZ:Int) (lk:Int) (Xp:yOA) (yZ:Nat) (Xn:Nat) (j0:List IntoD) (eO:List Value) (yC:yLN),ρ=upd (upd (upd (upd (upd (upd xP 0<|pp bs 0) 1<|pp bY 0) 4<|pp b1 0) 5<|yI par.length) 6<|pp b7 0) 7 (yI c)/\((c:Int)<=par.length)/\(ip<=lZ/\lZ<=ip+126+26*c)/\(1<=(c:Int))/\(j0.length<=3/\IntoDr kk par nT j0 c)/\m'=(par.length-(c:Int)).toNat/\Fresh W0.heap.size (bZ::yC::Ns)/\St W0 atG ((rr Xp yZ Xn 161 2 eO)::(.box bs [Sv ac ag.length cc,yI lZ,.int .u64 lk] 116)::Z0::Z1::(.box b7 [yI nT,yI eG,Sv mr md.length mc,Sv Qm Qk Ql,Sv QJ QG QH,Sv eo dI.length em,Sv eC dP.length eD,Sv Xp yZ Xn,Bv false] 110)::Z2::Z3::Z4::Z5::Z6::Z7::Z8::ps) ((qQ true yC eO j0)::Z9::fi::Γ)) _ _ _ _ _ _ _ _ _ _ _) ((par.length-(1:Int)).toNat) ⟨_,1,ey,eX,none,0,0,([]:List IntoD),[],[],uE6,qf,qf,qf,(by exact⟨by simp,IntoDr.nil _ _ _ _⟩),rfl,(N.emp.xm 2 [1,0]<|by simp only[List.length_cons,List.length_append];omega),H⟩ ?_
 clear H N
 rintro m' ρ aIZ ⟨xP,c,lZ,lk,Xp,yZ,Xn,j0,eO,yC,rfl,i0,i1,i2,i3,rfl,N,H⟩
 have ad6:=H.xk (α:=IntoD) 0 rfl 0 rfl qj
 refine zcc<|sp (yI c)<|sq 2<|zjn<|cD rfl (fun asV=>?_)<|fun asV=>?_
 ·refine qW (t_n<|xM<|xe<|zcr<|sq 1<|sp (yI c)<|oF rfl<|oL rfl (H.cell 4 rfl rfl) ?_)
  obtain⟨aEE,ay8,avq⟩:=H.rowIsI 10 rfl
  obtain⟨aID,aAi,ayt⟩:=H.Vg (α:=yu) 11 rfl 2 rfl qj
  have c1:CellIn (⟨kk,par,rules⟩:qO) c:=⟨by show (0:Int)<=c;omega,by show (c:Int)<=(par.length:Int)-1;omega⟩
  refine sw<|oq (l02In_ok _ (⟨kk,par,rules⟩:qO) c nT (qH (H.cells 9 rfl) 0 3) avq ayt ql ql) H fun aEf H=>sp (Bv<|dec<|Lies (⟨kk,par,rules⟩:qO).qA nT c) ?_
  cases RS:(dec (Lies (⟨kk,par,rules⟩:qO).qA nT c))
  ·replace RS:=vF RS
   refine xO (zR 81 4)<|sp (Bv false)<|sp (Bv false)<|xO [87,88]<|sp (Bv false)<|zjn<|cFr rfl<|qW<|b_n<|t_n<|xX<|sp (yI c)<|sw<|zS c 1 rfl rfl qf<|sq 1<|xU<|xu (m':=(par.length-((c+1):Int)).toNat) qf ⟨_,c+1,_,_,_,_,_,_,_,_,uE6,?_,?_,?_,?_,rfl,N,H⟩
   ·omega
   ·omega
   ·omega
   ·exact⟨by omega,i3.2.mono qf⟩
  replace RS:=Qz RS
  refine qJ 80 rfl rfl<|oF rfl<|qJ 80 rfl rfl<|oL rfl (H.cell 4 rfl rfl)<|qJ 80 rfl rfl<|oN rfl<|qJ 80 rfl rfl<|sp (Bv<|decide ((yZ:Int)<3))<|sp (Bv<|decide ((yZ:Int)<3))<|sp (Bv<|decide ((yZ:Int)<3)) ?_
  cases R9:(decide ((yZ:Int)<3))
  ·replace R9:=of_decide_eq_false R9
   refine xO [87,88]<|sp (Bv false)<|zjn<|cFr rfl<|qW<|b_n<|t_n<|xX<|sp (yI c)<|sw<|zS c 1 rfl rfl qf<|sq 1<|xU<|xu (m':=(par.length-((c+1):Int)).toNat) qf ⟨_,c+1,_,_,_,_,_,_,_,_,uE6,?_,?_,?_,?_,rfl,N,H⟩
   ·omega
   ·omega
   ·omega
   ·exact⟨by omega,i3.2.mono qf⟩
  replace R9:=of_decide_eq_true R9
  refine qJ 86 rfl rfl<|sq 1<|qJ 86 rfl rfl ?_
  have H1:=H.yt 12 3 [1,0,2,3,4,5,6,7,8,9,10,11] [1,0,2] (by simp only[List.length_cons,List.length_append];omega)<|by simp only[List.length_cons,List.length_append];omega
  have N1:Fresh _ (bZ::yC::Ns):=N
  have K1:Kept (Ns) ((qQ true yC eO j0)::(qQ true bZ eE rules)::Γ):=K0.behind 2 rfl
  replace K1:=K1.cons (F:=yC) 0 rfl rfl
  replace K1:=K1.cons (F:=bZ) 1 rfl rfl
  refine sw<|zD #[pp bs 0,yI 3] rfl rfl call58 (dOne_ok ag lZ lk bs ac cc Fc (3:Int) H1 N1 K1 qg) ?_
  clear H H1 N1 K1
  rintro _ aGQ ⟨Hx,Vc,WU,azs,rfl,N,H⟩
  refine sp (Bv WU)<|zjn<|vg _ rfl (fun axo=>?_)<|fun axo=>?_
  ·refine c_cut (fun ρ w556=>∃(xP:Env) (GD:Int) (un:yLI) (WB:Int) (aaz:yOA) (Zk:Nat) (HZ:yOA) (HV:Nat) (SZ:yLN),ρ=upd (upd (upd (upd (upd (upd (upd (upd (upd (upd (upd (upd xP 0<|pp bs 0) 1<|pp bY 0) 4<|pp b1 0) 5<|yI par.length) 6<|pp b7 0) 7<|yI c) 81<|pp b7<|0+7) 82<|Sv Xp yZ Xn) 83<|yI yZ) 84<|Bv true) 87<|pp bs 0) 88 (Bv WU)/\(Hx<=GD/\GD<=Hx+24)/\(jk kk (1:Int) un/\VN un≠0)/\Fresh W0.heap.size ((yC++SZ)::bZ::Ns)/\St W0 w556 ((.box bs [Sv ac ag.length cc,yI GD,.int .u64 WB] 116)::(rr aaz (yZ+1) Zk 161 2<|eO++[yI c,Sv HZ un.length HV])::(rr eC dP.length eD 2 1<|dP.map<|Value.int .i64)::(rr eo dI.length em 2 1<|dI.map<|Value.int .i64)::(.box b7 [yI nT,yI eG,Sv mr md.length mc,Sv Qm Qk Ql,Sv QJ QG QH,Sv eo dI.length em,Sv eC dP.length eD,Sv aaz (yZ+1) Zk,Bv false] 110)::(rr QJ QG QH 2 1<|pi.map<|Value.int .i64)::(rr Qm Qk Ql 2 1<|nO.map<|Value.int .i64)::(rr mr md.length mc 2 1<|md.map<|Value.int .i64)::(.box b1 [yI 0,yI 0,yN,yN,yN,yN,yN,yN,Bv false] 110)::(.box bY [yI kk,Sv lu par.length lr,Sv lq rules.length ls] 27)::(rr lu par.length lr 2 1<|par.map<|Value.int .i64)::(rr lq rules.length ls 110 9 eE)::ps) ((qQ true (yC++SZ) (eO++[yI c,Sv HZ un.length HV])<|j0++[(⟨c,un⟩:IntoD)])::(sF true SZ HZ HV un)::(sF false Fc ac cc ag)::(qQ true bZ eE rules)::Γ)) ?_ ?_
   ·refine c_drawK2 rfl H [2,3,5,6,7,8,9,10,11] [0,1,2] fun H=>?_
    have S:=H.zW (2::3::zR 5 7) [0,1,2]
    refine tF 0 rfl rfl S ?_
    refine rtp 2 (yI c) S ?_
    refine rtl 3 S ?_
    refine rtl 4 S ?_
    refine rtl 5 S ?_
    refine tF 6 rfl rfl S ?_
    refine tL 7 rfl rfl (fun _ h=>h.cell 6 rfl rfl) S ?_
    refine jC [1,8] qh qm<|yV rfl ?_<|yV rfl ?_ jD
    ·refine zJ (Sv Xp yZ Xn) isAgg108 rfl (H.cell 4 rfl rfl) (⟨H.pick (2::3::zR 5 7) [0,1,2],(ro 8 rfl ?_)⟩)
     have H1:=H.yt 12 3 [0,1,2,3,4,5,6,7,8,9,10,11] [0,1,2] (by simp only[List.length_cons,List.length_append];omega)<|by simp only[List.length_cons,List.length_append];omega
     have N1:Fresh _ (bZ::yC::Ns):=N
     have K1:Kept (Ns) ((qQ true yC eO j0)::(qQ true bZ eE rules)::Γ):=K0.behind 2 rfl
     replace K1:=K1.cons (F:=yC) 0 rfl rfl
     replace K1:=K1.cons (F:=bZ) 1 rfl rfl
     refine zD #[pp bs 0,yI kk,yI 1] rfl rfl call146 (Xd ag Hx Vc bs ac cc Fc kk (1:Int) H1 N1 K1 qg qg qg) ?_
     clear H H1 N1 K1
     rintro _ aDo ⟨ajx,afm,HW,Fy,az5,Gc,apM,aoi,rfl,N,H⟩
     obtain rfl:=H.Qc 1 rfl
     refine⟨H.pick (3::4::zR 6 7) [0,1,2],(ro 9 rfl<|jE [yI c,Sv Fy HW.length Gc] [(0,yI c),(1,Sv Fy HW.length Gc)]<|⟨H.pick (3::4::zR 6 7) [0,1,2],(ro 10 rfl<|zy H underlying108 ti161 [yI c,Sv Fy HW.length Gc] fun aFa aHG H=>⟨H.pick (4::5::zR 7 7) [0,1,2],(ro 11 rfl ?_)⟩)⟩)⟩
     obtain⟨ahO,N,azG,H⟩:=H.vJ 2 rfl N<|fun F hF b hb=>(List.mem_append.1<|show F∈[bZ,yC]++Ns from hF).elim (fun h=>(H.vV (L:=[bZ,yC]) [2,1]) F h b hb) fun h=>H.jT (K0.behind 3 rfl) F h b hb
     dsimp only[List.set] at H
     refine zH H 3 rfl 0 rfl underlying108 ti161 rfl qj rfl rfl rfl qw qp qf fun alp alT aER H=>?_
     dsimp only[List.set] at H
     replace H:=H.snoc_IntoD 2 rfl c 0 rfl
     replace N:Fresh W0.heap.size ((yC++ahO)::bZ::Ns):=(N.xm 3 [2,0,1]<|by simp only[List.length_cons,List.length_append];omega).join
     refine⟨H.pick (4::5::zR 7 7) [2,3,4],(tF 12 rfl rfl (H.pick (4::5::zR 7 7) [2,3,4]) ?_)⟩
     refine ro 13 rfl<|zh H 6 [yI nT,yI eG,Sv mr md.length mc,Sv Qm Qk Ql,Sv QJ QG QH,Sv eo dI.length em,Sv eC dP.length eD,Sv alp (yZ+1) alT,Bv false] sizeOf108 fun aHS H=>?_
     dsimp only[List.set] at H
     refine⟨H.pick (4::5::zR 7 7) [2,3,4],(xy qh ((meet ⟨_,ajx,HW,afm,alp,alT,Fy,Gc,ahO,uE12,apM,aoi,N,H.xm 14 5 (1::zR 3 11) [0,1,2,4] (by simp only[List.length_cons,List.length_append];omega)<|by simp only[List.length_cons,List.length_append];omega⟩)))⟩
    have H1:=H.yt 12 3 [0,1,2,3,4,5,6,7,8,9,10,11] [0,1,2] (by simp only[List.length_cons,List.length_append];omega)<|by simp only[List.length_cons,List.length_append];omega
    have N1:Fresh _ (bZ::yC::Ns):=N
    have K1:Kept (Ns) ((qQ true yC eO j0)::(qQ true bZ eE rules)::Γ):=K0.behind 2 rfl
    replace K1:=K1.cons (F:=yC) 0 rfl rfl
    replace K1:=K1.cons (F:=bZ) 1 rfl rfl
    refine zD #[pp bs 0,yI kk,yI 1] rfl rfl call146 (Xd ag Hx Vc bs ac cc Fc kk (1:Int) H1 N1 K1 qg qg qg) ?_
    clear H H1 N1 K1
    rintro _ aEm ⟨NJ,Mo,oy,oo,azU,om,Ln,Ls,rfl,N,H⟩
    obtain rfl:=H.Qc 1 rfl
    refine⟨H.pick (3::4::zR 6 7) [0,1,2],(jC [1,9] qh qm<|yV rfl ?_<|yV rfl ?_ jD)⟩
    ·refine zJ (Sv Xp yZ Xn) isAgg108 rfl (H.cell 5 rfl rfl) (⟨H.pick (3::4::zR 6 7) [0,1,2],(ro 9 rfl<|jE [yI c,Sv oo oy.length om] [(0,yI c),(1,Sv oo oy.length om)]<|⟨H.pick (3::4::zR 6 7) [0,1,2],(ro 10 rfl<|zy H underlying108 ti161 [yI c,Sv oo oy.length om] fun aFf aCW H=>⟨H.pick (4::5::zR 7 7) [0,1,2],(ro 11 rfl ?_)⟩)⟩)⟩)
     obtain⟨am5,N,aBn,H⟩:=H.vJ 2 rfl N<|fun F hF b hb=>(List.mem_append.1<|show F∈[bZ,yC]++Ns from hF).elim (fun h=>(H.vV (L:=[bZ,yC]) [2,1]) F h b hb) fun h=>H.jT (K0.behind 3 rfl) F h b hb
     dsimp only[List.set] at H
     refine zH H 3 rfl 0 rfl underlying108 ti161 rfl qj rfl rfl rfl qw qp qf fun aiU anA aFP H=>?_
     dsimp only[List.set] at H
     replace H:=H.snoc_IntoD 2 rfl c 0 rfl
     replace N:Fresh W0.heap.size ((yC++am5)::bZ::Ns):=(N.xm 3 [2,0,1]<|by simp only[List.length_cons,List.length_append];omega).join
     refine⟨H.pick (4::5::zR 7 7) [2,3,4],(tF 12 rfl rfl (H.pick (4::5::zR 7 7) [2,3,4]) ?_)⟩
     refine ro 13 rfl<|zh H 6 [yI nT,yI eG,Sv mr md.length mc,Sv Qm Qk Ql,Sv QJ QG QH,Sv eo dI.length em,Sv eC dP.length eD,Sv aiU (yZ+1) anA,Bv false] sizeOf108 fun aIu H=>?_
     dsimp only[List.set] at H
     refine⟨H.pick (4::5::zR 7 7) [2,3,4],(xy qh ((meet ⟨_,NJ,oy,Mo,aiU,anA,oo,om,am5,uE12,Ln,Ls,N,H.xm 14 5 (1::zR 3 11) [0,1,2,4] (by simp only[List.length_cons,List.length_append];omega)<|by simp only[List.length_cons,List.length_append];omega⟩)))⟩
    refine jE [yI c,Sv oo oy.length om] [(0,yI c),(1,Sv oo oy.length om)]<|⟨H.pick (3::4::zR 6 7) [0,1,2],(jC [1,10] qh qm<|yV rfl ?_<|yV rfl ?_ jD)⟩
    ·refine zJ (Sv Xp yZ Xn) isAgg108 rfl (H.cell 5 rfl rfl) (⟨H.pick (3::4::zR 6 7) [0,1,2],(ro 10 rfl<|zy H underlying108 ti161 [yI c,Sv oo oy.length om] fun aDm aFl H=>⟨H.pick (4::5::zR 7 7) [0,1,2],(ro 11 rfl ?_)⟩)⟩)
     obtain⟨afl,N,aBS,H⟩:=H.vJ 2 rfl N<|fun F hF b hb=>(List.mem_append.1<|show F∈[bZ,yC]++Ns from hF).elim (fun h=>(H.vV (L:=[bZ,yC]) [2,1]) F h b hb) fun h=>H.jT (K0.behind 3 rfl) F h b hb
     dsimp only[List.set] at H
     refine zH H 3 rfl 0 rfl underlying108 ti161 rfl qj rfl rfl rfl qw qp qf fun ahJ apo aIj H=>?_
     dsimp only[List.set] at H
     replace H:=H.snoc_IntoD 2 rfl c 0 rfl
     replace N:Fresh W0.heap.size ((yC++afl)::bZ::Ns):=(N.xm 3 [2,0,1]<|by simp only[List.length_cons,List.length_append];omega).join
     refine⟨H.pick (4::5::zR 7 7) [2,3,4],(tF 12 rfl rfl (H.pick (4::5::zR 7 7) [2,3,4]) ?_)⟩
     refine ro 13 rfl<|zh H 6 [yI nT,yI eG,Sv mr md.length mc,Sv Qm Qk Ql,Sv QJ QG QH,Sv eo dI.length em,Sv eC dP.length eD,Sv ahJ (yZ+1) apo,Bv false] sizeOf108 fun aDD H=>?_
     dsimp only[List.set] at H
     refine⟨H.pick (4::5::zR 7 7) [2,3,4],(xy qh ((meet ⟨_,NJ,oy,Mo,ahJ,apo,oo,om,afl,uE12,Ln,Ls,N,H.xm 14 5 (1::zR 3 11) [0,1,2,4] (by simp only[List.length_cons,List.length_append];omega)<|by simp only[List.length_cons,List.length_append];omega⟩)))⟩
    refine zy H underlying108 ti161 [yI c,Sv oo oy.length om] fun aDh aDs H=>⟨H.pick (4::5::zR 7 7) [0,1,2],(ro 1 rfl<|zJ (Sv Xp yZ Xn) isAgg108 rfl (H.cell 6 rfl rfl)<|⟨H.pick (4::5::zR 7 7) [0,1,2],(ro 11 rfl ?_)⟩)⟩
    obtain⟨agX,N,aBP,H⟩:=H.vJ 2 rfl N<|fun F hF b hb=>(List.mem_append.1<|show F∈[bZ,yC]++Ns from hF).elim (fun h=>(H.vV (L:=[bZ,yC]) [2,1]) F h b hb) fun h=>H.jT (K0.behind 3 rfl) F h b hb
    dsimp only[List.set] at H
    refine zH H 3 rfl 0 rfl underlying108 ti161 rfl qj rfl rfl rfl qw qp qf fun am6 ajM aHT H=>?_
    dsimp only[List.set] at H
    replace H:=H.snoc_IntoD 2 rfl c 0 rfl
    replace N:Fresh W0.heap.size ((yC++agX)::bZ::Ns):=(N.xm 3 [2,0,1]<|by simp only[List.length_cons,List.length_append];omega).join
    refine⟨H.pick (4::5::zR 7 7) [2,3,4],(tF 12 rfl rfl (H.pick (4::5::zR 7 7) [2,3,4]) ?_)⟩
    refine ro 13 rfl<|zh H 6 [yI nT,yI eG,Sv mr md.length mc,Sv Qm Qk Ql,Sv QJ QG QH,Sv eo dI.length em,Sv eC dP.length eD,Sv am6 (yZ+1) ajM,Bv false] sizeOf108 fun aFq H=>?_
    dsimp only[List.set] at H
    refine⟨H.pick (4::5::zR 7 7) [2,3,4],(xy qh ((meet ⟨_,NJ,oy,Mo,am6,ajM,oo,om,agX,uE12,Ln,Ls,N,H.xm 14 5 (1::zR 3 11) [0,1,2,4] (by simp only[List.length_cons,List.length_append];omega)<|by simp only[List.length_cons,List.length_append];omega⟩)))⟩
   clear H N
   rintro ρ aCA ⟨xP,GD,un,WB,aaz,Zk,HZ,HV,SZ,rfl,azc,aBK,N,H⟩
   refine b_n<|t_n<|xX<|sp (yI c)<|sw<|zS c 1 rfl rfl qf<|sq 1<|xU<|xu (m':=(par.length-((c+1):Int)).toNat) qf ⟨_,c+1,_,_,_,_,_,_,_,_,uE6,?_,?_,?_,?_,rfl,(N.xm 2 [1,0]<|by simp only[List.length_cons,List.length_append];omega),H.xm 12 4 (1::0::zR 2 10) [0,2,3] (by simp only[List.length_cons,List.length_append];omega)<|by simp only[List.length_cons,List.length_append];omega⟩
   ·omega
   ·omega
   ·omega
   ·exact⟨by simp;omega,i3.2.snoc qf ‹Lies par _ _› (‹jk kk 1 _/\_›).1 (‹jk kk 1 _/\_›).2⟩
  refine qW<|b_n<|t_n<|xX<|sp (yI c)<|sw<|zS c 1 rfl rfl qf<|sq 1<|xU<|xu (m':=(par.length-((c+1):Int)).toNat) qf ⟨_,c+1,_,_,_,_,_,_,_,_,uE6,?_,?_,?_,?_,rfl,N,H.xm 12 3 (1::0::zR 2 10) [1,0,2] (by simp only[List.length_cons,List.length_append];omega)<|by simp only[List.length_cons,List.length_append];omega⟩
  ·omega
  ·omega
  ·omega
  ·exact⟨by omega,i3.2.mono qf⟩
 refine zx4<|zcr<|oF rfl<|oL rfl (H.cell 4 rfl rfl)<|sp (Bv<|decide ((nT:Int)>0))<|sp (Bv<|decide ((nT:Int)>0)) ?_
 cases RG:(decide ((nT:Int)>0))
 ·replace RG:=of_decide_eq_false RG
  refine xO [107,108]<|sp (Bv false)<|oF rfl<|sw<|zh H 4 [yI nT,yI eG,Sv mr md.length mc,Sv Qm Qk Ql,Sv QJ QG QH,Sv eo dI.length em,Sv eC dP.length eD,Sv Xp yZ Xn,Bv false] sizeOf4 fun aGU H=>?_
  dsimp only[List.set] at H
  refine zjc<|sw<|xW [yI nT,yI eG,Sv mr md.length mc,Sv Qm Qk Ql,Sv QJ QG QH,Sv eo dI.length em,Sv eC dP.length eD,Sv Xp yZ Xn,Bv false] isAgg110 sizeOf110 rfl (qH (H.cells 4 rfl) 0 9)<|sw<|zF H 8 [yI nT,yI eG,Sv mr md.length mc,Sv Qm Qk Ql,Sv QJ QG QH,Sv eo dI.length em,Sv eC dP.length eD,Sv Xp yZ Xn,Bv false] sizeOf110 fun aDU H=>?_
  dsimp only[List.set] at H
  refine zjr<|retC H 8 rfl rfl isAgg110 sizeOf110 rfl ⟨_,rfl,?_⟩
  have he:(c:Int)=par.length:=by omega
  exact⟨lZ,lk,nT,eG,md,nO,pi,dI,dP,j0,false,mr,md.length,mc,Qm,Qk,Ql,QJ,QG,QH,eo,dI.length,em,eC,dP.length,eD,Xp,yZ,Xn,eO,yC,qf,(by exact ruleDr_of qf qg (by exact(fun h=>by cases h)) ql jh jl ql ql ⟨i3.1,he▸i3.2⟩),rfl,N,H.xm 12 3 [1,9,10,11,7,6,5,3,2,0] [1,2,0] (by simp only[List.length_cons,List.length_append];omega)<|by simp only[List.length_cons,List.length_append];omega⟩
 replace RG:=of_decide_eq_true RG
 refine qJ 106 rfl rfl<|sq 1<|qJ 106 rfl rfl ?_
 have H1:=H.yt 12 3 [1,0,2,3,4,5,6,7,8,9,10,11] [1,0,2] (by simp only[List.length_cons,List.length_append];omega)<|by simp only[List.length_cons,List.length_append];omega
 have N1:Fresh _ (bZ::yC::Ns):=N
 have K1:Kept (Ns) ((qQ true yC eO j0)::(qQ true bZ eE rules)::Γ):=K0.behind 2 rfl
 replace K1:=K1.cons (F:=yC) 0 rfl rfl
 replace K1:=K1.cons (F:=bZ) 1 rfl rfl
 refine sw<|zD #[pp bs 0,yI 6] rfl rfl call58 (dOne_ok ag lZ lk bs ac cc Fc (6:Int) H1 N1 K1 qg) ?_
 clear H H1 N1 K1
 rintro _ aGP ⟨akw,aoT,CJ,aCd,rfl,N,H⟩
 refine sp (Bv CJ)<|oF rfl<|sw<|zh H 4 [yI nT,yI eG,Sv mr md.length mc,Sv Qm Qk Ql,Sv QJ QG QH,Sv eo dI.length em,Sv eC dP.length eD,Sv Xp yZ Xn,Bv CJ] sizeOf4 fun aEP H=>?_
 dsimp only[List.set] at H
 refine zjc<|sw<|xW [yI nT,yI eG,Sv mr md.length mc,Sv Qm Qk Ql,Sv QJ QG QH,Sv eo dI.length em,Sv eC dP.length eD,Sv Xp yZ Xn,Bv CJ] isAgg110 sizeOf110 rfl (qH (H.cells 4 rfl) 0 9)<|sw<|zF H 8 [yI nT,yI eG,Sv mr md.length mc,Sv Qm Qk Ql,Sv QJ QG QH,Sv eo dI.length em,Sv eC dP.length eD,Sv Xp yZ Xn,Bv CJ] sizeOf110 fun aFZ H=>?_
 dsimp only[List.set] at H
 refine zjr<|retC H 8 rfl rfl isAgg110 sizeOf110 rfl ⟨_,rfl,?_⟩
 have he:(c:Int)=par.length:=by omega
 exact⟨akw,aoT,nT,eG,md,nO,pi,dI,dP,j0,CJ,mr,md.length,mc,Qm,Qk,Ql,QJ,QG,QH,eo,dI.length,em,eC,dP.length,eD,Xp,yZ,Xn,eO,yC,qf,(by exact ruleDr_of qf qg (by exact(fun _=>by omega)) ql jh jl ql ql ⟨i3.1,he▸i3.2⟩),rfl,N,H.xm 12 3 [0,9,10,11,7,6,5,3,2,1] [0,2,1] (by simp only[List.length_cons,List.length_append];omega)<|by simp only[List.length_cons,List.length_append];omega⟩
end
end Go.Proofs.YtghikkinnchndaaGreat
