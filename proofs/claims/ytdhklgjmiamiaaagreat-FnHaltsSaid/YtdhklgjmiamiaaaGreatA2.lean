/- Walks and laws, printed by program and by hand: what each function comes to, for all arguments, part 2. -/
import Derived.Test.YtdhklgjmiamiaaaGreatA1
namespace Go.Proofs.YtdhklgjmiamiaaaGreat
open Go.Proofs.Tryz
set_option linter.unusedVariables false
set_option linter.unusedSimpArgs false
set_option maxRecDepth 100000
set_option maxHeartbeats 4000000
open Go.RowKit
open Go.Proofs.Tryz
open Go.Proofs.YtdhklgjmiamiaaaGreat.Tot (tot)
open Go.Proofs.YtdhklgjmiamiaaaGreat.Mark (cnt mrk mkd mkd_mark cnt_mark)
variable{B D dz z:Int}{F Fb Fl Fm aD tv tW uv uu tE Am xJ xW xu zF zk:yLN}{G P b b' ad rs:yLL}{K VP br c cb cl dZ eD eu eC hU f i j k n or p q x zT:Nat}{L Ns:List yLN}{VS ab al am dV eh eo eB iU qF qM qO qV vw xm:yOA}{W0 w:World}{a aM l m ai v:yLI}{all:List yLL}{fr:Bool}{ps:List Prv}{r:yH}{s:qH}{t u:qG}{xs:List Value}{Γ Γ':List Fact}{ρ:Env}
section
variable{bs os qE qN bt ot qU xk qL : Nat}
theorem l01Bag_ok(w:World)(l:yLI)(hl:zP w Fl al cl l):Calls Tryz.prog 182 #[Sv al l.length cl] w (Ret (fun v w'=>v=Bv (dec<|XZ l)) w):=by
 refine en func182 ntmps182 ?_
 have H:=(St.start w).arg hl
 have y4:=qR hl
 clear hl
 refine zcr<|sp (Bv false)<|zjcc<|sp (yI 0)<|zjn<|xf<|zD ((fun Z0=>fun m' ρ w1=>∃(xN:Env) (k:Nat),ρ=upd (upd xN 0<|Sv al l.length cl) 3 (yI k)/\(k<=l.length)/\(Counts l k)/\m'=l.length-k/\St w w1 [] [Z0]) _) (l.length-0) ⟨_,0,uE2,qf,(by exact Counts.zero l),rfl,H⟩ ?_
 clear H
 rintro m' ρ w2 ⟨xN,k,rfl,i0,i1,rfl,H⟩
 refine zcc<|sp (yI k)<|sq 1<|oN rfl<|sq 1<|zjn<|cD rfl (fun h3=>?_)<|fun h3=>?_
 ·refine qZ (t_n<|xU<|xf<|zcr<|sq 1<|sp (yI k) ?_)
  obtain⟨b4,o5,rfl⟩:=H.addr 0 rfl qf
  refine oI rfl rfl<|oL rfl (H.zS 0 rfl k qf)<|sw<|oq (l00In_ok w2 (l[k]!) 0 1000) H fun w6 H=>sq 1<|zjn<|zX _ rfl (fun h8=>?_)<|fun h8=>?_
  ·replace h8:=x8 h8
   replace h8:=XG h8
   refine zcr<|sp (Bv false)<|zjr<|zr5<|rH1 (Bv false) H ?_
   rw[xw<|fun h=>‹¬(0<=l[k]! /\l[k]! <=1000)› (h.1 k qf)]
  replace h8:=xO h8
  replace h8:=Q8.1 h8
  refine qZ<|b_n<|t_n<|xX<|sp (yI k)<|sw<|zC k 1 rfl rfl qf<|sq 1<|xZ<|xh (m':=l.length-(k+1)) qf ⟨_,k+1,uE2,?_,?_,rfl,H⟩
  ·omega
  ·exact i1.succ ‹_›
 refine zx4<|zcr<|sq 1<|oN rfl<|sw<|oq (l00In_ok w2 l.length 1 8) H fun w9 H=>sq 1<|zjr<|rH1 (Bv<|inR l.length 1 8) H ?_
 obtain rfl:k=l.length:=by omega
 refine congrArg Value.bool<|dec_eq ?_
 rw[Q8]
 exact⟨fun h=>⟨i1,by omega,by omega⟩,fun h=>by have:=h.2;omega⟩
theorem Xi(w:World)(s:qH)(b:yLI)(hs:jC w bs os (yS s qF qE qO qN))(xe:zP w xu qF qE s.qA)(xE:zP w xW qO qN s.qB)(hb:zP w Fb ab cb b):Calls Tryz.prog 137 #[pp bs os,Sv ab b.length cb] w (Ret (fun v w'=>v=Bv (dec<|jm s.zf b)) w):=by
 refine en func137 ntmps137 ?_
 have H:=((((St.start w).arg hb).arg xE).arg xe).VF hs
 clear hs xe xE hb
 refine zcr<|sp (Bv false)<|zjc<|sq 1<|sw<|oq (l01Bag_ok _ b (H.get 3 rfl).1) H fun w1 H=>sp (Bv<|dec<|XZ b) ?_
 cases h3:(dec (XZ b))
 ·replace h3:=vF h3
  refine xY (zR 8 7)<|sp (Bv false)<|sp (Bv false)<|zjr<|rH1 (Bv false) H ?_
  rw[xw<|fun h=>‹¬XZ b› h.1]
 replace h3:=Qc h3
 refine qP 7 rfl rfl<|sq 1<|qP 7 rfl rfl<|oN rfl<|qP 7 rfl rfl<|sq 1<|qP 7 rfl rfl<|sq 1<|qP 7 rfl rfl<|oF rfl<|qP 7 rfl rfl<|oL rfl (H.zo 0 rfl 0 rfl)<|qP 7 rfl rfl<|sq 3<|zjr<|rH1 (Bv ((b.length:Int) == s.zf)) H<|congrArg Value.bool<|dec_eq ?_
 rw[beq_iff_eq]
 exact⟨fun h=>⟨‹_›,h⟩,fun h=>h.2⟩
theorem l02Frame_ok(w:World)(s:qH)(hs:jC w bs os (yS s qF qE qO qN))(xe:zP w xu qF qE s.qA)(xE:zP w xW qO qN s.qB):Calls Tryz.prog 135 #[pp bs os] w (Ret (fun v w'=>v=Bv (dec<|yP s)) w):=by
 refine en func135 ntmps135 ?_
 have H:=(((St.start w).arg xE).arg xe).VF hs
 have zV:=qR xe
 clear hs xe xE
 refine zcr<|sp (Bv false)<|zjcc<|sq 2<|oF rfl<|oL rfl (H.zo 0 rfl 0 rfl)<|sw<|oq (l00In_ok w s.zf 1 8) H fun w1 H=>sp (Bv (!(inR s.zf 1 8)))<|sp (Bv (!(inR s.zf 1 8))) ?_
 cases h3:(!(inR s.zf 1 8))
 ·replace h3:=xO h3
  replace h3:=Q8.1 h3
  refine qP 10 rfl rfl<|sq 1<|qP 10 rfl rfl<|sq 1<|qP 10 rfl rfl<|oF rfl<|qP 10 rfl rfl<|oL rfl (H.zo 0 rfl 1 rfl)<|qP 10 rfl rfl<|oN rfl<|qP 10 rfl rfl<|sw<|oq (l00In_ok w1 s.qA.length 1 6) H fun w4 H=>qP 10 rfl rfl<|sp (Bv (!(inR s.qA.length 1 6)))<|sp (Bv (!(inR s.qA.length 1 6)))<|sp (Bv (!(inR s.qA.length 1 6))) ?_
  cases h6:(!(inR s.qA.length 1 6))
  ·replace h6:=xO h6
   replace h6:=Q8.1 h6
   refine qP 19 rfl rfl<|sq 1<|qP 19 rfl rfl<|sq 1<|qP 19 rfl rfl<|oF rfl<|qP 19 rfl rfl<|oL rfl (H.zo 0 rfl 1 rfl)<|qP 19 rfl rfl ?_
   obtain⟨b7,o8,rfl⟩:=H.addr 1 rfl qf
   refine oI rfl rfl<|qP 19 rfl rfl<|oL rfl (H.zS 1 rfl 0 qf)<|qP 19 rfl rfl<|sp (Bv ((s.qA[0]! :Int) != (-1)))<|sp (Bv ((s.qA[0]! :Int) != (-1)))<|zjn<|zX ((s.qA[0]! :Int) != (-1)) rfl (fun h9=>?_)<|fun h9=>?_
   ·replace h9:=bne_iff_ne.1 h9
    refine zcr<|sp (Bv false)<|zjr<|t_r<|rH1 (Bv false) H ?_
    rw[xw (fun h=>by obtain⟨h1,h2,h3,h4⟩:=h;omega)]
   replace h9:=xA h9
   refine qZ<|t_n<|zcc<|sp (yI 1)<|zjn<|xf<|zD ((fun Z0 Z1 Z2=>fun m' ρ ov=>∃(xN:Env) (k:Nat),ρ=upd (upd xN 0<|pp bs os) 3 (yI k)/\(k<=s.qA.length)/\(1<=k)/\(FrameTo s k)/\m'=s.qA.length-k/\St w ov [] [Z0,Z1,Z2]) _ _ _) (s.qA.length-1) ⟨_,1,uE2,qf,qf,(by exact FrameTo.one s),rfl,H⟩ ?_
   clear H
   rintro m' ρ rL ⟨xN,k,rfl,i0,i2,i1,rfl,H⟩
   refine zcc<|sp (yI k)<|sq 2<|oF rfl<|oL rfl (H.zo 0 rfl 1 rfl)<|oN rfl<|sq 1<|zjn<|cD rfl (fun cZ=>?_)<|fun cZ=>?_
   ·refine qZ (t_n<|xU<|xf<|zcr<|sq 2<|oF rfl<|oL rfl (H.zo 0 rfl 1 rfl)<|sp (yI k)<|oI rfl rfl<|oL rfl (H.zS 1 rfl k qf)<|sp (yI k)<|sw<|o_sub k 1 rfl rfl qf<|sw<|oq (l00In_ok rL (s.qA[k]!) 0<|k-1) H fun xp H=>sq 1<|zjn<|zX _ rfl (fun mc=>?_)<|fun mc=>?_)
    ·replace mc:=x8 mc
     replace mc:=XG mc
     refine zcr<|sp (Bv false)<|zjr<|zr5<|rH1 (Bv false) H ?_
     rw[xw (fun h=>by obtain⟨h1,h2,h3,h4⟩:=h;(have:=h4 k qf qf;omega))]
    replace mc:=xO mc
    replace mc:=Q8.1 mc
    refine qZ<|b_n<|t_n<|xX<|sp (yI k)<|sw<|zC k 1 rfl rfl qf<|sq 1<|xZ<|xh (m':=s.qA.length-(k+1)) qf ⟨_,k+1,uE2,?_,?_,?_,rfl,H⟩
    ·omega
    ·omega
    ·exact i1.succ ‹_›
   refine zx4<|zcr<|sp (Bv true)<|zjr<|rH1 (Bv true) H ?_
   obtain rfl:k=s.qA.length:=by omega
   rw[jP ⟨by omega,by omega,by omega,i1⟩]
  replace h6:=x8 h6
  replace h6:=XG h6
  refine xY (zR 20 7)<|sp (Bv true)<|zjn<|cTr rfl<|zcr<|sp (Bv false)<|zjr<|t_r<|rH1 (Bv false) H ?_
  rw[xw (fun h=>by obtain⟨h1,h2,h3,h4⟩:=h;omega)]
 replace h3:=x8 h3
 replace h3:=XG h3
 refine xY (zR 11 7)<|sp (Bv true)<|sp (Bv true)<|xY (zR 20 7)<|sp (Bv true)<|zjn<|cTr rfl<|zcr<|sp (Bv false)<|zjr<|t_r<|rH1 (Bv false) H ?_
 rw[xw (fun h=>by obtain⟨h1,h2,h3,h4⟩:=h;omega)]
theorem l02In_ok(w:World)(s:qH)(c:Int)(AC:Int)(hs:jC w bs os (yS s qF qE qO qN))(xe:zP w xu qF qE s.qA)(xE:zP w xW qO qN s.qB)(p0:yP s)(p1:CellIn s c):Calls Tryz.prog 181 #[pp bs os,yI c,yI AC] w (Ret (fun v w'=>v=Bv (dec<|Lies s.qA AC c)) w):=by
 refine en func181 ntmps181 ?_
 have H:=(((St.start w).arg xE).arg xe).VF hs
 have zV:=qR xe
 clear hs xe xE
 refine zcr<|sp (Bv false)<|zjn<|xU<|xf<|zD ((fun Z0 Z1 Z2=>fun m' ρ w1=>∃(xN:Env) (y:Int),ρ=upd (upd (upd xN 0<|pp bs os) 1<|yI y) 2 (yI AC)/\(0<=y/\y<=(s.qA.length:Int)-1)/\(Lies s.qA AC c<->Lies s.qA AC y)/\m'=y.toNat/\St w w1 [] [Z0,Z1,Z2]) _ _ _) (c.toNat) ⟨_,c,uE3,(by exact p1),(by exact Iff.rfl),rfl,H⟩ ?_
 clear H
 rintro m' ρ w2 ⟨xN,y,rfl,i0,i1,rfl,H⟩
 have up:=fun h=>p0.up (c:=y) h i0.2
 refine zcc<|sp (yI y)<|sp (Bv<|decide ((y:Int)>0))<|zjn<|cD rfl (fun h3=>?_)<|fun h3=>?_
 ·refine qZ (t_n<|xf<|zcr<|sq 2<|oF rfl<|oL rfl (H.zo 0 rfl 1 rfl)<|sp (yI y) ?_)
  obtain⟨b4,o5,rfl⟩:=H.addr 1 rfl qf
  refine oI rfl rfl<|oL rfl (H.elemInt 1 rfl y qf qf)<|sq 1<|zjc<|sq 3<|zjn<|cE rfl (fun h6=>?_)<|fun h6=>?_
  ·refine zcr (sp (Bv true)<|zjr<|b_r<|t_r<|b_r<|t_r<|rH1 (Bv true) H ?_)
   rw[jP<|i1.2<|.here qf ‹_›]
  refine qZ<|b_n ?_
  have up1:=up qf
  refine xh (m':=(s.qA[y.toNat]!).toNat) qf ⟨_,(s.qA[y.toNat]!),uE3,?_,?_,rfl,H⟩
  ·have:=up qf;omega
  ·exact i1.trans<|lies_iff.trans ⟨fun h=>h.2.resolve_left ‹_›,fun h=>⟨by omega,.inr h⟩⟩
 refine zx4<|zcr<|sp (Bv false)<|zjr<|rH1 (Bv false) H ?_
 rw[xw (fun h=>by have:=(lies_iff.1<|i1.1 h).1;omega)]
theorem l02Rule_ok(w:World)(s:qH)(r:yH)(hs:jC w bs os (yS s qF qE qO qN))(xe:zP w xu qF qE s.qA)(xE:zP w xW qO qN s.qB)(hr:jC w br or [yI r.qY,yI r.yK,Sv eB r.zJ.length eC,Sv dV r.jB.length dZ,Sv eo r.jD.length eu,Sv eh r.jJ.length eD,Sv iU r.Qq.length hU,Sv VS r.xF.length VP,Bv r.jY])(eR:zP w tE eB eC r.zJ)(fC:zP w tv dV dZ r.jB)(f8:zP w uu eo eu r.jD)(fm:zP w tW eh eD r.jJ)(lF:zP w Am iU hU r.Qq)(dw:zP w uv VS VP r.xF)(p0:yP s):Calls Tryz.prog 136 #[pp bs os,pp br or] w (Ret (fun v w'=>v=Bv (dec<|RuleOk s r)) w):=by
 refine en func136 ntmps136 ?_
 have H:=((((((((((St.start w).arg dw).arg lF).arg fm).arg f8).arg fC).arg eR).VF hr).arg xE).arg xe).VF hs
 have zV:=qR xe
 have xa:=qR dw
 clear hs xe xE hr eR fC f8 fm lF dw
 refine zcr<|sp (Bv false)<|zjn<|xU<|xU<|ji rfl H fun H=>rtl 0 H ?_
 refine rtl 1 H ?_
 refine tF 2 rfl rfl H ?_
 refine tL 3 rfl rfl (fun _ h=>h.zo 3 rfl 0 rfl) H ?_
 refine rtl 4 H ?_
 refine rtl 5 H ?_
 refine tF 6 rfl rfl H ?_
 refine tL 7 rfl rfl (fun _ h=>h.zo 0 rfl 1 rfl) H ?_
 refine tN 8 rfl rfl H ?_
 refine rt 9 _ (y_sub s.qA.length 1 rfl rfl qf) H ?_
 refine ro 10 rfl<|oq (l00In_ok w.drew r.qY 0<|s.qA.length-1) H fun w2 H=>⟨H,(rtp 11 (Bv (!(inR r.qY 0<|s.qA.length-1))) H ?_)⟩
 refine rtp 12 (Bv (!(inR r.qY 0<|s.qA.length-1))) H ?_
 cases h4:(!(inR r.qY 0 (s.qA.length-1)))
 ·replace h4:=xO h4
  replace h4:=Q8.1 h4
  refine rgl 13 19 H ?_
  refine rgl 14 19 H ?_
  refine gF 15 rfl rfl H ?_
  refine gL 16 rfl rfl (fun _ h=>h.zo 3 rfl 1 rfl) H ?_
  refine zY [17] qh qm<|X4 rfl (e:=19) rfl rfl (oq (l00In_ok w2 r.yK 0 9) H fun w5 H=>⟨H,(rgp 18 (Bv (!(inR r.yK 0 9))) 19 H ?_)⟩) zZ
  refine rtp 19 (Bv (!(inR r.yK 0 9))) H ?_
  refine rtp 20 (Bv (!(inR r.yK 0 9))) H ?_
  cases h7:(!(inR r.yK 0 9))
  ·replace h7:=xO h7
   replace h7:=Q8.1 h7
   refine rgl 21 27 H ?_
   refine rgl 22 27 H ?_
   refine gF 23 rfl rfl H ?_
   refine gL 24 rfl rfl (fun _ h=>h.zo 3 rfl 8 rfl) H ?_
   refine rgp 25 (Bv r.jY) 27 H ?_
   cases h8:(r.jY)
   ·rw[h8] at H
    refine vJ (zR 26 5) 5 (H)<|rgp 31 (Bv false) 27 H ?_
    refine rtp 32 (Bv false) H ?_
    refine rtp 33 (Bv false) H ?_
    refine rgl 34 40 H ?_
    refine rgl 35 40 H ?_
    refine gF 36 rfl rfl H ?_
    refine gL 37 rfl rfl (fun _ h=>h.zo 3 rfl 7 rfl) H ?_
    refine gN 38 rfl rfl H ?_
    refine rgp 39 (Bv<|decide ((r.xF.length:Int)>3)) 40 H ?_
    refine rtp 40 (Bv<|decide ((r.xF.length:Int)>3)) H ?_
    refine xC qh<|t_n<|cD rfl (fun h9=>?_)<|fun h9=>?_
    ·refine zcr (sp (Bv false)<|zjr<|t_r<|rH1 (Bv false) H ?_)
     rw[xw (fun h=>by obtain⟨h1,h2,h3,h4,h5,h6,h7,h8,h9,bx,aV⟩:=h;omega)]
    refine qZ<|t_n<|zcc<|sq 3<|oF rfl<|oL rfl (H.zo 3 rfl 2 rfl)<|sw<|oq (Xi _ s r.zJ (qC (H.get 0 rfl) 0 3) (H.get 1 rfl).1 (H.get 2 rfl).1 (H.get 4 rfl).1) H fun ov H=>sp (Bv (!(dec<|jm s.zf r.zJ)))<|sp (Bv (!(dec<|jm s.zf r.zJ))) ?_
    cases cZ:(!(dec (jm s.zf r.zJ)))
    ·replace cZ:=xO cZ
     replace cZ:=Qc cZ
     refine qP 55 rfl rfl<|sq 1<|qP 55 rfl rfl<|sq 1<|qP 55 rfl rfl<|sq 1<|qP 55 rfl rfl<|oF rfl<|qP 55 rfl rfl<|oL rfl (H.zo 3 rfl 3 rfl)<|qP 55 rfl rfl<|sw<|oq (Xi _ s r.jB (qC (H.get 0 rfl) 0 3) (H.get 1 rfl).1 (H.get 2 rfl).1 (H.get 5 rfl).1) H fun xp H=>qP 55 rfl rfl<|sp (Bv (!(dec<|jm s.zf r.jB)))<|sp (Bv (!(dec<|jm s.zf r.jB)))<|sp (Bv (!(dec<|jm s.zf r.jB))) ?_
     cases mc:(!(dec (jm s.zf r.jB)))
     ·replace mc:=xO mc
      replace mc:=Qc mc
      refine qP 64 rfl rfl<|sq 1<|qP 64 rfl rfl<|sq 1<|qP 64 rfl rfl<|sq 1<|qP 64 rfl rfl<|oF rfl<|qP 64 rfl rfl<|oL rfl (H.zo 3 rfl 4 rfl)<|qP 64 rfl rfl<|sw<|oq (Xi _ s r.jD (qC (H.get 0 rfl) 0 3) (H.get 1 rfl).1 (H.get 2 rfl).1 (H.get 6 rfl).1) H fun KX H=>qP 64 rfl rfl<|sp (Bv (!(dec<|jm s.zf r.jD)))<|sp (Bv (!(dec<|jm s.zf r.jD)))<|sp (Bv (!(dec<|jm s.zf r.jD))) ?_
      cases g8:(!(dec (jm s.zf r.jD)))
      ·replace g8:=xO g8
       replace g8:=Qc g8
       refine qP 73 rfl rfl<|sq 1<|qP 73 rfl rfl<|sq 1<|qP 73 rfl rfl<|sq 1<|qP 73 rfl rfl<|oF rfl<|qP 73 rfl rfl<|oL rfl (H.zo 3 rfl 5 rfl)<|qP 73 rfl rfl<|sw<|oq (Xi _ s r.jJ (qC (H.get 0 rfl) 0 3) (H.get 1 rfl).1 (H.get 2 rfl).1 (H.get 7 rfl).1) H fun y6 H=>qP 73 rfl rfl<|sp (Bv (!(dec<|jm s.zf r.jJ)))<|sp (Bv (!(dec<|jm s.zf r.jJ)))<|sp (Bv (!(dec<|jm s.zf r.jJ))) ?_
       cases rD:(!(dec (jm s.zf r.jJ)))
       ·replace rD:=xO rD
        replace rD:=Qc rD
        refine qP 82 rfl rfl<|sq 1<|qP 82 rfl rfl<|sq 1<|qP 82 rfl rfl<|sq 1<|qP 82 rfl rfl<|oF rfl<|qP 82 rfl rfl<|oL rfl (H.zo 3 rfl 6 rfl)<|qP 82 rfl rfl<|sw<|oq (Xi _ s r.Qq (qC (H.get 0 rfl) 0 3) (H.get 1 rfl).1 (H.get 2 rfl).1 (H.get 8 rfl).1) H fun GP H=>qP 82 rfl rfl<|sp (Bv (!(dec<|jm s.zf r.Qq)))<|sp (Bv (!(dec<|jm s.zf r.Qq)))<|sp (Bv (!(dec<|jm s.zf r.Qq))) ?_
        cases mU:(!(dec (jm s.zf r.Qq)))
        ·replace mU:=xO mU
         replace mU:=Qc mU
         refine qP 91 rfl rfl<|sq 1<|qP 91 rfl rfl<|sq 1<|qP 91 rfl rfl<|oF rfl<|qP 91 rfl rfl<|oL rfl (H.zo 3 rfl 2 rfl)<|qP 91 rfl rfl<|sw<|oq (Vz _ r.zJ (H.get 4 rfl).1<|by exact jk ql) H fun Ce H=>qP 91 rfl rfl<|sp (Bv ((Xr r.zJ:Int) == 0))<|sp (Bv ((Xr r.zJ:Int) == 0))<|zjn<|cE rfl (fun mg=>?_)<|fun mg=>?_
         ·refine zcr (sp (Bv false)<|zjr<|t_r<|rH1 (Bv false) H ?_)
          rw[xw (fun h=>by obtain⟨h1,h2,h3,h4,h5,h6,h7,h8,h9,bx,aV⟩:=h;contradiction)]
         refine qZ<|t_n<|zcc<|sp (yI 0)<|zjn<|xf<|zD ((fun Z0 Z1 Z2 Z3 Z4 Z5 Z6 Z7 Z8 Z9=>fun m' ρ PE=>∃(xN:Env) (k:Nat),ρ=upd (upd (upd xN 0<|pp bs os) 1<|pp br or) 5 (yI k)/\(k<=r.xF.length)/\(IntosTo s r k)/\m'=r.xF.length-k/\St w PE [] [Z0,Z1,Z2,Z3,Z4,Z5,Z6,Z7,Z8,Z9]) _ _ _ _ _ _ _ _ _ _) (r.xF.length-0) ⟨_,0,uE3,qf,qx,rfl,H⟩ ?_
         clear H
         rintro m' ρ GZ ⟨xN,k,rfl,i0,i1,rfl,H⟩
         refine zcc<|sp (yI k)<|sq 2<|oF rfl<|oL rfl (H.zo 3 rfl 7 rfl)<|oN rfl<|sq 1<|zjn<|cD rfl (fun ID=>?_)<|fun ID=>?_
         ·refine qZ (t_n<|xU<|xf<|zcr<|sq 2<|oF rfl<|oL rfl (H.zo 3 rfl 7 rfl)<|sp (yI k) ?_)
          obtain⟨BD,o32,rfl⟩:=H.addr 9 rfl qf
          obtain⟨wV,wX,L4,H⟩:=H.Qr 9 rfl k k qf qf qf
          refine oI rfl rfl<|sq 1<|zjn<|xU<|xU<|ji rfl H fun H=>rtl 0 H ?_
          refine rtl 1 H ?_
          refine tF 2 rfl rfl H ?_
          refine tL 3 rfl rfl (fun _ h=>h.zo 1 rfl 0 rfl) H ?_
          refine rtl 4 H ?_
          refine rtl 5 H ?_
          refine tF 6 rfl rfl H ?_
          refine tL 7 rfl rfl (fun _ h=>h.zo 2 rfl 1 rfl) H ?_
          refine tN 8 rfl rfl H ?_
          refine rt 9 _ (y_sub s.qA.length 1 rfl rfl qf) H ?_
          refine ro 10 rfl<|oq (l00In_ok GZ.drew ((r.xF[k]!).qY) 0<|s.qA.length-1) H fun Ao H=>⟨H,(rtp 11 (Bv (!(inR ((r.xF[k]!).qY) 0<|s.qA.length-1))) H ?_)⟩
          refine rtp 12 (Bv (!(inR ((r.xF[k]!).qY) 0<|s.qA.length-1))) H ?_
          cases By:(!(inR ((r.xF[k]!).qY) 0 (s.qA.length-1)))
          ·replace By:=xO By
           replace By:=Q8.1 By
           refine rgl 13 126 H ?_
           refine rgl 14 126 H ?_
           refine rgl 15 126 H ?_
           refine gF 16 rfl rfl H ?_
           refine gL 17 rfl rfl (fun _ h=>h.zo 1 rfl 0 rfl) H ?_
           refine rgl 18 126 H ?_
           refine rgl 19 126 H ?_
           refine gF 20 rfl rfl H ?_
           refine gL 21 rfl rfl (fun _ h=>h.zo 5 rfl 0 rfl) H ?_
           refine zY [22] qh qm<|X4 rfl (e:=126) rfl rfl (oq (l02In_ok _ s ((r.xF[k]!).qY) r.qY (qC (H.get 2 rfl) 0 3) (H.get 3 rfl).1 (H.get 4 rfl).1 ql ql) H fun Jz H=>⟨H,(rgp 23 (Bv (!(dec<|Lies s.qA r.qY ((r.xF[k]!).qY)))) 126 H ?_)⟩) zZ
           refine rtp 24 (Bv (!(dec<|Lies s.qA r.qY ((r.xF[k]!).qY)))) H ?_
           refine rtp 25 (Bv (!(dec<|Lies s.qA r.qY ((r.xF[k]!).qY)))) H ?_
           cases Bo:(!(dec (Lies s.qA r.qY ((r.xF[k]!).qY))))
           ·replace Bo:=xO Bo
            replace Bo:=Qc Bo
            refine rgl 26 139 H ?_
            refine rgl 27 139 H ?_
            refine rgl 28 139 H ?_
            refine gF 29 rfl rfl H ?_
            refine gL 30 rfl rfl (fun _ h=>h.zo 1 rfl 1 rfl) H ?_
            refine zY [31] qh qm<|X4 rfl (e:=139) rfl rfl (oq (Xi _ s ((r.xF[k]!).Xq) (qC (H.get 2 rfl) 0 3) (H.get 3 rfl).1 (H.get 4 rfl).1 (H.get 0 rfl).1) H fun SB H=>⟨H,(rgp 32 (Bv (!(dec<|jm s.zf ((r.xF[k]!).Xq)))) 139 H ?_)⟩) zZ
            refine rtp 33 (Bv (!(dec<|jm s.zf ((r.xF[k]!).Xq)))) H ?_
            refine rtp 34 (Bv (!(dec<|jm s.zf ((r.xF[k]!).Xq)))) H ?_
            cases O6:(!(dec (jm s.zf ((r.xF[k]!).Xq))))
            ·replace O6:=xO O6
             replace O6:=Qc O6
             refine rgl 35 148 H ?_
             refine rgl 36 148 H ?_
             refine gF 37 rfl rfl H ?_
             refine gL 38 rfl rfl (fun _ h=>h.zo 1 rfl 1 rfl) H ?_
             refine zY [39] qh qm<|X4 rfl (e:=148) rfl rfl (oq (Vz _ ((r.xF[k]!).Xq) (H.get 0 rfl).1<|by exact jk ql) H fun JC H=>⟨H,(rgp 40 (Bv ((Xr ((r.xF[k]!).Xq):Int) == 0)) 148 H ?_)⟩) zZ
             refine rtp 41 (Bv ((Xr ((r.xF[k]!).Xq):Int) == 0)) H ?_
             refine xC qh<|t_n<|cE rfl (fun KK=>?_)<|fun KK=>?_
             ·refine zcr (sp (Bv false)<|zjr<|t_r<|zr5<|rH1 (Bv false) H ?_)
              rw[xw (fun h=>by obtain⟨h1,h2,h3,h4,h5,h6,h7,h8,h9,bx,aV⟩:=h;(obtain⟨q1,q2,q3,q4,q5⟩:=aV k qf;contradiction))]
             refine qZ<|t_n<|xU<|ji rfl H fun H=>rtp 0 (yI k) H ?_
             refine rtp 1 (Bv<|decide ((k:Int)>0)) H ?_
             refine rtp 2 (Bv<|decide ((k:Int)>0)) H ?_
             cases wu:(decide ((k:Int)>0))
             ·replace wu:=of_decide_eq_false wu
              refine vJ (zR 3 14) 14 (H)<|rtp 17 (Bv false) H ?_
              refine xC qh<|t_n<|cFr rfl<|qZ<|b_n<|t_n<|xX<|sp (yI k)<|sw<|zC k 1 rfl rfl qf<|sq 1<|xZ<|xh (m':=r.xF.length-(k+1)) qf ⟨_,k+1,uE3,?_,?_,rfl,H.sel _ (.refl _) _ qm⟩
              ·omega
              ·exact i1.succ ⟨‹_›,‹_›,‹_›,‹_›,fun hk=>by omega⟩
             replace wu:=of_decide_eq_true wu
             refine rgl 3 158 H ?_
             refine rgl 4 158 H ?_
             refine gF 5 rfl rfl H ?_
             refine gL 6 rfl rfl (fun _ h=>h.zo 5 rfl 7 rfl) H ?_
             refine rgp 7 (yI k) 158 H ?_
             refine rg 8 _ 158 (y_sub k 1 rfl rfl qf) H ?_
             obtain⟨aji,ajk,aiU,H⟩:=H.Qr 11 rfl (k-1) (k-1) qf qf qf
             refine gI 9 rfl rfl rfl (H.sel _ (.refl _) _<|fun _ h=>List.mem_cons_of_mem _<|List.mem_cons_of_mem _<|h) ?_
             refine gF 10 rfl rfl (H.sel _ (.refl _) _<|fun _ h=>List.mem_cons_of_mem _<|List.mem_cons_of_mem _<|h) ?_
             refine rgl 12 158 (H.sel _ (.refl _) _<|fun _ h=>List.mem_cons_of_mem _<|List.mem_cons_of_mem _<|h) ?_
             refine rgl 13 158 (H.sel _ (.refl _) _<|fun _ h=>List.mem_cons_of_mem _<|List.mem_cons_of_mem _<|h) ?_
             refine gF 14 rfl rfl (H.sel _ (.refl _) _<|fun _ h=>List.mem_cons_of_mem _<|List.mem_cons_of_mem _<|h) ?_
             refine gL 15 rfl rfl (fun _ h=>h.zo 1 rfl 0 rfl) (H.sel _ (.refl _) _<|fun _ h=>List.mem_cons_of_mem _<|List.mem_cons_of_mem _<|h) ?_
             refine zY [11] qh qm<|X4 rfl (e:=158) rfl rfl (zB (yI ((r.xF[k-1]!).qY)) isAgg2 rfl (H.zo 1 rfl 0 rfl)<|⟨H.dF 2,(rgl 16 158 (H.sel _ (.refl _) _<|fun _ h=>List.mem_cons_of_mem _<|List.mem_cons_of_mem _<|h) ?_)⟩) zZ
             refine rtl 17 (H.sel _ (.refl _) _<|fun _ h=>List.mem_cons_of_mem _<|List.mem_cons_of_mem _<|h) ?_
             refine xC qh<|t_n<|cD rfl (fun h50=>?_)<|fun h50=>?_
             ·refine zcr (sp (Bv false)<|zjr<|zr5<|rH1 (Bv false) H ?_)
              rw[xw (fun h=>by obtain⟨h1,h2,h3,h4,h5,h6,h7,h8,h9,bx,aV⟩:=h;(obtain⟨q1,q2,q3,q4,q5⟩:=aV k qf;omega))]
             refine qZ<|b_n<|t_n<|xX<|sp (yI k)<|sw<|zC k 1 rfl rfl qf<|sq 1<|xZ<|xh (m':=r.xF.length-(k+1)) qf ⟨_,k+1,uE3,?_,?_,rfl,H.sel _ (.refl _) _ qm⟩
             ·omega
             ·exact i1.succ ⟨‹_›,‹_›,‹_›,‹_›,fun hk=>by omega⟩
            replace O6:=x8 O6
            replace O6:=vF O6
            refine vJ (zR 35 6) 6 (H)<|rtp 41 (Bv true) H ?_
            refine xC qh<|t_n<|cTr rfl<|zcr<|sp (Bv false)<|zjr<|t_r<|zr5<|rH1 (Bv false) H ?_
            rw[xw (fun h=>by obtain⟨h1,h2,h3,h4,h5,h6,h7,h8,h9,bx,aV⟩:=h;(obtain⟨q1,q2,q3,q4,q5⟩:=aV k qf;contradiction))]
           replace Bo:=x8 Bo
           replace Bo:=vF Bo
           refine vJ (zR 26 7) 7 (H)<|rtp 33 (Bv true) H ?_
           refine rtp 34 (Bv true) H ?_
           refine vJ (zR 35 6) 6 (H)<|rtp 41 (Bv true) H ?_
           refine xC qh<|t_n<|cTr rfl<|zcr<|sp (Bv false)<|zjr<|t_r<|zr5<|rH1 (Bv false) H ?_
           rw[xw (fun h=>by obtain⟨h1,h2,h3,h4,h5,h6,h7,h8,h9,bx,aV⟩:=h;(obtain⟨q1,q2,q3,q4,q5⟩:=aV k qf;contradiction))]
          replace By:=x8 By
          replace By:=XG By
          refine vJ (zR 13 11) 11 (H)<|rtp 24 (Bv true) H ?_
          refine rtp 25 (Bv true) H ?_
          refine vJ (zR 26 7) 7 (H)<|rtp 33 (Bv true) H ?_
          refine rtp 34 (Bv true) H ?_
          refine vJ (zR 35 6) 6 (H)<|rtp 41 (Bv true) H ?_
          refine xC qh<|t_n<|cTr rfl<|zcr<|sp (Bv false)<|zjr<|t_r<|zr5<|rH1 (Bv false) H ?_
          rw[xw (fun h=>by obtain⟨h1,h2,h3,h4,h5,h6,h7,h8,h9,bx,aV⟩:=h;(obtain⟨q1,q2,q3,q4,q5⟩:=aV k qf;contradiction))]
         refine zx4<|zcr<|sp (Bv true)<|zjr<|rH1 (Bv true) H ?_
         obtain rfl:k=r.xF.length:=by omega
         rw[jP ⟨by assumption,by omega,by simp_all,by omega,by assumption,by assumption,by assumption,by assumption,by assumption,by assumption,i1⟩]
        replace mU:=x8 mU
        replace mU:=vF mU
        refine xY (zR 92 6)<|sp (Bv true)<|zjn<|cTr rfl<|zcr<|sp (Bv false)<|zjr<|t_r<|rH1 (Bv false) H ?_
        rw[xw (fun h=>by obtain⟨h1,h2,h3,h4,h5,h6,h7,h8,h9,bx,aV⟩:=h;contradiction)]
       replace rD:=x8 rD
       replace rD:=vF rD
       refine xY (zR 83 7)<|sp (Bv true)<|sp (Bv true)<|xY (zR 92 6)<|sp (Bv true)<|zjn<|cTr rfl<|zcr<|sp (Bv false)<|zjr<|t_r<|rH1 (Bv false) H ?_
       rw[xw (fun h=>by obtain⟨h1,h2,h3,h4,h5,h6,h7,h8,h9,bx,aV⟩:=h;contradiction)]
      replace g8:=x8 g8
      replace g8:=vF g8
      refine xY (zR 74 7)<|sp (Bv true)<|sp (Bv true)<|xY (zR 83 7)<|sp (Bv true)<|sp (Bv true)<|xY (zR 92 6)<|sp (Bv true)<|zjn<|cTr rfl<|zcr<|sp (Bv false)<|zjr<|t_r<|rH1 (Bv false) H ?_
      rw[xw (fun h=>by obtain⟨h1,h2,h3,h4,h5,h6,h7,h8,h9,bx,aV⟩:=h;contradiction)]
     replace mc:=x8 mc
     replace mc:=vF mc
     refine xY (zR 65 7)<|sp (Bv true)<|sp (Bv true)<|xY (zR 74 7)<|sp (Bv true)<|sp (Bv true)<|xY (zR 83 7)<|sp (Bv true)<|sp (Bv true)<|xY (zR 92 6)<|sp (Bv true)<|zjn<|cTr rfl<|zcr<|sp (Bv false)<|zjr<|t_r<|rH1 (Bv false) H ?_
     rw[xw (fun h=>by obtain⟨h1,h2,h3,h4,h5,h6,h7,h8,h9,bx,aV⟩:=h;contradiction)]
    replace cZ:=x8 cZ
    replace cZ:=vF cZ
    refine xY (zR 56 7)<|sp (Bv true)<|sp (Bv true)<|xY (zR 65 7)<|sp (Bv true)<|sp (Bv true)<|xY (zR 74 7)<|sp (Bv true)<|sp (Bv true)<|xY (zR 83 7)<|sp (Bv true)<|sp (Bv true)<|xY (zR 92 6)<|sp (Bv true)<|zjn<|cTr rfl<|zcr<|sp (Bv false)<|zjr<|t_r<|rH1 (Bv false) H ?_
    rw[xw (fun h=>by obtain⟨h1,h2,h3,h4,h5,h6,h7,h8,h9,bx,aV⟩:=h;contradiction)]
   rw[h8] at H
   refine rgl 26 32 H ?_
   refine rgl 27 32 H ?_
   refine gF 28 rfl rfl H ?_
   refine gL 29 rfl rfl (fun _ h=>h.zo 3 rfl 0 rfl) H ?_
   refine rgp 30 (Bv ((r.qY:Int) == 0)) 32 H ?_
   refine rgp 31 (Bv ((r.qY:Int) == 0)) 27 H ?_
   refine rtp 32 (Bv ((r.qY:Int) == 0)) H ?_
   refine rtp 33 (Bv ((r.qY:Int) == 0)) H ?_
   cases BV:((r.qY:Int) == 0)
   ·replace BV:=ne_of_beq_false BV
    refine rgl 34 40 H ?_
    refine rgl 35 40 H ?_
    refine gF 36 rfl rfl H ?_
    refine gL 37 rfl rfl (fun _ h=>h.zo 3 rfl 7 rfl) H ?_
    refine gN 38 rfl rfl H ?_
    refine rgp 39 (Bv<|decide ((r.xF.length:Int)>3)) 40 H ?_
    refine rtp 40 (Bv<|decide ((r.xF.length:Int)>3)) H ?_
    refine xC qh<|t_n<|cD rfl (fun Cq=>?_)<|fun Cq=>?_
    ·refine zcr (sp (Bv false)<|zjr<|t_r<|rH1 (Bv false) H ?_)
     rw[xw (fun h=>by obtain⟨h1,h2,h3,h4,h5,h6,h7,h8,h9,bx,aV⟩:=h;omega)]
    refine qZ<|t_n<|zcc<|sq 3<|oF rfl<|oL rfl (H.zo 3 rfl 2 rfl)<|sw<|oq (Xi _ s r.zJ (qC (H.get 0 rfl) 0 3) (H.get 1 rfl).1 (H.get 2 rfl).1 (H.get 4 rfl).1) H fun LJ H=>sp (Bv (!(dec<|jm s.zf r.zJ)))<|sp (Bv (!(dec<|jm s.zf r.zJ))) ?_
    cases Bs:(!(dec (jm s.zf r.zJ)))
    ·replace Bs:=xO Bs
     replace Bs:=Qc Bs
     refine qP 55 rfl rfl<|sq 1<|qP 55 rfl rfl<|sq 1<|qP 55 rfl rfl<|sq 1<|qP 55 rfl rfl<|oF rfl<|qP 55 rfl rfl<|oL rfl (H.zo 3 rfl 3 rfl)<|qP 55 rfl rfl<|sw<|oq (Xi _ s r.jB (qC (H.get 0 rfl) 0 3) (H.get 1 rfl).1 (H.get 2 rfl).1 (H.get 5 rfl).1) H fun G3 H=>qP 55 rfl rfl<|sp (Bv (!(dec<|jm s.zf r.jB)))<|sp (Bv (!(dec<|jm s.zf r.jB)))<|sp (Bv (!(dec<|jm s.zf r.jB))) ?_
     cases mi:(!(dec (jm s.zf r.jB)))
     ·replace mi:=xO mi
      replace mi:=Qc mi
      refine qP 64 rfl rfl<|sq 1<|qP 64 rfl rfl<|sq 1<|qP 64 rfl rfl<|sq 1<|qP 64 rfl rfl<|oF rfl<|qP 64 rfl rfl<|oL rfl (H.zo 3 rfl 4 rfl)<|qP 64 rfl rfl<|sw<|oq (Xi _ s r.jD (qC (H.get 0 rfl) 0 3) (H.get 1 rfl).1 (H.get 2 rfl).1 (H.get 6 rfl).1) H fun N9 H=>qP 64 rfl rfl<|sp (Bv (!(dec<|jm s.zf r.jD)))<|sp (Bv (!(dec<|jm s.zf r.jD)))<|sp (Bv (!(dec<|jm s.zf r.jD))) ?_
      cases Pl:(!(dec (jm s.zf r.jD)))
      ·replace Pl:=xO Pl
       replace Pl:=Qc Pl
       refine qP 73 rfl rfl<|sq 1<|qP 73 rfl rfl<|sq 1<|qP 73 rfl rfl<|sq 1<|qP 73 rfl rfl<|oF rfl<|qP 73 rfl rfl<|oL rfl (H.zo 3 rfl 5 rfl)<|qP 73 rfl rfl<|sw<|oq (Xi _ s r.jJ (qC (H.get 0 rfl) 0 3) (H.get 1 rfl).1 (H.get 2 rfl).1 (H.get 7 rfl).1) H fun GT H=>qP 73 rfl rfl<|sp (Bv (!(dec<|jm s.zf r.jJ)))<|sp (Bv (!(dec<|jm s.zf r.jJ)))<|sp (Bv (!(dec<|jm s.zf r.jJ))) ?_
       cases wh:(!(dec (jm s.zf r.jJ)))
       ·replace wh:=xO wh
        replace wh:=Qc wh
        refine qP 82 rfl rfl<|sq 1<|qP 82 rfl rfl<|sq 1<|qP 82 rfl rfl<|sq 1<|qP 82 rfl rfl<|oF rfl<|qP 82 rfl rfl<|oL rfl (H.zo 3 rfl 6 rfl)<|qP 82 rfl rfl<|sw<|oq (Xi _ s r.Qq (qC (H.get 0 rfl) 0 3) (H.get 1 rfl).1 (H.get 2 rfl).1 (H.get 8 rfl).1) H fun LE H=>qP 82 rfl rfl<|sp (Bv (!(dec<|jm s.zf r.Qq)))<|sp (Bv (!(dec<|jm s.zf r.Qq)))<|sp (Bv (!(dec<|jm s.zf r.Qq))) ?_
        cases BC:(!(dec (jm s.zf r.Qq)))
        ·replace BC:=xO BC
         replace BC:=Qc BC
         refine qP 91 rfl rfl<|sq 1<|qP 91 rfl rfl<|sq 1<|qP 91 rfl rfl<|oF rfl<|qP 91 rfl rfl<|oL rfl (H.zo 3 rfl 2 rfl)<|qP 91 rfl rfl<|sw<|oq (Vz _ r.zJ (H.get 4 rfl).1<|by exact jk ql) H fun Sr H=>qP 91 rfl rfl<|sp (Bv ((Xr r.zJ:Int) == 0))<|sp (Bv ((Xr r.zJ:Int) == 0))<|zjn<|cE rfl (fun h70=>?_)<|fun h70=>?_
         ·refine zcr (sp (Bv false)<|zjr<|t_r<|rH1 (Bv false) H ?_)
          rw[xw (fun h=>by obtain⟨h1,h2,h3,h4,h5,h6,h7,h8,h9,bx,aV⟩:=h;contradiction)]
         refine qZ<|t_n<|zcc<|sp (yI 0)<|zjn<|xf<|zD ((fun Z0 Z1 Z2 Z3 Z4 Z5 Z6 Z7 Z8 Z9=>fun m' ρ LL=>∃(xN:Env) (k:Nat),ρ=upd (upd (upd xN 0<|pp bs os) 1<|pp br or) 5 (yI k)/\(k<=r.xF.length)/\(IntosTo s r k)/\m'=r.xF.length-k/\St w LL [] [Z0,Z1,Z2,Z3,Z4,Z5,Z6,Z7,Z8,Z9]) _ _ _ _ _ _ _ _ _ _) (r.xF.length-0) ⟨_,0,uE3,qf,qx,rfl,H⟩ ?_
         clear H
         rintro m' ρ I4 ⟨xN,k,rfl,i0,i1,rfl,H⟩
         refine zcc<|sp (yI k)<|sq 2<|oF rfl<|oL rfl (H.zo 3 rfl 7 rfl)<|oN rfl<|sq 1<|zjn<|cD rfl (fun Re=>?_)<|fun Re=>?_
         ·refine qZ (t_n<|xU<|xf<|zcr<|sq 2<|oF rfl<|oL rfl (H.zo 3 rfl 7 rfl)<|sp (yI k) ?_)
          obtain⟨Wx,o75,rfl⟩:=H.addr 9 rfl qf
          obtain⟨ajh,aip,aiw,H⟩:=H.Qr 9 rfl k k qf qf qf
          refine oI rfl rfl<|sq 1<|zjn<|xU<|xU<|ji rfl H fun H=>rtl 0 H ?_
          refine rtl 1 H ?_
          refine tF 2 rfl rfl H ?_
          refine tL 3 rfl rfl (fun _ h=>h.zo 1 rfl 0 rfl) H ?_
          refine rtl 4 H ?_
          refine rtl 5 H ?_
          refine tF 6 rfl rfl H ?_
          refine tL 7 rfl rfl (fun _ h=>h.zo 2 rfl 1 rfl) H ?_
          refine tN 8 rfl rfl H ?_
          refine rt 9 _ (y_sub s.qA.length 1 rfl rfl qf) H ?_
          refine ro 10 rfl<|oq (l00In_ok I4.drew ((r.xF[k]!).qY) 0<|s.qA.length-1) H fun RH H=>⟨H,(rtp 11 (Bv (!(inR ((r.xF[k]!).qY) 0<|s.qA.length-1))) H ?_)⟩
          refine rtp 12 (Bv (!(inR ((r.xF[k]!).qY) 0<|s.qA.length-1))) H ?_
          cases Rc:(!(inR ((r.xF[k]!).qY) 0 (s.qA.length-1)))
          ·replace Rc:=xO Rc
           replace Rc:=Q8.1 Rc
           refine rgl 13 126 H ?_
           refine rgl 14 126 H ?_
           refine rgl 15 126 H ?_
           refine gF 16 rfl rfl H ?_
           refine gL 17 rfl rfl (fun _ h=>h.zo 1 rfl 0 rfl) H ?_
           refine rgl 18 126 H ?_
           refine rgl 19 126 H ?_
           refine gF 20 rfl rfl H ?_
           refine gL 21 rfl rfl (fun _ h=>h.zo 5 rfl 0 rfl) H ?_
           refine zY [22] qh qm<|X4 rfl (e:=126) rfl rfl (oq (l02In_ok _ s ((r.xF[k]!).qY) r.qY (qC (H.get 2 rfl) 0 3) (H.get 3 rfl).1 (H.get 4 rfl).1 ql ql) H fun w81 H=>⟨H,(rgp 23 (Bv (!(dec<|Lies s.qA r.qY ((r.xF[k]!).qY)))) 126 H ?_)⟩) zZ
           refine rtp 24 (Bv (!(dec<|Lies s.qA r.qY ((r.xF[k]!).qY)))) H ?_
           refine rtp 25 (Bv (!(dec<|Lies s.qA r.qY ((r.xF[k]!).qY)))) H ?_
           cases KU:(!(dec (Lies s.qA r.qY ((r.xF[k]!).qY))))
           ·replace KU:=xO KU
            replace KU:=Qc KU
            refine rgl 26 139 H ?_
            refine rgl 27 139 H ?_
            refine rgl 28 139 H ?_
            refine gF 29 rfl rfl H ?_
            refine gL 30 rfl rfl (fun _ h=>h.zo 1 rfl 1 rfl) H ?_
            refine zY [31] qh qm<|X4 rfl (e:=139) rfl rfl (oq (Xi _ s ((r.xF[k]!).Xq) (qC (H.get 2 rfl) 0 3) (H.get 3 rfl).1 (H.get 4 rfl).1 (H.get 0 rfl).1) H fun KD H=>⟨H,(rgp 32 (Bv (!(dec<|jm s.zf ((r.xF[k]!).Xq)))) 139 H ?_)⟩) zZ
            refine rtp 33 (Bv (!(dec<|jm s.zf ((r.xF[k]!).Xq)))) H ?_
            refine rtp 34 (Bv (!(dec<|jm s.zf ((r.xF[k]!).Xq)))) H ?_
            cases mY:(!(dec (jm s.zf ((r.xF[k]!).Xq))))
            ·replace mY:=xO mY
             replace mY:=Qc mY
             refine rgl 35 148 H ?_
             refine rgl 36 148 H ?_
             refine gF 37 rfl rfl H ?_
             refine gL 38 rfl rfl (fun _ h=>h.zo 1 rfl 1 rfl) H ?_
             refine zY [39] qh qm<|X4 rfl (e:=148) rfl rfl (oq (Vz _ ((r.xF[k]!).Xq) (H.get 0 rfl).1<|by exact jk ql) H fun UV H=>⟨H,(rgp 40 (Bv ((Xr ((r.xF[k]!).Xq):Int) == 0)) 148 H ?_)⟩) zZ
             refine rtp 41 (Bv ((Xr ((r.xF[k]!).Xq):Int) == 0)) H ?_
             refine xC qh<|t_n<|cE rfl (fun y2=>?_)<|fun y2=>?_
             ·refine zcr (sp (Bv false)<|zjr<|t_r<|zr5<|rH1 (Bv false) H ?_)
              rw[xw (fun h=>by obtain⟨h1,h2,h3,h4,h5,h6,h7,h8,h9,bx,aV⟩:=h;(obtain⟨q1,q2,q3,q4,q5⟩:=aV k qf;contradiction))]
             refine qZ<|t_n<|xU<|ji rfl H fun H=>rtp 0 (yI k) H ?_
             refine rtp 1 (Bv<|decide ((k:Int)>0)) H ?_
             refine rtp 2 (Bv<|decide ((k:Int)>0)) H ?_
             cases UX:(decide ((k:Int)>0))
             ·replace UX:=of_decide_eq_false UX
              refine vJ (zR 3 14) 14 (H)<|rtp 17 (Bv false) H ?_
              refine xC qh<|t_n<|cFr rfl<|qZ<|b_n<|t_n<|xX<|sp (yI k)<|sw<|zC k 1 rfl rfl qf<|sq 1<|xZ<|xh (m':=r.xF.length-(k+1)) qf ⟨_,k+1,uE3,?_,?_,rfl,H.sel _ (.refl _) _ qm⟩
              ·omega
              ·exact i1.succ ⟨‹_›,‹_›,‹_›,‹_›,fun hk=>by omega⟩
             replace UX:=of_decide_eq_true UX
             refine rgl 3 158 H ?_
             refine rgl 4 158 H ?_
             refine gF 5 rfl rfl H ?_
             refine gL 6 rfl rfl (fun _ h=>h.zo 5 rfl 7 rfl) H ?_
             refine rgp 7 (yI k) 158 H ?_
             refine rg 8 _ 158 (y_sub k 1 rfl rfl qf) H ?_
             obtain⟨aja,aia,ajc,H⟩:=H.Qr 11 rfl (k-1) (k-1) qf qf qf
             refine gI 9 rfl rfl rfl (H.sel _ (.refl _) _<|fun _ h=>List.mem_cons_of_mem _<|List.mem_cons_of_mem _<|h) ?_
             refine gF 10 rfl rfl (H.sel _ (.refl _) _<|fun _ h=>List.mem_cons_of_mem _<|List.mem_cons_of_mem _<|h) ?_
             refine rgl 12 158 (H.sel _ (.refl _) _<|fun _ h=>List.mem_cons_of_mem _<|List.mem_cons_of_mem _<|h) ?_
             refine rgl 13 158 (H.sel _ (.refl _) _<|fun _ h=>List.mem_cons_of_mem _<|List.mem_cons_of_mem _<|h) ?_
             refine gF 14 rfl rfl (H.sel _ (.refl _) _<|fun _ h=>List.mem_cons_of_mem _<|List.mem_cons_of_mem _<|h) ?_
             refine gL 15 rfl rfl (fun _ h=>h.zo 1 rfl 0 rfl) (H.sel _ (.refl _) _<|fun _ h=>List.mem_cons_of_mem _<|List.mem_cons_of_mem _<|h) ?_
             refine zY [11] qh qm<|X4 rfl (e:=158) rfl rfl (zB (yI ((r.xF[k-1]!).qY)) isAgg2 rfl (H.zo 1 rfl 0 rfl)<|⟨H.dF 2,(rgl 16 158 (H.sel _ (.refl _) _<|fun _ h=>List.mem_cons_of_mem _<|List.mem_cons_of_mem _<|h) ?_)⟩) zZ
             refine rtl 17 (H.sel _ (.refl _) _<|fun _ h=>List.mem_cons_of_mem _<|List.mem_cons_of_mem _<|h) ?_
             refine xC qh<|t_n<|cD rfl (fun KM=>?_)<|fun KM=>?_
             ·refine zcr (sp (Bv false)<|zjr<|zr5<|rH1 (Bv false) H ?_)
              rw[xw (fun h=>by obtain⟨h1,h2,h3,h4,h5,h6,h7,h8,h9,bx,aV⟩:=h;(obtain⟨q1,q2,q3,q4,q5⟩:=aV k qf;omega))]
             refine qZ<|b_n<|t_n<|xX<|sp (yI k)<|sw<|zC k 1 rfl rfl qf<|sq 1<|xZ<|xh (m':=r.xF.length-(k+1)) qf ⟨_,k+1,uE3,?_,?_,rfl,H.sel _ (.refl _) _ qm⟩
             ·omega
             ·exact i1.succ ⟨‹_›,‹_›,‹_›,‹_›,fun hk=>by omega⟩
            replace mY:=x8 mY
            replace mY:=vF mY
            refine vJ (zR 35 6) 6 (H)<|rtp 41 (Bv true) H ?_
            refine xC qh<|t_n<|cTr rfl<|zcr<|sp (Bv false)<|zjr<|t_r<|zr5<|rH1 (Bv false) H ?_
            rw[xw (fun h=>by obtain⟨h1,h2,h3,h4,h5,h6,h7,h8,h9,bx,aV⟩:=h;(obtain⟨q1,q2,q3,q4,q5⟩:=aV k qf;contradiction))]
           replace KU:=x8 KU
           replace KU:=vF KU
           refine vJ (zR 26 7) 7 (H)<|rtp 33 (Bv true) H ?_
           refine rtp 34 (Bv true) H ?_
           refine vJ (zR 35 6) 6 (H)<|rtp 41 (Bv true) H ?_
           refine xC qh<|t_n<|cTr rfl<|zcr<|sp (Bv false)<|zjr<|t_r<|zr5<|rH1 (Bv false) H ?_
           rw[xw (fun h=>by obtain⟨h1,h2,h3,h4,h5,h6,h7,h8,h9,bx,aV⟩:=h;(obtain⟨q1,q2,q3,q4,q5⟩:=aV k qf;contradiction))]
          replace Rc:=x8 Rc
          replace Rc:=XG Rc
          refine vJ (zR 13 11) 11 (H)<|rtp 24 (Bv true) H ?_
          refine rtp 25 (Bv true) H ?_
          refine vJ (zR 26 7) 7 (H)<|rtp 33 (Bv true) H ?_
          refine rtp 34 (Bv true) H ?_
          refine vJ (zR 35 6) 6 (H)<|rtp 41 (Bv true) H ?_
          refine xC qh<|t_n<|cTr rfl<|zcr<|sp (Bv false)<|zjr<|t_r<|zr5<|rH1 (Bv false) H ?_
          rw[xw (fun h=>by obtain⟨h1,h2,h3,h4,h5,h6,h7,h8,h9,bx,aV⟩:=h;(obtain⟨q1,q2,q3,q4,q5⟩:=aV k qf;contradiction))]
         refine zx4<|zcr<|sp (Bv true)<|zjr<|rH1 (Bv true) H ?_
         obtain rfl:k=r.xF.length:=by omega
         rw[jP ⟨by assumption,by omega,by simp_all,by omega,by assumption,by assumption,by assumption,by assumption,by assumption,by assumption,i1⟩]
        replace BC:=x8 BC
        replace BC:=vF BC
        refine xY (zR 92 6)<|sp (Bv true)<|zjn<|cTr rfl<|zcr<|sp (Bv false)<|zjr<|t_r<|rH1 (Bv false) H ?_
        rw[xw (fun h=>by obtain⟨h1,h2,h3,h4,h5,h6,h7,h8,h9,bx,aV⟩:=h;contradiction)]
       replace wh:=x8 wh
       replace wh:=vF wh
       refine xY (zR 83 7)<|sp (Bv true)<|sp (Bv true)<|xY (zR 92 6)<|sp (Bv true)<|zjn<|cTr rfl<|zcr<|sp (Bv false)<|zjr<|t_r<|rH1 (Bv false) H ?_
       rw[xw (fun h=>by obtain⟨h1,h2,h3,h4,h5,h6,h7,h8,h9,bx,aV⟩:=h;contradiction)]
      replace Pl:=x8 Pl
      replace Pl:=vF Pl
      refine xY (zR 74 7)<|sp (Bv true)<|sp (Bv true)<|xY (zR 83 7)<|sp (Bv true)<|sp (Bv true)<|xY (zR 92 6)<|sp (Bv true)<|zjn<|cTr rfl<|zcr<|sp (Bv false)<|zjr<|t_r<|rH1 (Bv false) H ?_
      rw[xw (fun h=>by obtain⟨h1,h2,h3,h4,h5,h6,h7,h8,h9,bx,aV⟩:=h;contradiction)]
     replace mi:=x8 mi
     replace mi:=vF mi
     refine xY (zR 65 7)<|sp (Bv true)<|sp (Bv true)<|xY (zR 74 7)<|sp (Bv true)<|sp (Bv true)<|xY (zR 83 7)<|sp (Bv true)<|sp (Bv true)<|xY (zR 92 6)<|sp (Bv true)<|zjn<|cTr rfl<|zcr<|sp (Bv false)<|zjr<|t_r<|rH1 (Bv false) H ?_
     rw[xw (fun h=>by obtain⟨h1,h2,h3,h4,h5,h6,h7,h8,h9,bx,aV⟩:=h;contradiction)]
    replace Bs:=x8 Bs
    replace Bs:=vF Bs
    refine xY (zR 56 7)<|sp (Bv true)<|sp (Bv true)<|xY (zR 65 7)<|sp (Bv true)<|sp (Bv true)<|xY (zR 74 7)<|sp (Bv true)<|sp (Bv true)<|xY (zR 83 7)<|sp (Bv true)<|sp (Bv true)<|xY (zR 92 6)<|sp (Bv true)<|zjn<|cTr rfl<|zcr<|sp (Bv false)<|zjr<|t_r<|rH1 (Bv false) H ?_
    rw[xw (fun h=>by obtain⟨h1,h2,h3,h4,h5,h6,h7,h8,h9,bx,aV⟩:=h;contradiction)]
   replace BV:=eq_of_beq BV
   refine vJ (zR 34 6) 6 (H)<|rtp 40 (Bv true) H ?_
   refine xC qh<|t_n<|cTr rfl<|zcr<|sp (Bv false)<|zjr<|t_r<|rH1 (Bv false) H ?_
   rw[xw (fun h=>by obtain⟨h1,h2,h3,h4,h5,h6,h7,h8,h9,bx,aV⟩:=h;exact h3 ⟨‹_›,‹_›⟩)]
  replace h7:=x8 h7
  replace h7:=XG h7
  refine vJ (zR 21 11) 11 (H)<|rtp 32 (Bv true) H ?_
  refine rtp 33 (Bv true) H ?_
  refine vJ (zR 34 6) 6 (H)<|rtp 40 (Bv true) H ?_
  refine xC qh<|t_n<|cTr rfl<|zcr<|sp (Bv false)<|zjr<|t_r<|rH1 (Bv false) H ?_
  rw[xw (fun h=>by obtain⟨h1,h2,h3,h4,h5,h6,h7,h8,h9,bx,aV⟩:=h;contradiction)]
 replace h4:=x8 h4
 replace h4:=XG h4
 refine vJ (zR 13 6) 6 (H)<|rtp 19 (Bv true) H ?_
 refine rtp 20 (Bv true) H ?_
 refine vJ (zR 21 11) 11 (H)<|rtp 32 (Bv true) H ?_
 refine rtp 33 (Bv true) H ?_
 refine vJ (zR 34 6) 6 (H)<|rtp 40 (Bv true) H ?_
 refine xC qh<|t_n<|cTr rfl<|zcr<|sp (Bv false)<|zjr<|t_r<|rH1 (Bv false) H ?_
 rw[xw (fun h=>by obtain⟨h1,h2,h3,h4,h5,h6,h7,h8,h9,bx,aV⟩:=h;contradiction)]
theorem l02State_ok(w:World)(s:qH)(t:qG)(hs:jC w bs os (yS s qF qE qO qN))(xe:zP w xu qF qE s.qA)(xE:zP w xW qO qN s.qB)(ht:jC w bt ot (yT t qV qU xm xk qM qL))(xR:zP w zk qV qU t.qK)(zu:zP w zF xm xk t.qQ)(xB:zP w xJ qM qL t.qJ)(p0:yP s):Calls Tryz.prog 83 #[pp bs os,pp bt ot] w (Ret (fun v w'=>v=Bv (dec<|xK s t)) w):=by
 refine en func83 ntmps83 ?_
 have H:=(((((((St.start w).arg xB).arg zu).arg xR).VF ht).arg xE).arg xe).VF hs
 have zV:=qR xe
 clear hs xe xE ht xR zu xB
 have p1:=p0.2.1
 refine zcr<|sp (Bv false)<|zjn<|xU<|xU<|ji rfl H fun H=>rtl 0 H ?_
 refine rtl 1 H ?_
 refine tF 2 rfl rfl H ?_
 refine tL 3 rfl rfl (fun _ h=>h.zo 3 rfl 0 rfl) H ?_
 refine tN 4 rfl rfl H ?_
 refine rtl 5 H ?_
 refine rtl 6 H ?_
 refine tF 7 rfl rfl H ?_
 refine tL 8 rfl rfl (fun _ h=>h.zo 0 rfl 1 rfl) H ?_
 refine tN 9 rfl rfl H ?_
 refine rtp 10 (Bv ((t.qK.length:Int) != s.qA.length)) H ?_
 refine rtp 11 (Bv ((t.qK.length:Int) != s.qA.length)) H ?_
 cases h2:((t.qK.length:Int) != s.qA.length)
 ·replace h2:=xA h2
  refine rgl 12 17 H ?_
  refine rgl 13 17 H ?_
  refine gF 14 rfl rfl H ?_
  refine gL 15 rfl rfl (fun _ h=>h.zo 3 rfl 1 rfl) H ?_
  refine gN 16 rfl rfl H ?_
  refine rgl 17 17 H ?_
  refine rgl 18 17 H ?_
  refine gF 19 rfl rfl H ?_
  refine gL 20 rfl rfl (fun _ h=>h.zo 0 rfl 1 rfl) H ?_
  refine gN 21 rfl rfl H ?_
  refine rgp 22 (Bv ((t.qQ.length:Int) != s.qA.length)) 17 H ?_
  refine rtp 23 (Bv ((t.qQ.length:Int) != s.qA.length)) H ?_
  refine rtp 24 (Bv ((t.qQ.length:Int) != s.qA.length)) H ?_
  cases h3:((t.qQ.length:Int) != s.qA.length)
  ·replace h3:=xA h3
   refine rgl 25 30 H ?_
   refine rgl 26 30 H ?_
   refine gF 27 rfl rfl H ?_
   refine gL 28 rfl rfl (fun _ h=>h.zo 3 rfl 0 rfl) H ?_
   obtain⟨b4,o5,rfl⟩:=H.addr 4 rfl qf
   refine gI 29 rfl rfl rfl H ?_
   refine gL 30 rfl rfl (fun _ h=>h.elemBoolN 4 rfl 0 qf) H ?_
   refine rgp 31 (Bv (!(t.qK[0]!))) 30 H ?_
   refine rtp 32 (Bv (!(t.qK[0]!))) H ?_
   refine rtp 33 (Bv (!(t.qK[0]!))) H ?_
   cases h6:(!(t.qK[0]!))
   ·replace h6:=xO h6
    refine rgl 34 39 H ?_
    refine rgl 35 39 H ?_
    refine rgl 36 39 H ?_
    refine gF 37 rfl rfl H ?_
    refine gL 38 rfl rfl (fun _ h=>h.zo 3 rfl 2 rfl) H ?_
    refine zY [39] qh qm<|X4 rfl (e:=39) rfl rfl (oq (Xi _ s t.qJ (qC (H.get 0 rfl) 0 3) (H.get 1 rfl).1 (H.get 2 rfl).1 (H.get 6 rfl).1) H fun w7 H=>⟨H,(rgl 40 39 H ?_)⟩) zZ
    refine rtl 41 H ?_
    refine xC qh<|t_n<|cQ rfl (fun h9=>?_)<|fun h9=>?_
    ·refine zcr (sp (Bv false)<|zjr<|t_r<|rH1 (Bv false) H ?_)
     rw[xw (fun h=>by obtain⟨h1,h2,h3,h4,h5⟩:=h;contradiction)]
    refine qZ<|t_n<|zcc<|sp (yI 0)<|zjn<|xf<|zD ((fun Z0 Z1 Z2 Z3 Z4 Z5 Z6=>fun m' ρ ov=>∃(xN:Env) (k:Nat),ρ=upd (upd (upd xN 0<|pp bs os) 1<|pp bt ot) 5 (yI k)/\(k<=t.qQ.length)/\(BagsTo s t k)/\m'=t.qQ.length-k/\St w ov [] [Z0,Z1,Z2,Z3,Z4,Z5,Z6]) _ _ _ _ _ _ _) (t.qQ.length-0) ⟨_,0,uE3,qf,qx,rfl,H⟩ ?_
    clear H
    rintro m' ρ rL ⟨xN,k,rfl,i0,i1,rfl,H⟩
    refine zcc<|sp (yI k)<|sq 2<|oF rfl<|oL rfl (H.zo 3 rfl 1 rfl)<|oN rfl<|sq 1<|zjn<|cD rfl (fun cZ=>?_)<|fun cZ=>?_
    ·refine qZ (t_n<|xU<|xf<|zcr<|sq 3<|oF rfl<|oL rfl (H.zo 3 rfl 1 rfl)<|sp (yI k) ?_)
     obtain⟨HT,o14,rfl⟩:=H.addr 5 rfl qf
     obtain⟨apr,api,amm,H⟩:=H.jo 5 rfl k k qf qf qf
     refine oI rfl rfl<|oL rfl (H.zo 1 rfl 0 rfl)<|sw<|oq (Xi _ s (t.qQ[k]!) (qC (H.get 2 rfl) 0 3) (H.get 3 rfl).1 (H.get 4 rfl).1 (H.get 0 rfl).1) H fun KX H=>sp (Bv (!(dec<|jm s.zf<|t.qQ[k]!)))<|sp (Bv (!(dec<|jm s.zf<|t.qQ[k]!))) ?_
     cases g8:(!(dec (jm s.zf (t.qQ[k]!))))
     ·replace g8:=xO g8
      replace g8:=Qc g8
      refine qP 67 rfl rfl<|sq 1<|qP 67 rfl rfl<|sq 1<|qP 67 rfl rfl<|oF rfl<|qP 67 rfl rfl<|oL rfl (H.zo 5 rfl 0 rfl)<|qP 67 rfl rfl<|sp (yI k)<|qP 67 rfl rfl<|oI rfl rfl<|qP 67 rfl rfl<|oL rfl (H.elemBoolN 6 rfl k qf)<|qP 67 rfl rfl<|sp (Bv (!(t.qK[k]!)))<|qP 67 rfl rfl<|sp (Bv (!(t.qK[k]!))) ?_
      cases CI:(!(t.qK[k]!))
      ·replace CI:=xO CI
       refine xY (zR 77 9)<|qP 67 rfl rfl<|sp (Bv false)<|sp (Bv false)<|zjn<|cFr rfl<|qZ<|b_n<|t_n<|xX<|sp (yI k)<|sw<|zC k 1 rfl rfl qf<|sq 1<|xZ<|xh (m':=t.qQ.length-(k+1)) qf ⟨_,k+1,uE3,?_,?_,rfl,H.sel _ (.refl _) _ qm⟩
       ·omega
       ·exact i1.succ ‹_› (fun hk=>by simp_all)
      replace CI:=x8 CI
      refine qP 76 rfl rfl<|sq 1<|qP 76 rfl rfl<|sq 1<|qP 76 rfl rfl<|oF rfl<|qP 76 rfl rfl<|oL rfl (H.zo 5 rfl 1 rfl)<|qP 76 rfl rfl<|sp (yI k)<|qP 76 rfl rfl<|oI rfl rfl<|qP 76 rfl rfl<|oL rfl (H.zo 1 rfl 0 rfl)<|qP 76 rfl rfl<|sw<|oq (Vz _ (t.qQ[k]!) (H.get 0 rfl).1<|by exact jk ql) H fun tr H=>qP 76 rfl rfl<|sp (Bv<|decide ((Xr (t.qQ[k]!):Int)>0))<|qP 67 rfl rfl<|sp (Bv<|decide ((Xr (t.qQ[k]!):Int)>0))<|sp (Bv<|decide ((Xr (t.qQ[k]!):Int)>0))<|zjn<|cD rfl (fun WF=>?_)<|fun WF=>?_
      ·refine zcr (sp (Bv false)<|zjr<|zr5<|rH1 (Bv false) H ?_)
       rw[xw (fun h=>by obtain⟨h1,h2,h3,h4,h5⟩:=h;(obtain⟨q1,q2⟩:=h5 k qf;(have:=q2 ql;omega)))]
      refine qZ<|b_n<|t_n<|xX<|sp (yI k)<|sw<|zC k 1 rfl rfl qf<|sq 1<|xZ<|xh (m':=t.qQ.length-(k+1)) qf ⟨_,k+1,uE3,?_,?_,rfl,H.sel _ (.refl _) _ qm⟩
      ·omega
      ·exact i1.succ ‹_› (fun hk=>by omega)
     replace g8:=x8 g8
     replace g8:=vF g8
     refine xY (zR 68 19)<|sp (Bv true)<|zjn<|cTr rfl<|zcr<|sp (Bv false)<|zjr<|zr5<|rH1 (Bv false) H ?_
     rw[xw (fun h=>by obtain⟨h1,h2,h3,h4,h5⟩:=h;(obtain⟨q1,q2⟩:=h5 k qf;contradiction))]
    refine zx4<|zcr<|sp (Bv true)<|zjr<|rH1 (Bv true) H ?_
    obtain rfl:k=t.qQ.length:=by omega
    rw[jP ⟨by omega,by omega,by assumption,by assumption,i1⟩]
   replace h6:=x8 h6
   refine vJ (zR 34 7) 7 (H)<|rtp 41 (Bv true) H ?_
   refine xC qh<|t_n<|cTr rfl<|zcr<|sp (Bv false)<|zjr<|t_r<|rH1 (Bv false) H ?_
   rw[xw (fun h=>by obtain⟨h1,h2,h3,h4,h5⟩:=h;(simp_all;done))]
  replace h3:=bne_iff_ne.1 h3
  refine vJ (zR 25 7) 7 (H)<|rtp 32 (Bv true) H ?_
  refine rtp 33 (Bv true) H ?_
  refine vJ (zR 34 7) 7 (H)<|rtp 41 (Bv true) H ?_
  refine xC qh<|t_n<|cTr rfl<|zcr<|sp (Bv false)<|zjr<|t_r<|rH1 (Bv false) H ?_
  rw[xw (fun h=>by obtain⟨h1,h2,h3,h4,h5⟩:=h;omega)]
 replace h2:=bne_iff_ne.1 h2
 refine vJ (zR 12 11) 11 (H)<|rtp 23 (Bv true) H ?_
 refine rtp 24 (Bv true) H ?_
 refine vJ (zR 25 7) 7 (H)<|rtp 32 (Bv true) H ?_
 refine rtp 33 (Bv true) H ?_
 refine vJ (zR 34 7) 7 (H)<|rtp 41 (Bv true) H ?_
 refine xC qh<|t_n<|cTr rfl<|zcr<|sp (Bv false)<|zjr<|t_r<|rH1 (Bv false) H ?_
 rw[xw (fun h=>by obtain⟨h1,h2,h3,h4,h5⟩:=h;omega)]
theorem l02Parent_ok(w:World)(s:qH)(t:qG)(c:Int)(hs:jC w bs os (yS s qF qE qO qN))(xe:zP w xu qF qE s.qA)(xE:zP w xW qO qN s.qB)(ht:jC w bt ot (yT t qV qU xm xk qM qL))(xR:zP w zk qV qU t.qK)(zu:zP w zF xm xk t.qQ)(xB:zP w xJ qM qL t.qJ)(p0:yP s)(p1:CellIn s c)(p2:t.qK.length=s.qA.length):Calls Tryz.prog 193 #[pp bs os,pp bt ot,yI c] w (Ret (fun v w'=>v=yI (x9 s t c)) w):=by
 refine en func193 ntmps193 ?_
 have H:=(((((((St.start w).arg xB).arg zu).arg xR).VF ht).arg xE).arg xe).VF hs
 have zV:=qR xe
 clear hs xe xE ht xR zu xB
 have p3:=p0.step p1.1 p1.2
 refine zcr<|sp (yI 0)<|zjc<|sq 2<|oF rfl<|oL rfl (H.zo 0 rfl 1 rfl)<|sp (yI c) ?_
 obtain⟨b1,o2,rfl⟩:=H.addr 1 rfl qf
 refine oI rfl rfl<|oL rfl (H.elemInt 1 rfl c qf qf)<|sq 1<|zjn<|xU<|xf<|zD ((fun Z0 Z1 Z2 Z3 Z4 Z5 Z6=>fun m' ρ w3=>∃(xN:Env) (y:Int) (n:Nat),ρ=upd (upd (upd (upd xN 0<|pp bs os) 1<|pp bt ot) 6<|yI 0) 7 (yI y)/\(-1<=y/\y<=(s.qA.length:Int)-1)/\(y<n)/\(x9 s t c=climb s.qA t.qK n y)/\m'=(y+1).toNat/\St w w3 [] [Z0,Z1,Z2,Z3,Z4,Z5,Z6]) _ _ _ _ _ _ _) (((s.qA[c.toNat]!)+1).toNat) ⟨_,s.qA[c.toNat]!,s.qA.length,uE4,qf,qf,(by rfl),rfl,H⟩ ?_
 clear H
 rintro m' ρ w4 ⟨xN,y,n,rfl,i0,i1,i2,rfl,H⟩
 have up:=fun h=>p0.step (c:=y) h i0.2
 refine zcc<|sp (yI y)<|sp (Bv<|decide ((y:Int)>=0))<|sp (Bv<|decide ((y:Int)>=0)) ?_
 cases h5:(decide ((y:Int)>=0))
 ·replace h5:=of_decide_eq_false h5
  refine xY (zR 18 8)<|sp (Bv false)<|zjn<|cFr rfl<|zx4<|zcr<|sp (yI y)<|sp (yI y)<|zjr<|rH1 (yI y) H ?_
  rw[i2,climb_end<|by omega]
 replace h5:=of_decide_eq_true h5
 refine qP 17 rfl rfl<|sq 1<|qP 17 rfl rfl<|sq 1<|qP 17 rfl rfl<|oF rfl<|qP 17 rfl rfl<|oL rfl (H.zo 3 rfl 0 rfl)<|qP 17 rfl rfl<|sp (yI y)<|qP 17 rfl rfl ?_
 obtain⟨b6,o7,rfl⟩:=H.addr 4 rfl qf
 refine oI rfl rfl<|qP 17 rfl rfl<|oL rfl (H.elemBool 4 rfl y qf qf)<|qP 17 rfl rfl<|sq 2<|zjn<|zX _ rfl (fun h8=>?_)<|fun h8=>?_
 ·replace h8:=x8 h8
  refine qZ<|t_n<|xf<|xX<|sq 2<|oF rfl<|oL rfl (H.zo 0 rfl 1 rfl)<|sp (yI y)<|oI rfl rfl<|oL rfl (H.elemInt 1 rfl y qf qf)<|sq 1<|xZ<|b_n ?_
  have up1:=up qf
  refine xh (m':=((s.qA[y.toNat]!)+1).toNat) qf ⟨_,(s.qA[y.toNat]!),n-1,uE4,?_,?_,?_,rfl,H⟩
  ·omega
  ·omega
  ·exact i2.trans<|climb_go qf qf ‹_›
 replace h8:=xO h8
 refine zx4<|zcr<|sp (yI y)<|sp (yI y)<|zjr<|rH1 (yI y) H ?_
 rw[i2,climb_end<|by simp_all]
theorem l02Ok_ok(w:World)(s:qH)(hs:jC w bs os (yS s qF qE qO qN))(xe:zP w xu qF qE s.qA)(xE:zP w xW qO qN s.qB):Calls Tryz.prog 82 #[pp bs os] w (Ret (fun v w'=>v=Bv (dec<|vz s)) w):=by
 refine en func82 ntmps82 ?_
 have H:=(((St.start w).arg xE).arg xe).VF hs
 have zV:=qR xe
 have jb:=qR xE
 clear hs xe xE
 have p1:=fun h:yP s=>h.2.1
 refine zcr<|sp (Bv false)<|zjcc<|sq 1<|sw<|oq (l02Frame_ok _ s (qC (H.get 0 rfl) 0 3) (H.get 1 rfl).1 (H.get 2 rfl).1) H fun w1 H=>sp (Bv (!(dec<|yP s)))<|sp (Bv (!(dec<|yP s))) ?_
 cases h3:(!(dec (yP s)))
 ·replace h3:=xO h3
  replace h3:=Qc h3
  refine qP 8 rfl rfl<|sq 1<|qP 8 rfl rfl<|sq 1<|qP 8 rfl rfl<|oF rfl<|qP 8 rfl rfl<|oL rfl (H.zo 0 rfl 2 rfl)<|qP 8 rfl rfl<|oN rfl<|qP 8 rfl rfl<|sp (Bv<|decide ((s.qB.length:Int)>16))<|sp (Bv<|decide ((s.qB.length:Int)>16))<|zjn<|cD rfl (fun h4=>?_)<|fun h4=>?_
  ·refine zcr (sp (Bv false)<|zjr<|t_r<|rH1 (Bv false) H ?_)
   rw[xw (fun h=>by obtain⟨h1,h2,h3⟩:=h;omega)]
  have p2:=p1 ql
  refine qZ<|t_n<|zcr<|sq 2<|oF rfl<|oL rfl (H.zo 0 rfl 1 rfl)<|oN rfl<|sw<|o_make1 H underlying24 ti2 rfl s.qA.length rfl rfl qf qf fun b5 w6 H=>?_
  replace H:St _ _ [.box b5 (List.replicate s.qA.length<|yI 0) 2] _:=H
  refine sq 1<|zjcc<|sp (yI 0)<|zjn<|xf ?_
  rw[ints_zero,counts_zero] at H
  refine zD ((fun Z0 Z1 Z2=>fun m' ρ w7=>∃(xN:Env) (k:Nat),ρ=upd (upd (upd xN 0<|pp bs os) 3<|Sv (aa b5 0) s.qA.length s.qA.length) 4 (yI k)/\(k<=s.qB.length)/\(RulesTo s k)/\m'=s.qB.length-k/\St w w7 [.box b5 ((counts s k).map<|Value.int .i64) 2] [Z0,Z1,Z2]) _ _ _) (s.qB.length-0) ⟨_,0,uE3,qf,qx,rfl,H⟩ ?_
  clear H
  rintro m' ρ w8 ⟨xN,k,rfl,i0,i1,rfl,H⟩
  refine zcc<|sp (yI k)<|sq 2<|oF rfl<|oL rfl (H.zo 0 rfl 2 rfl)<|oN rfl<|sq 1<|zjn<|cD rfl (fun h9=>?_)<|fun h9=>?_
  ·refine qZ (t_n<|xU<|xf<|zcc<|sq 3<|oF rfl<|oL rfl (H.zo 0 rfl 2 rfl)<|sp (yI k) ?_)
   obtain⟨g9,F7,rfl⟩:=H.addr 2 rfl qf
   obtain⟨abn,ahF,aeY,ac1,abN,abm,adK,YJ,agP,aaz,ah0,af4,aiQ,aiN,aiz,afv,adV,ac5,H⟩:=H.Qa 2 rfl k k qf qf qf
   refine oI rfl rfl<|sw<|oq (l02Rule_ok _ s (s.qB[k]!) (qC (H.get 7 rfl) 0 3) (H.get 8 rfl).1 (H.get 9 rfl).1 (qC (H.get 6 rfl) 0 9) (H.get 0 rfl).1 (H.get 1 rfl).1 (H.get 2 rfl).1 (H.get 3 rfl).1 (H.get 4 rfl).1 (H.get 5 rfl).1 ql) H fun xp H=>sq 1<|zjn<|cQ rfl (fun mc=>?_)<|fun mc=>?_
   ·refine zcr (sp (Bv false)<|zjr<|t_r<|zr5<|rH1 (Bv false) H ?_)
    rw[xw (fun h=>by obtain⟨h1,h2,h3⟩:=h;(obtain⟨q1,q2⟩:=h3 k qf;contradiction))]
   have q:=(mc).1
   refine qZ<|t_n<|zcr<|sq 3<|oF rfl<|oL rfl (H.zo 7 rfl 2 rfl)<|sp (yI k)<|oI rfl rfl<|oF rfl<|oL rfl (H.zo 6 rfl 0 rfl)<|oI rfl rfl<|oL rfl (H.cell 0 rfl<|ints_get<|by rw[counts_len];omega)<|sw<|zC ((counts s k)[((s.qB[k]!).qY:Int).toNat]!) 1 rfl rfl (by((rw[Ye q];have:=ofCell_bd s.qB (s.qB[k]!).qY k;omega)))<|oI rfl rfl<|sw<|o_store1 H 0 rfl (yI (((counts s k)[((s.qB[k]!).qY:Int).toNat]!)+1)) sizeOf2 rfl rfl rfl (ints_lt<|by rw[counts_len];omega) fun KX H=>?_
   rw[ints_set] at H
   rw[counts_succ q] at H
   replace H:St _ _ [.box b5 ((counts s<|k+1).map<|Value.int .i64) 2] _:=H
   refine zjc<|sq 3<|oF rfl<|oL rfl (H.zo 7 rfl 2 rfl)<|sp (yI k)<|oI rfl rfl<|oF rfl<|oL rfl (H.zo 6 rfl 0 rfl)<|oI rfl rfl<|oL rfl (H.cell 0 rfl<|ints_get<|by rw[counts_len];omega)<|sp (Bv<|decide (((counts s<|k+1)[((s.qB[k]!).qY:Int).toNat]! :Int)>8))<|zjn<|cD rfl (fun Cr=>?_)<|fun Cr=>?_
   ·refine zcr (sp (Bv false)<|zjr<|zr5<|rH1 (Bv false) H ?_)
    rw[xw (fun h=>by obtain⟨h1,h2,h3⟩:=h;(obtain⟨q1,q2⟩:=h3 k qf;(have:=Ye (k:=k+1) q;omega)))]
   refine qZ<|b_n<|t_n<|xX<|sp (yI k)<|sw<|zC k 1 rfl rfl (by(omega))<|sq 1<|xZ<|xh (m':=s.qB.length-(k+1)) qf ⟨_,k+1,uE3,?_,?_,rfl,H.sel _ (.refl _) _ qm⟩
   ·omega
   ·exact i1.succ ‹_› (by have:=Ye (k:=k+1) q;omega)
  refine zx4<|zcr<|sp (Bv true)<|zjr<|rH1 (Bv true) H ?_
  obtain rfl:k=s.qB.length:=by omega
  rw[jP ⟨by assumption,by omega,i1⟩]
 replace h3:=x8 h3
 replace h3:=vF h3
 refine xY (zR 9 6)<|sp (Bv true)<|zjn<|cTr rfl<|zcr<|sp (Bv false)<|zjr<|t_r<|rH1 (Bv false) H ?_
 rw[xw (fun h=>by obtain⟨h1,h2,h3⟩:=h;contradiction)]
end
section
theorem climb_in{s:qH}{t:qG}(hs:yP s)(h0:t.qK[0]! =true):∀(n:Nat) (c:Int),0<=c->c<n->c<=(s.qA.length:Int)-1→
 0<=climb s.qA t.qK n c/\climb s.qA t.qK n c<=c/\t.qK[(climb s.qA t.qK n c).toNat]! =true
 |0,c,h1,h2,h3=>by omega
 |n+1,c,h1,h2,h3=>by
  rw[climb]
  by_cases ha:0<=c/\t.qK[c.toNat]! =false
  ·rw[if_pos ha]
   have hc:0<c:=by
    rcases Int.lt_or_eq_of_le h1 with h|h
    ·exact h
    ·rw[←h] at ha;simp[h0] at ha
   have hu:=hs.up hc h3
   have:=climb_in hs h0 n (s.qA[c.toNat]!) hu.1 qf qf
   exact⟨this.1,by omega,this.2.2⟩
  ·rw[if_neg ha]
   refine⟨h1,Int.le_refl _,?_⟩
   cases hx:t.qK[c.toNat]! with
   |true=>rfl
   |false=>exact absurd ⟨h1,hx⟩ ha
theorem Vk(hs:yP s)(h0:t.qK[0]! =true){c:Int}(h1:0<c)(h2:c<=(s.qA.length:Int)-1):0<=x9 s t c/\x9 s t c<c/\t.qK[(x9 s t c).toNat]! =true:=by
 have hu:=hs.up h1 h2
 have:=climb_in hs h0 s.qA.length (s.qA[c.toNat]!) hu.1 qf qf
 exact⟨this.1,by have:=this.2.1;unfold x9;omega,this.2.2⟩
def melted(s:qH)(t:qG)(c:Int):qG:=
 ⟨t.qK.set c.toNat false,(t.qQ.set (x9 s t c).toNat<|jX (t.qQ[(x9 s t c).toNat]!) (t.qQ[c.toNat]!) 1).set c.toNat<|List.replicate s.zf.toNat 0,t.qJ⟩
open Classical in
noncomputable def told(s:qH)(t:qG):qG×Int:=if xK s t then (t,0) else (default,3)
theorem told_yes(h:xK s t):told s t=(t,0):=by rw[told,if_pos h]
theorem told_no(h:¬xK s t):told s t=(default,3):=by rw[told,if_neg h]
open Classical in
noncomputable def meltRes(s:qH)(t:qG)(c:Int):qG×Int:=
 if cellCodeOf s t c≠0 then (default,cellCodeOf s t c) else if c=0 then (default,4) else told s (melted s t c)
theorem xK.bagLen(h:xK s t)(hk:k<t.qQ.length):jm s.zf (t.qQ[k]!):=(h.2.2.2.2 k hk).1
theorem bagOk_smallT{n:Int}(h:jm n l){t:Int}(ht: -1000000<=t/\t<=1000000):SmallT l t:=fun k hk=>by
 have:=h.1.1 k hk
 constructor
 ·have h1: -(1000000*1000)<=t*l[k]! :=by
   rcases Int.le_total 0 t with h0|h0
   ·have:=Int.mul_nonneg h0 this.1;omega
   ·have h2:=Int.mul_le_mul_of_nonneg_left this.2 (show 0<= -t by omega)
    have h3: -t*l[k]! = -(t*l[k]!):=Int.neg_mul ..
    omega
  omega
 ·have h1:t*l[k]! <=1000000*1000:=by
   rcases Int.le_total 0 t with h0|h0
   ·have h2:=Int.mul_le_mul_of_nonneg_left this.2 h0
    omega
   ·have h2:=Int.mul_nonneg (show 0<= -t by omega) this.1
    have h3: -t*l[k]! = -(t*l[k]!):=Int.neg_mul ..
    omega
  omega
theorem xK.sizes(hs:yP s)(h:xK s t):t.qK.length<=6/\t.qJ.length<=8/\t.qQ.length<=6/\∀k,k<t.qQ.length->(t.qQ[k]!).length<=8:=
 ⟨by have:=h.1;have:=hs.2.1;omega,h.2.2.2.1.1.2.2,by have:=h.2.1;have:=hs.2.1;omega,fun k hk=>(h.bagLen hk).1.2.2⟩
theorem xK.add(h:xK s t)(hj:j<t.qQ.length)(hk:k<t.qQ.length):(t.qQ[j]!).length<=(t.qQ[k]!).length/\Mid (t.qQ[j]!)/\SmallT (t.qQ[k]!) 1:=by
 have h1:=h.bagLen hj
 have h2:=h.bagLen hk
 exact⟨by have:=h1.2;have:=h2.2;omega,(jk h1).mid,bagOk_smallT h2 qf⟩
theorem drop_get(h:k+1<l.length):(l.drop 1)[k]! =l[k+1]! :=by
 rw[getElem!_pos (l.drop 1) k<|by rw[List.length_drop];omega,getElem!_pos l (k+1) h]
 simp[Nat.add_comm]
theorem lies_up(hs:yP s){c o:Int}(hc:CellIn s c):Lies s.qA o c<->0<=s.qA[c.toNat]! /\(s.qA[c.toNat]! =o\/Lies s.qA o (s.qA[c.toNat]!)):=by
 rw[lies_iff]
 rcases Int.lt_or_eq_of_le hc.1 with h|h
 ·have:=hs.up h hc.2
  constructor
  ·rintro⟨_,h1⟩;exact⟨this.1,h1⟩
  ·rintro⟨_,h1⟩;exact⟨h,h1⟩
 ·subst h
  have:=hs.2.2.1
  simp only[Int.toNat_zero] at *
  constructor
  ·rintro⟨h1,_⟩;omega
  ·rintro⟨h1,_⟩;omega
def counts6(s:qH)(k:Nat):yLI:=(List.range 6).map fun c:Nat=>VJ s.qB (c:Int) k
theorem counts6_len(s:qH)(k:Nat):(counts6 s k).length=6:=by simp[counts6]
theorem counts6_zero(s:qH):([0,0,0,0,0,0]:yLI)=counts6 s 0:=by simp[counts6,List.range_succ,VJ]
theorem Ya{c:Int}(h:0<=c)(h1:c<=5):(counts6 s k)[c.toNat]! =VJ s.qB c k:=by
 rw[getElem!_pos _ _<|by rw[counts6_len];omega]
 simp only[counts6,List.getElem_map,List.getElem_range]
 rw[show ((c.toNat:Nat):Int)=c by omega]
theorem counts6_succ(h:0<=(s.qB[k]!).qY)(h1:(s.qB[k]!).qY<=5):
 (counts6 s k).set (s.qB[k]!).qY.toNat ((counts6 s k)[(s.qB[k]!).qY.toNat]! +1)=counts6 s (k+1):=by
 rw[Ya h h1]
 apply List.ext_getElem
 ·simp[counts6]
 ·intro i h1 h2
  rw[List.getElem_set]
  simp only[counts6,List.getElem_map,List.getElem_range,VJ]
  by_cases e:(s.qB[k]!).qY.toNat=i
  ·subst e
   rw[if_pos rfl,if_pos qf,show (((s.qB[k]!).qY.toNat:Nat):Int)=(s.qB[k]!).qY by omega]
  ·rw[if_neg e,if_neg qf];omega
theorem sum_nonneg(h:XZ l):0<=Xr l:=by
 have:∀k,k<=l.length->0<=sumTo l k:=fun k=>by
  induction k with
  |zero=>intro _;exact Int.le_refl _
  |succ k ih=>intro hk;have:=ih qf;have:=h.1 k qf;simp only[sumTo];omega
 exact this _<|Nat.le_refl _
end
section
theorem cloneB_ok(w:World)(l:List Bool)(hl:zP w Fl al cl l)(p0:l.length<=1000000):Calls Tryz.prog 120 #[Sv al l.length cl] w (Ret (fun v w'=>∃(ra:yOA) (rn:Nat) (rc:Nat),v=Sv ra rn rc/\Fresh w.heap.size []/\St w w' [rr ra rn rc 4 1<|l.map<|Value.bool] []) w):=by
 refine en func120 ntmps120 ?_
 have H:=(St.start w).arg hl
 have y4:=qR hl
 clear hl
 have N:=Fresh.nil w.heap.size
 refine zcr<|sq 1<|zjcc<|sq 1<|sw<|o_eqnil underlying28 al l.length cl rfl<|zjn<|zX _ rfl (fun h1=>?_)<|fun h1=>?_
 ·refine zcr (sq 1<|zjr<|t_r ?_)
  replace H:=H.nilRowB 4
  refine rH1 yN H ?_
  obtain rfl:=H.nilOf 0 rfl ‹_›
  exact⟨none,0,0,rfl,N,H.pick [0] []⟩
 refine qZ<|t_n<|zcr<|sw<|ja H underlying28 ti4 fun b2 w3 H=>sq 1 ?_
 replace H:=H.boxRowB 0 [] 0
 refine sw<|o_appendFR H 0 rfl 0 rfl underlying28 ti4 rfl qj rfl rfl qp qf fun a4 c5 w6 us7 G8 H hG9=>?_
 obtain⟨_,rfl⟩:=reps_bools (H.get 0 rfl).1
 replace H:=H.sub _ fun f hf=>List.mem_cons_of_mem _ hf
 rw[catB] at H
 refine sq 1<|zjr<|rH1 (Sv a4 (0+l.length) c5) H<|⟨a4,0+l.length,c5,rfl,N,H.pick [0] []⟩
theorem l02Own_ok(w:World)(t:qG){bt ot:Nat}{qU:Nat}{xk:Nat}{qL:Nat}(ht:jC w bt ot (yT t qV qU xm xk qM qL))(xR:zP w zk qV qU t.qK)(zu:zP w zF xm xk t.qQ)(xB:zP w xJ qM qL t.qJ)(p0:t.qK.length<=1000000)(p1:t.qJ.length<=1000000)(p2:t.qQ.length<=1000000)(p3:∀k,k<t.qQ.length->(t.qQ[k]!).length<=1000000):Calls Tryz.prog 112 #[pp bt ot] w (Ret (fun v w'=>∃(m7:yOA) (np:Nat) (nI:Nat) (ss:yOA) (uF:Nat) (ul:Nat) (sE:List Value) (tC:yLN) (ly:yOA) (kQ:Nat) (kL:Nat),v=.agg #[Sv m7 np nI,Sv ss uF ul,Sv ly kQ kL]/\Fresh w.heap.size [tC]/\St w w' [rr m7 np nI 4 1<|t.qK.map<|Value.bool,rr ss uF ul 24 1 sE,rr ly kQ kL 2 1<|t.qJ.map<|Value.int .i64] [xG true tC sE t.qQ]) w):=by
 refine en func112 ntmps112 ?_
 have H:=((((St.start w).arg xB).arg zu).arg xR).VF ht
 clear ht xR zu xB
 have N:=Fresh.nil w.heap.size
 refine zcr<|sw<|xg H ti31 [yN,yN,yN] fun b1 w2 H=>zjn<|xU<|VD (fun ρ w8=>∃(xN:Env) (b3:Nat) (a4:yOA) (c5:Nat) (a6:yOA) (c7:Nat),ρ=upd (upd (upd xN 0<|pp bt ot) 2<|pp b1 0) 3 (pp b3 0)/\Fresh w.heap.size []/\St w w8 [.box b3 [Sv a4 (0+t.qK.length) c5,yN,Sv a6 t.qJ.length c7] 31,rr a6 t.qJ.length c7 2 1<|t.qJ.map<|Value.int .i64,rr a4 (0+t.qK.length) c5 4 1 ((([]:List Bool)++t.qK).map<|Value.bool),.box b1 [yN,yN,yN] 31] [atF bt ot<|yT t qV qU xm xk qM qL,sF false zk qV qU t.qK,sF false zF xm xk t.qQ,sF false xJ qM qL t.qJ]) ?_ ?_
 ·refine ji rfl H fun H=>rtl 1 H ?_
  refine rtl 2 H ?_
  refine tF 3 rfl rfl H ?_
  refine tL 4 rfl rfl (fun _ h=>h.zo 0 rfl 0 rfl) H ?_
  refine rtl 6 H ?_
  refine rtl 7 H ?_
  refine tF 8 rfl rfl H ?_
  refine tL 9 rfl rfl (fun _ h=>h.zo 0 rfl 2 rfl) H ?_
  refine zY [0,12] qh qm<|vG rfl ?_<|vG rfl ?_ zZ
  ·refine ja H underlying28 ti4 fun g9 rL H=>⟨H.pick [1]<|zR 0 4,(zY [5,12] qh qm<|vG rfl ?_<|vG rfl ?_ zZ)⟩
   ·replace H:=H.boxRowB 0 [] 0
    refine o_appendFR H 0 rfl 1 rfl underlying28 ti4 rfl qj rfl rfl qp qf fun GL G9 O5 azh G16 H ajI=>?_
    obtain⟨_,rfl⟩:=reps_bools (H.get 0 rfl).1
    replace H:=H.sub _ fun f hf=>List.mem_cons_of_mem _ hf
    rw[catB] at H
    refine⟨H.pick [1]<|zR 0 4,(zY [10,12] qh qm<|vG rfl ?_<|vG rfl ?_ zZ)⟩
    ·refine oc (XX _ t.qJ (H.get 3 rfl).1 qg) ?_
     rintro v23 G4 r23 x22
     replace H:=H.zO x22 r23
     obtain⟨a24,A3,rfl,aoD,ams⟩:=H.yc 0 rfl
     refine⟨H.pick [2]<|zR 0 4,(zY [11,12] qh qm<|vG rfl ?_<|vG rfl ?_ zZ)⟩
     ·refine vg [Sv GL (0+t.qK.length) G9,yN,Sv a24 t.qJ.length A3] [(0,Sv GL (0+t.qK.length) G9),(2,Sv a24 t.qJ.length A3)]<|⟨H.pick [2]<|zR 0 4,(ro 12 rfl<|xg H ti31 [yN,yN,yN] fun rj GZ H=>⟨H.pick [3]<|zR 0 4,(ro 13 rfl<|xx H 0 [Sv GL (0+t.qK.length) G9,yN,Sv a24 t.qJ.length A3] sizeOf31 fun BB H=>⟨H.pick [3]<|zR 0 4,(xC qh ((meet ⟨_,rj,GL,G9,a24,A3,uE3,N,H⟩)))⟩)⟩)⟩
     refine xg H ti31 [yN,yN,yN] fun BD G6 H=>⟨H.pick [3]<|zR 0 4,(ro 11 rfl<|vg [Sv GL (0+t.qK.length) G9,yN,Sv a24 t.qJ.length A3] [(0,Sv GL (0+t.qK.length) G9),(2,Sv a24 t.qJ.length A3)]<|⟨H.pick [3]<|zR 0 4,(ro 13 rfl<|xx H 0 [Sv GL (0+t.qK.length) G9,yN,Sv a24 t.qJ.length A3] sizeOf31 fun Ml H=>⟨H.pick [3]<|zR 0 4,(xC qh ((meet ⟨_,BD,GL,G9,a24,A3,uE3,N,H⟩)))⟩)⟩)⟩
    refine xg H ti31 [yN,yN,yN] fun mV Ao H=>⟨H.pick [2]<|zR 0 4,(ro 10 rfl ?_)⟩
    refine oc (XX _ t.qJ (H.get 3 rfl).1 qg) ?_
    rintro v41 BG r41 x40
    replace H:=H.zO x40 r41
    obtain⟨KB,KJ,rfl,ape,aj2⟩:=H.yc 0 rfl
    refine⟨H.pick [3]<|zR 0 4,(ro 11 rfl<|vg [Sv GL (0+t.qK.length) G9,yN,Sv KB t.qJ.length KJ] [(0,Sv GL (0+t.qK.length) G9),(2,Sv KB t.qJ.length KJ)]<|⟨H.pick [3]<|zR 0 4,(ro 13 rfl<|xx H 1 [Sv GL (0+t.qK.length) G9,yN,Sv KB t.qJ.length KJ] sizeOf31 fun Dz H=>⟨H.pick [3]<|zR 0 4,(xC qh ((meet ⟨_,mV,GL,G9,KB,KJ,uE3,N,H.pick [1,0,2,3]<|zR 0 4⟩)))⟩)⟩)⟩
   refine xg H ti31 [yN,yN,yN] fun GS Lc H=>⟨H.pick [2]<|zR 0 4,(ro 5 rfl ?_)⟩
   replace H:=H.boxRowB 1 [] 0
   refine o_appendFR H 1 rfl 1 rfl underlying28 ti4 rfl qj rfl rfl qp qf fun HW HV w51 awI G53 H azZ=>?_
   obtain⟨_,rfl⟩:=reps_bools (H.get 0 rfl).1
   replace H:=H.sub _ fun f hf=>List.mem_cons_of_mem _ hf
   rw[catB] at H
   refine⟨H.pick [2]<|zR 0 4,(ro 10 rfl ?_)⟩
   refine oc (XX _ t.qJ (H.get 3 rfl).1 qg) ?_
   rintro v60 Ny r60 x59
   replace H:=H.zO x59 r60
   obtain⟨L0,L9,rfl,amp,ap5⟩:=H.yc 0 rfl
   refine⟨H.pick [3]<|zR 0 4,(ro 11 rfl<|vg [Sv HW (0+t.qK.length) HV,yN,Sv L0 t.qJ.length L9] [(0,Sv HW (0+t.qK.length) HV),(2,Sv L0 t.qJ.length L9)]<|⟨H.pick [3]<|zR 0 4,(ro 13 rfl<|xx H 1 [Sv HW (0+t.qK.length) HV,yN,Sv L0 t.qJ.length L9] sizeOf31 fun LE H=>⟨H.pick [3]<|zR 0 4,(xC qh ((meet ⟨_,GS,HW,HV,L0,L9,uE3,N,H.pick [1,0,2,3]<|zR 0 4⟩)))⟩)⟩)⟩
  refine xg H ti31 [yN,yN,yN] fun OD w67 H=>⟨H.pick [1]<|zR 0 4,(ro 0 rfl<|ja H underlying28 ti4 fun b68 KF H=>⟨H.pick [2]<|zR 0 4,(ro 5 rfl ?_)⟩)⟩
  replace H:=H.boxRowB 0 [] 0
  refine o_appendFR H 0 rfl 1 rfl underlying28 ti4 rfl qj rfl rfl qp qf fun a70 c71 I4 azv G74 H aAy=>?_
  obtain⟨_,rfl⟩:=reps_bools (H.get 0 rfl).1
  replace H:=H.sub _ fun f hf=>List.mem_cons_of_mem _ hf
  rw[catB] at H
  refine⟨H.pick [2]<|zR 0 4,(ro 10 rfl ?_)⟩
  refine oc (XX _ t.qJ (H.get 3 rfl).1 qg) ?_
  rintro v81 NB r81 x80
  replace H:=H.zO x80 r81
  obtain⟨WA,Vn,rfl,ax4,auF⟩:=H.yc 0 rfl
  refine⟨H.pick [3]<|zR 0 4,(ro 11 rfl<|vg [Sv a70 (0+t.qK.length) c71,yN,Sv WA t.qJ.length Vn] [(0,Sv a70 (0+t.qK.length) c71),(2,Sv WA t.qJ.length Vn)]<|⟨H.pick [3]<|zR 0 4,(ro 13 rfl<|xx H 2 [Sv a70 (0+t.qK.length) c71,yN,Sv WA t.qJ.length Vn] sizeOf31 fun w86 H=>⟨H.pick [3]<|zR 0 4,(xC qh ((meet ⟨_,OD,a70,c71,WA,Vn,uE3,N,H.pick [2,0,1,3]<|zR 0 4⟩)))⟩)⟩)⟩
 clear H N
 rintro ρ UV ⟨xN,b3,a4,c5,a6,c7,rfl,N,H⟩
 refine t_n<|zcc<|sp (yI 0)<|zjn<|xf ?_
 replace H:=H.nilRow 24 1
 replace H:=H.vP (α:=yLI)
 refine zD ((fun Z0 Z1 Z2 Z3 Z4 Z5 Z6=>fun m' ρ OM=>∃(xN:Env) (c:Nat) (yY:yOA) (jA:Nat) (yX:Nat) (ax:yLL) (jw:List Value) (zM:yLN),ρ=upd (upd (upd (upd xN 0<|pp bt ot) 2<|pp b1 0) 3<|pp b3 0) 4 (yI c)/\ax=t.qQ.take c/\((c:Int)<=t.qQ.length)/\m'=(t.qQ.length-(c:Int)).toNat/\Fresh w.heap.size [zM]/\St w OM [rr yY jA yX 24 1 jw,.box b3 [Sv a4 (0+t.qK.length) c5,Sv yY jA yX,Sv a6 t.qJ.length c7] 31,Z0,Z1,Z2] [xG true zM jw ax,Z3,Z4,Z5,Z6]) _ _ _ _ _ _ _) ((t.qQ.length-(0:Int)).toNat) ⟨_,0,none,0,0,([]:yLL),[],[],uE4,(by rfl),qf,rfl,N.emp,H⟩ ?_
 clear H N
 rintro m' ρ w89 ⟨xN,c,yY,jA,yX,ax,jw,zM,rfl,rfl,i0,rfl,N,H⟩
 have V8:=H.xQ (α:=yLI) 0 rfl 0 rfl qj
 have p4:=p3 c
 rw[List.length_take_of_le qf] at V8
 refine zcc<|sp (yI c)<|sq 2<|oF rfl<|oL rfl (H.zo 1 rfl 1 rfl)<|oN rfl<|sq 1<|zjn<|cD rfl (fun CS=>?_)<|fun CS=>?_
 ·refine qZ (t_n<|xU<|xf ?_)
  obtain⟨R4,o92,rfl⟩:=H.addr 3 rfl qf
  refine VD (fun ρ xc=>∃(xN:Env) (T5:yOA) (UF:Nat) (a96:yOA) (c97:Nat) (Kv:yLN) (F99:yLN) (Gk:yOA) (FU:Nat),ρ=upd (upd (upd (upd xN 0<|pp bt ot) 2<|pp b1 0) 3<|pp b3 0) 4 (yI c)/\Fresh w.heap.size [(zM++Kv)]/\St w xc [rr T5 (jA+1) UF 24 1<|jw++[Sv a96 ((t.qQ[c]!).length) c97],.box b3 [Sv a4 (0+t.qK.length) c5,Sv T5 (jA+1) UF,Sv a6 t.qJ.length c7] 31,rr a6 t.qJ.length c7 2 1<|t.qJ.map<|Value.int .i64,rr a4 (0+t.qK.length) c5 4 1 ((([]:List Bool)++t.qK).map<|Value.bool),.box b1 [yN,yN,yN] 31] [xG true (zM++Kv) (jw++[Sv a96 ((t.qQ[c]!).length) c97]) ((t.qQ.take c)++[(t.qQ[c]!)]),sF true Kv a96 c97<|t.qQ[c]!,sF false F99 Gk FU<|t.qQ[c]!,atF R4 (o92+(c:Int).toNat*1) [Sv Gk ((t.qQ[c]!).length) FU],atF bt ot [Sv qV t.qK.length qU,Sv (aa R4 o92) t.qQ.length xk,Sv qM t.qJ.length qL],sF false zk qV qU t.qK,sF false zF (aa R4 o92) xk t.qQ,sF false xJ qM qL t.qJ]) ?_ ?_
  ·refine Qd rfl H [2,3,4] fun H=>?_
   have S:=H.jF [2,3,4]<|zR 0 5
   refine tF 0 rfl rfl S ?_
   refine rtl 2 S ?_
   refine rtl 3 S ?_
   refine tF 4 rfl rfl S ?_
   refine tL 5 rfl rfl (fun _ h=>h.zo 1 rfl 1 rfl) S ?_
   refine rtp 6 (yI c) S ?_
   obtain⟨u0,wA,Ev,H⟩:=H.jo 3 rfl c c qf qf qf
   refine tI 7 rfl rfl rfl (H.pick [2,3,4]<|zR 2 5)<|zY [1,8] qh qm<|vG rfl ?_<|vG rfl ?_ zZ
   ·refine zB (Sv yY jA yX) isAgg29 rfl (H.cell 1 rfl rfl) (⟨H.pick [2,3,4]<|zR 2 5,(ro 8 rfl<|zB (Sv u0 ((t.qQ[c]!).length) wA) isAgg24 rfl (H.zo 1 rfl 0 rfl)<|⟨H.pick [2,3,4]<|zR 2 5,(ro 9 rfl ?_)⟩)⟩)
    refine oc (XX _ (t.qQ[c]!) (H.get 0 rfl).1 qg) ?_
    rintro aue LF aki anK
    replace H:=H.zO anK aki
    obtain⟨J6,JJ,rfl,arW,ars⟩:=H.yc 0 rfl
    refine⟨H.pick [3,4,5]<|zR 2 5,(ro 10 rfl<|zl H underlying29 ti24 [Sv J6 ((t.qQ[c]!).length) JJ] fun As oe H=>⟨H.pick [4,5,6]<|zR 2 5,(ro 11 rfl ?_)⟩)⟩
    obtain⟨sB,N,OS,H⟩:=H.zQ 1 rfl N<|H.vX [2]
    refine zt H 2 rfl 0 rfl underlying29 ti24 rfl qj rfl rfl rfl qw qp qf fun Ca CR Jt H=>?_
    replace H:=H.yh 3 rfl 0 rfl
    replace N:Fresh w.heap.size [(zM++sB)]:=(N.pick [1,0]).join
    refine⟨H.pick [4,5,6]<|zR 4 5,(tF 12 rfl rfl (H.pick [4,5,6]<|zR 4 5) ?_)⟩
    refine ro 13 rfl<|xn H 3 [Sv a4 (0+t.qK.length) c5,Sv Ca (jA+1) CR,Sv a6 t.qJ.length c7] sizeOf29 fun SL H=>⟨H.pick [4,5,6]<|zR 4 5,(xC qh ((meet ⟨_,Ca,CR,J6,JJ,sB,Ev,u0,wA,uE4,N,H.pick (zR 2 5) [0,1,2,3,5,6,7,8]⟩)))⟩
   refine zB (Sv u0 ((t.qQ[c]!).length) wA) isAgg24 rfl (H.zo 1 rfl 0 rfl)<|⟨H.pick [2,3,4]<|zR 2 5,(zY [1,9] qh qm<|vG rfl ?_<|vG rfl ?_ zZ)⟩
   ·refine zB (Sv yY jA yX) isAgg29 rfl (H.cell 1 rfl rfl) (⟨H.pick [2,3,4]<|zR 2 5,(ro 9 rfl ?_)⟩)
    refine oc (XX _ (t.qQ[c]!) (H.get 0 rfl).1 qg) ?_
    rintro ax2 FM ajQ ap9
    replace H:=H.zO ap9 ajQ
    obtain⟨afM,acY,rfl,asw,aqr⟩:=H.yc 0 rfl
    refine⟨H.pick [3,4,5]<|zR 2 5,(ro 10 rfl<|zl H underlying29 ti24 [Sv afM ((t.qQ[c]!).length) acY] fun gt FW H=>⟨H.pick [4,5,6]<|zR 2 5,(ro 11 rfl ?_)⟩)⟩
    obtain⟨age,N,atq,H⟩:=H.zQ 1 rfl N<|H.vX [2]
    refine zt H 2 rfl 0 rfl underlying29 ti24 rfl qj rfl rfl rfl qw qp qf fun ahZ YX CW H=>?_
    replace H:=H.yh 3 rfl 0 rfl
    replace N:Fresh w.heap.size [(zM++age)]:=(N.pick [1,0]).join
    refine⟨H.pick [4,5,6]<|zR 4 5,(tF 12 rfl rfl (H.pick [4,5,6]<|zR 4 5) ?_)⟩
    refine ro 13 rfl<|xn H 3 [Sv a4 (0+t.qK.length) c5,Sv ahZ (jA+1) YX,Sv a6 t.qJ.length c7] sizeOf29 fun CN H=>⟨H.pick [4,5,6]<|zR 4 5,(xC qh ((meet ⟨_,ahZ,YX,afM,acY,age,Ev,u0,wA,uE4,N,H.pick (zR 2 5) [0,1,2,3,5,6,7,8]⟩)))⟩
   refine oc (XX _ (t.qQ[c]!) (H.get 0 rfl).1 qg) ?_
   rintro aAO Ln akw amO
   replace H:=H.zO amO akw
   obtain⟨LW,K5,rfl,aqi,aq9⟩:=H.yc 0 rfl
   refine⟨H.pick [3,4,5]<|zR 2 5,(zY [1,10] qh qm<|vG rfl ?_<|vG rfl ?_ zZ)⟩
   ·refine zB (Sv yY jA yX) isAgg29 rfl (H.cell 2 rfl rfl) (⟨H.pick [3,4,5]<|zR 2 5,(ro 10 rfl<|zl H underlying29 ti24 [Sv LW ((t.qQ[c]!).length) K5] fun jN Mb H=>⟨H.pick [4,5,6]<|zR 2 5,(ro 11 rfl ?_)⟩)⟩)
    obtain⟨agI,N,atO,H⟩:=H.zQ 1 rfl N<|H.vX [2]
    refine zt H 2 rfl 0 rfl underlying29 ti24 rfl qj rfl rfl rfl qw qp qf fun agi ahp adn H=>?_
    replace H:=H.yh 3 rfl 0 rfl
    replace N:Fresh w.heap.size [(zM++agI)]:=(N.pick [1,0]).join
    refine⟨H.pick [4,5,6]<|zR 4 5,(tF 12 rfl rfl (H.pick [4,5,6]<|zR 4 5) ?_)⟩
    refine ro 13 rfl<|xn H 3 [Sv a4 (0+t.qK.length) c5,Sv agi (jA+1) ahp,Sv a6 t.qJ.length c7] sizeOf29 fun Nb H=>⟨H.pick [4,5,6]<|zR 4 5,(xC qh ((meet ⟨_,agi,ahp,LW,K5,agI,Ev,u0,wA,uE4,N,H.pick (zR 2 5) [0,1,2,3,5,6,7,8]⟩)))⟩
   refine zl H underlying29 ti24 [Sv LW ((t.qQ[c]!).length) K5] fun rI BN H=>⟨H.pick [4,5,6]<|zR 2 5,(ro 1 rfl<|zB (Sv yY jA yX) isAgg29 rfl (H.cell 3 rfl rfl)<|⟨H.pick [4,5,6]<|zR 2 5,(ro 11 rfl ?_)⟩)⟩
   obtain⟨aaG,N,at4,H⟩:=H.zQ 1 rfl N<|H.vX [2]
   refine zt H 2 rfl 0 rfl underlying29 ti24 rfl qj rfl rfl rfl qw qp qf fun abJ ad8 HQ H=>?_
   replace H:=H.yh 3 rfl 0 rfl
   replace N:Fresh w.heap.size [(zM++aaG)]:=(N.pick [1,0]).join
   refine⟨H.pick [4,5,6]<|zR 4 5,(tF 12 rfl rfl (H.pick [4,5,6]<|zR 4 5) ?_)⟩
   refine ro 13 rfl<|xn H 3 [Sv a4 (0+t.qK.length) c5,Sv abJ (jA+1) ad8,Sv a6 t.qJ.length c7] sizeOf29 fun Tw H=>⟨H.pick [4,5,6]<|zR 4 5,(xC qh ((meet ⟨_,abJ,ad8,LW,K5,aaG,Ev,u0,wA,uE4,N,H.pick (zR 2 5) [0,1,2,3,5,6,7,8]⟩)))⟩
  clear H N
  rintro ρ aaS ⟨xN,T5,UF,a96,c97,Kv,F99,Gk,FU,rfl,N,H⟩
  refine b_n<|t_n<|xX<|sp (yI c)<|sw<|zC c 1 rfl rfl qf<|sq 1<|xZ<|xh (m':=(t.qQ.length-((c+1):Int)).toNat) qf ⟨_,c+1,_,_,_,_,_,_,uE4,?_,?_,rfl,N,H.pick (zR 0 5) [0,4,5,6,7]⟩
  ·exact take_snoc qf
  ·omega
 refine zx4<|zcr<|sw<|xy [Sv a4 (0+t.qK.length) c5,Sv yY jA yX,Sv a6 t.qJ.length c7] isAgg31 sizeOf31 rfl (qC (H.cells 1 rfl) 0 3)<|sw<|xx H 4 [Sv a4 (0+t.qK.length) c5,Sv yY jA yX,Sv a6 t.qJ.length c7] sizeOf31 fun ZM H=>zjr<|retC H 4 rfl rfl isAgg31 sizeOf31 rfl ⟨_,rfl,?_,H.base⟩
 obtain rfl:c=t.qQ.length:=by omega
 rw[List.take_length] at H
 exact⟨a4,0+t.qK.length,c5,yY,jA,yX,jw,zM,a6,t.qJ.length,c7,rfl,N,H.pick [3,0,2] [0]⟩
end
section
theorem ft{b:Bool}(h:b=true)(h':b=false):False:=by rw[h] at h';cases h'
theorem getset{α:Type}[Inhabited α]{l:List α}{v:α}(hc:c<l.length):(l.set c v)[p]! =if p=c then v else l[p]! :=by
 by_cases hp:p<l.length
 ·rw[getElem!_pos _ _<|by simpa using hp,getElem!_pos l p hp,List.getElem_set]
  by_cases e:c=p
  ·rw[if_pos e,if_pos e.symm]
  ·rw[if_neg e,if_neg<|fun h=>e h.symm]
 ·rw[if_neg qf,getElem!_neg (l.set c v) p<|by simpa using hp,getElem!_neg l p hp]
theorem XM{t:Int}(hk:k<l.length):(jX l m t)[k]! =l[k]! +t*m[k]! :=by
 rw[getElem!_pos (jX l m t) k<|by rw[Xh];exact hk]
 simp[jX,plusTo]
theorem ext_get{α:Type}[Inhabited α]{l m:List α}(hl:l.length=m.length)(h:∀k,k<l.length->l[k]! =m[k]!):l=m:=by
 apply List.ext_getElem hl
 intro i h1 h2
 have:=h i h1
 rwa [getElem!_pos l i h1,getElem!_pos m i h2] at this
theorem set_self{α:Type}[Inhabited α]{l:List α}{v:α}(hc:c<l.length)(h:v=l[c]!):l.set c v=l:=by
 refine ext_get qm fun k hk=>?_
 rw[getset hc]
 by_cases e:k=c
 ·rw[if_pos e,e,h]
 ·rw[if_neg e]
theorem plus_zero{t:Int}(ht:t=0):jX l m t=l:=by
 refine ext_get (Xh _ _ _) fun k hk=>?_
 rw[Xh] at hk
 rw[XM hk,ht];omega
def Shape(n K:Nat)(B:Int)(b:yLL):Prop:=b.length=n/\∀p,p<n->(b[p]!).length=K/\∀k,k<K-> -B<=(b[p]!)[k]! /\(b[p]!)[k]! <=B
structure Ent(n K:Nat)(f:Nat->Nat->Int)(B:Int)(b:yLL):Prop where
 sh:Shape n K B b
 eq:∀p k,p<n->k<K->(b[p]!)[k]! =f p k
def at'(p c:Nat)(x:Int):Int:=if p=c then x else 0
theorem Shape.set(h:Shape n K B b)(hc:c<n)(hv:v.length=K)(hb:∀k,k<K-> -D<=v[k]! /\v[k]! <=D)(hD:B<=D):Shape n K D (b.set c v):=by
 refine⟨by simp[h.1],fun p hp=>?_⟩
 rw[getset<|by rw[h.1];exact hc]
 by_cases e:p=c
 ·rw[if_pos e];exact⟨hv,hb⟩
 ·rw[if_neg e]
  refine⟨(h.2 p hp).1,fun k hk=>?_⟩
  have:=(h.2 p hp).2 k hk
  omega
theorem Shape.plus(h:Shape n K B b){t:Int}(hc:c<n)(ht:∀k,k<K-> -D<=t*m[k]! /\t*m[k]! <=D)(hD:0<=D):
 Shape n K (B+D) (b.set c<|jX (b[c]!) m t):=by
 have h1:=h.2 c hc
 refine h.set hc (by rw[Xh];exact h1.1) (fun k hk=>?_) qf
 rw[XM<|by rw[h1.1];exact hk]
 have:=h1.2 k hk
 have:=ht k hk
 omega
theorem Shape.row(h:Shape n K B b)(hB:B<=1000000000000000)(hK:K<=8)(hc:c<n):(b[c]!).length=K/\Mid (b[c]!):=by
 have h1:=h.2 c hc
 refine⟨h1.1,by have:=h1.1;omega,fun k hk=>?_⟩
 have:=h1.2 k (by have:=h1.1;omega)
 omega
theorem Ent.add{f:Nat->Nat->Int}(h:Ent n K f B b){t:Int}(e:b'=b.set c (jX (b[c]!) m t))(hc:c<n)(ht:∀k,k<K-> -D<=t*m[k]! /\t*m[k]! <=D)(hD:0<=D):
 Ent n K (fun p k=>f p k+at' p c (t*m[k]!)) (B+D) b':=by
 subst e
 refine⟨h.sh.plus hc ht hD,fun p k hp hk=>?_⟩
 rw[getset<|by rw[h.sh.1];exact hc]
 unfold at'
 by_cases e:p=c
 ·subst e
  rw[if_pos rfl,if_pos rfl,XM<|by rw[(h.sh.2 p hp).1];exact hk,h.eq p k hp hk]
 ·rw[if_neg e,if_neg e,h.eq p k hp hk];omega
theorem Shape.mono(h:Shape n K B b)(hD:B<=D):Shape n K D b:=⟨h.1,fun p hp=>⟨(h.2 p hp).1,fun k hk=>by have:=(h.2 p hp).2 k hk;omega⟩⟩
theorem Ent.to{f g:Nat->Nat->Int}(h:Ent n K f B b)(e:∀p k,f p k=g p k)(hD:B<=D):Ent n K g D b:=⟨h.sh.mono hD,fun p k hp hk=>(h.eq p k hp hk).trans<|e p k⟩
theorem Ent.same{f g:Nat->Nat->Int}{c:yLL}(h:Ent n K f B b)(h':Ent n K g D c)(e:∀p k,p<n->k<K->f p k=g p k):b=c:=by
 refine ext_get (by rw[h.sh.1,h'.sh.1]) fun p hp=>?_
 rw[h.sh.1] at hp
 refine ext_get (by rw[(h.sh.2 p hp).1,(h'.sh.2 p hp).1]) fun k hk=>?_
 rw[(h.sh.2 p hp).1] at hk
 rw[h.eq p k hp hk,h'.eq p k hp hk,e p k hp hk]
def tab2(n K:Nat)(f:Nat->Nat->Int):yLL:=(List.range n).map fun p=>(List.range K).map<|f p
theorem tab2_len(n K:Nat)(f:Nat->Nat->Int):(tab2 n K f).length=n:=by simp[tab2]
theorem tab2_row{f:Nat->Nat->Int}(hp:p<n):(tab2 n K f)[p]! =(List.range K).map (f p):=by
 rw[getElem!_pos (tab2 n K f) p<|by rw[tab2_len];exact hp];simp[tab2]
theorem Ent.tab{f:Nat->Nat->Int}(h:Ent n K f B b):b=tab2 n K f:=by
 refine ext_get (by rw[h.sh.1,tab2_len]) fun p hp=>?_
 rw[h.sh.1] at hp
 rw[tab2_row hp]
 refine ext_get (by rw[(h.sh.2 p hp).1];simp) fun k hk=>?_
 rw[(h.sh.2 p hp).1] at hk
 rw[h.eq p k hp hk,getElem!_pos ((List.range K).map<|f p) k<|by simpa using hk];simp
theorem Ent.snoc{f:Nat->Nat->Int}(h:Ent n K f B b)(ha:a.length=K)(hb:∀k,k<K-> -B<=a[k]! /\a[k]! <=B)(he:∀k,k<K->a[k]! =f n k):Ent (n+1) K f B (b++[a]):=by
 have hl:(b++[a]).length=n+1:=by simp[h.sh.1]
 have h1:∀p,p<n->(b++[a])[p]! =b[p]! :=fun p hp=>by
  rw[getElem!_pos (b++[a]) p qf,getElem!_pos b p<|by rw[h.sh.1];exact hp,List.getElem_append_left]
 have h2:(b++[a])[n]! =a:=by
  rw[getElem!_pos (b++[a]) n qf,List.getElem_append_right<|by rw[h.sh.1];exact Nat.le_refl _];simp
 refine⟨⟨hl,fun p hp=>?_⟩,fun p k hp hk=>?_⟩
 ·by_cases e:p=n
  ·subst e;rw[h2];exact⟨ha,hb⟩
  ·rw[h1 p qf];exact h.sh.2 p qf
 ·by_cases e:p=n
  ·subst e;rw[h2];exact he k hk
  ·rw[h1 p qf];exact h.eq p k qf hk
def yE(s:qH):Nat:=s.zf.toNat
abbrev jK(s:qH):Nat:=s.qA.length
def IntoUp(s:qH)(t:qG)(r:yH)(k:Nat):Prop:=∀j,j<k->t.qK[(r.xF[j]!).qY.toNat]! =true/\x9 s t (r.xF[j]!).qY=r.qY
theorem IntoUp.succ(h:IntoUp s t r k)(h1:t.qK[(r.xF[k]!).qY.toNat]! =true)(h2:x9 s t (r.xF[k]!).qY=r.qY):IntoUp s t r (k+1):=fun j hj=>by
 by_cases e:j=k
 ·subst e;exact⟨h1,h2⟩
 ·exact h j qf
def EnOk(s:qH)(t:qG)(r:yH):Prop:=
 t.qK[r.qY.toNat]! =true/\within r.zJ (t.qQ[r.qY.toNat]!)=true/\within r.jB (t.qQ[r.qY.toNat]!)=true/\¬(0<Xr r.jD/\within r.jD (t.qQ[r.qY.toNat]!)=true)/\IntoUp s t r r.xF.length
open Classical in
noncomputable def bestOf(s:qH)(t:qG)(z:Int)(c:Nat):Nat->Int
 |0=>z
 |k+1=>if EnOk s t (s.qB[k]!)/\(s.qB[k]!).qY.toNat=c then max (bestOf s t z c k) (s.qB[k]!).yK else bestOf s t z c k
noncomputable def bests(s:qH)(t:qG)(z:Int)(n k:Nat):yLI:=tabTo (fun c=>bestOf s t z c k) n
theorem XY(s:qH)(t:qG)(z:Int)(n k:Nat):(bests s t z n k).length=n:=tabTo_len _ _
theorem tab_get{g:Nat->Int}(h:c<n):(tabTo g n)[c]! =g c:=by
 rw[getElem!_pos (tabTo g n) c<|by rw[tabTo_len];exact h];simp[tabTo]
theorem bests_zero(s:qH)(t:qG)(z:Int)(n:Nat):List.replicate n z=bests s t z n 0:=by
 refine ext_get (by simp[XY]) fun k hk=>?_
 rw[List.length_replicate] at hk
 rw[bests,tab_get hk,getElem!_pos (List.replicate n z) k<|by simpa using hk];simp[bestOf]
theorem bests_get(h:c<n):(bests s t z n k)[c]! =bestOf s t z c k:=tab_get h
theorem bests_set(h:EnOk s t (s.qB[k]!))(hc:(s.qB[k]!).qY.toNat<n):
 (bests s t z n k).set (s.qB[k]!).qY.toNat (max ((bests s t z n k)[(s.qB[k]!).qY.toNat]!) (s.qB[k]!).yK)=bests s t z n (k+1):=by
 refine ext_get (by simp[XY]) fun p hp=>?_
 rw[List.length_set,XY] at hp
 rw[getset<|by rw[XY];exact hc,bests_get hc,bests_get hp,bests_get hp,bestOf]
 by_cases e:p=(s.qB[k]!).qY.toNat
 ·rw[if_pos e,if_pos ⟨h,e.symm⟩,e]
 ·rw[if_neg e,if_neg fun x=>e x.2.symm]
theorem bests_skip(h:¬EnOk s t (s.qB[k]!)):bests s t z n k=bests s t z n (k+1):=by
 refine ext_get (by simp[XY]) fun p hp=>?_
 rw[XY] at hp
 rw[bests_get hp,bests_get hp,bestOf,if_neg fun x=>h x.1]
def Appl(s:qH)(t:qG)(i:Nat):Prop:=
 EnOk s t (s.qB[i]!)/\∀j,j<s.qB.length->EnOk s t (s.qB[j]!)->(s.qB[j]!).qY.toNat=(s.qB[i]!).qY.toNat->(s.qB[j]!).yK<=(s.qB[i]!).yK
theorem best_ge{s:qH}{t:qG}{z:Int}{c:Nat}:∀ {k j:Nat},j<k->EnOk s t (s.qB[j]!)->(s.qB[j]!).qY.toNat=c->(s.qB[j]!).yK<=bestOf s t z c k
 |k+1,j,h,h1,h2=>by
  rw[bestOf]
  by_cases e:j=k
  ·subst e;rw[if_pos ⟨h1,h2⟩];omega
  ·have:=best_ge (z:=z) (show j<k by omega) h1 h2
   split <;> omega
theorem best_le{s:qH}{t:qG}{z:Int}{c:Nat}{x:Int}(hz:z<=x):∀ {k:Nat},(∀j,j<k->EnOk s t (s.qB[j]!)->(s.qB[j]!).qY.toNat=c->(s.qB[j]!).yK<=x)->bestOf s t z c k<=x
 |0,_=>hz
 |k+1,h=>by
  rw[bestOf]
  have h1:=best_le hz (k:=k) fun j hj=>h j qf
  split
  ·next h2=>have:=h k qf h2.1 h2.2;omega
  ·exact h1
theorem appl_iff(hi:i<s.qB.length)(hz:z<=(s.qB[i]!).yK):
 Appl s t i<->EnOk s t (s.qB[i]!)/\(s.qB[i]!).yK=bestOf s t z (s.qB[i]!).qY.toNat s.qB.length:=by
 constructor
 ·rintro⟨h1,h2⟩
  refine⟨h1,?_⟩
  have h3:=best_ge (z:=z) hi h1 rfl
  have h4:=best_le (c:=(s.qB[i]!).qY.toNat) hz (k:=s.qB.length) h2
  omega
 ·rintro⟨h1,h2⟩
  exact⟨h1,fun j hj h3 h4=>by rw[h2];exact best_ge hj h3 h4⟩
noncomputable def applB(s:qH)(t:qG)(k m:Nat):List Bool:=(List.range m).map fun j=>if j<k then dec (Appl s t j) else dec (EnOk s t<|s.qB[j]!)
theorem applB_len(s:qH)(t:qG)(k m:Nat):(applB s t k m).length=m:=by simp[applB]
theorem applB_get{m:Nat}(h:j<m):(applB s t k m)[j]! =if j<k then dec (Appl s t j) else dec (EnOk s t<|s.qB[j]!):=by
 rw[getElem!_pos (applB s t k m) j<|by rw[applB_len];exact h];simp[applB]
theorem applB_snoc(s:qH)(t:qG)(m:Nat):applB s t 0 m++[dec<|EnOk s t<|s.qB[m]!]=applB s t 0 (m+1):=by simp[applB,List.range_succ]
theorem applB_set{m:Nat}{x:Bool}(hk:k<m)(hx:x=dec (Appl s t k)):(applB s t k m).set k x=applB s t (k+1) m:=by
 refine ext_get (by simp[applB_len]) fun p hp=>?_
 rw[List.length_set,applB_len] at hp
 rw[getset<|by rw[applB_len];exact hk,applB_get hp,applB_get hp]
 by_cases e:p=k
 ·subst e;rw[if_pos rfl,if_pos qf,hx]
 ·rw[if_neg e]
  by_cases e1:p<k
  ·rw[if_pos e1,if_pos qf]
  ·rw[if_neg e1,if_neg qf]
theorem applB_step0{m:Nat}(hk:k<m)(h:(applB s t k m)[k]! =false):false=dec (Appl s t k):=by
 rw[applB_get hk,if_neg qf] at h
 exact(xw fun x=>vF h x.1).symm
theorem applB_step1{m:Nat}(hk:k<m)(h:(applB s t k m)[k]! =true)(hm:m=s.qB.length)(hc:(s.qB[k]!).qY.toNat<n)(hz:z<=(s.qB[k]!).yK)(hi:i=s.qB.length):
 ((s.qB[k]!).yK == (bests s t z n i)[(s.qB[k]!).qY.toNat]!)=dec (Appl s t k):=by
 rw[applB_get hk,if_neg qf] at h
 refine dec_eq ?_
 rw[beq_iff_eq,bests_get hc,hi,appl_iff qf hz]
 exact⟨fun e=>⟨Qc h,e⟩,fun e=>e.2⟩
noncomputable def appl(s:qH)(t:qG):List Bool:=applB s t s.qB.length s.qB.length
theorem appl_len(s:qH)(t:qG):(appl s t).length=s.qB.length:=applB_len _ _ _ _
theorem appl_get(h:j<s.qB.length):(appl s t)[j]! =dec (Appl s t j):=by rw[appl,applB_get h,if_pos h]
theorem Xa(h:j<s.qB.length)(h1:(appl s t)[j]! =true):Appl s t j:=Qc<|appl_get (s:=s) (t:=t) h▸h1
theorem Qz(h:j<s.qB.length)(h1:(appl s t)[j]! =false):¬Appl s t j:=vF<|appl_get (s:=s) (t:=t) h▸h1
def HaltTo(s:qH)(t:qG)(k:Nat):Prop:=∀j,j<k->¬Appl s t j
theorem HaltTo.succ(h:HaltTo s t k)(h1:¬Appl s t k):HaltTo s t (k+1):=fun j hj=>by
 by_cases e:j=k
 ·subst e;exact h1
 ·exact h j qf
abbrev Halted(s:qH)(t:qG):Prop:=HaltTo s t s.qB.length
noncomputable def Yb(s:qH)(t:qG)(k:Nat):yLI:=((List.range k).filter fun j=>dec<|Appl s t j).map Int.ofNat
theorem VT(h:Appl s t k):Yb s t k++[(k:Int)]=Yb s t (k+1):=by simp[Yb,List.range_succ,List.filter_append,jP h]
theorem applL_no(h:¬Appl s t k):Yb s t k=Yb s t (k+1):=by simp[Yb,List.range_succ,List.filter_append,xw h]
noncomputable def appls(s:qH)(t:qG):yLI:=Yb s t s.qB.length
theorem applL_le(s:qH)(t:qG)(k:Nat):(Yb s t k).length<=k:=by
 have:=List.length_filter_le (fun j=>dec<|Appl s t j)<|List.range k
 simpa [Yb] using this
theorem mem_applL{x:Int}:x∈Yb s t k<->0<=x/\x.toNat<k/\Appl s t x.toNat:=by
 simp only[Yb,List.mem_map,List.mem_filter,List.mem_range]
 constructor
 ·rintro⟨j,⟨h1,h2⟩,rfl⟩
  exact⟨Int.natCast_nonneg j,h1,Qc h2⟩
 ·rintro⟨h0,h1,h2⟩
  exact⟨x.toNat,⟨h1,jP h2⟩,by show ((x.toNat:Nat):Int)=x;omega⟩
theorem appls_at{m:Nat}(hm:(Yb s t m).length=q)(hn:m<=s.qB.length)(hq:q<(appls s t).length):
    ∃i:Nat,(appls s t)[q]! =(i:Int)/\m<=i/\i<s.qB.length/\Appl s t i/\(∀j,m<=j->j<i->¬Appl s t j)/\(Yb s t<|i+1).length=q+1:=by
  have D3:∀d m,m+d=s.qB.length->(Yb s t m).length=q->∃i:Nat,(appls s t)[q]! =(i:Int)/\m<=i/\i<s.qB.length/\Appl s t i/\(∀j,m<=j->j<i->¬Appl s t j)/\(Yb s t<|i+1).length=q+1:=by
    intro d
    induction d with
    | zero => intro m hd hl; exfalso; have e : m = s.qB.length := by omega
              subst e;unfold appls at hq;omega
    | succ d ih=>
      intro m hd hl
      by_cases ha:Appl s t m
      · have aof:∀d' k,m+1+d'=k->∃aW,Yb s t k=Yb s t m++[(m:Int)]++aW:=by
          intro d'
          induction d' with
          |zero=>intro k hk;subst hk;exact⟨[],by rw[Nat.add_zero,←VT ha];simp⟩
          | succ d' ih' =>
            intro k hk
            obtain⟨aW,ua⟩:=ih' (m+1+d') rfl
            subst hk
            by_cases hb:Appl s t (m+1+d')
            · exact⟨aW++[((m+1+d':Nat):Int)],by rw[←Nat.add_assoc,←VT hb,ua];simp⟩
            · exact⟨aW,by rw[←Nat.add_assoc,←applL_no hb,ua]⟩
        obtain⟨aW,ua⟩:=aof d s.qB.length qf
        refine⟨m,?_,Nat.le_refl _,by omega,ha,fun j h1 h2=>by omega,by rw[←VT ha];simp[hl]⟩
        rw[appls,ua,List.append_assoc,getElem!_pos (Yb s t m++([(m:Int)]++aW)) q<|by simp[hl],List.getElem_append_right qf]
        simp[hl]
      · obtain ⟨i,h1,h2,h3,h4,h5,h6⟩:=ih (m+1) qf (by rw [← applL_no ha];exact hl)
        exact⟨i,h1,by omega,h3,h4,fun j hj1 Fq=>by
          by_cases e:j=m
          · subst e;exact ha
          · exact h5 j qf Fq,h6⟩
  exact D3 (s.qB.length-m) m qf hm
theorem appls_end{m:Nat}(hm:(Yb s t m).length=q)(hn:m<=s.qB.length)(hq:(appls s t).length<=q):∀j,m<=j->j<s.qB.length->¬Appl s t j:=by
 have D3:∀d,∀m,m+d=s.qB.length->(appls s t).length<=(Yb s t m).length->∀j,m<=j->j<s.qB.length->¬Appl s t j:=by
  intro d
  induction d with
  |zero=>intro m hd _ j h1 h2;omega
  |succ d ih=>
   intro m hd hl j h1 h2
   have mono:∀d' k,m+1+d'=k->(Yb s t<|m+1).length<=(Yb s t k).length:=by
    intro d'
    induction d' with
    |zero=>intro k hk;subst hk;exact Nat.le_refl _
    |succ d' ih'=>
     intro k hk
     subst hk
     have:=ih' (m+1+d') rfl
     rw[←Nat.add_assoc]
     by_cases hb:Appl s t (m+1+d')
     ·rw[←VT hb];simp;omega
     ·rw[←applL_no hb];exact this
   have P9:=mono d s.qB.length qf
   by_cases ha:Appl s t m
   ·exfalso
    rw[←VT ha] at P9
    simp at P9
    unfold appls at hl
    omega
   ·by_cases e:j=m
    ·subst e;exact ha
    ·exact ih (m+1) qf (by rw[←applL_no ha];exact hl) j qf h2
 exact D3 (s.qB.length-m) m qf qf
theorem vz.rule(h:vz s)(hi:i<s.qB.length):RuleOk s (s.qB[i]!):=(h.2.2 i hi).1
theorem RuleOk.cell(h:RuleOk s r):r.qY.toNat<jK s:=by have:=h.1.1;have:=h.1.2;unfold jK;omega
theorem jm.len(h:jm s.zf l):l.length=yE s:=by have:=h.2;unfold yE;omega
theorem jm.get{n:Int}(h:jm n l)(hk:k<l.length):0<=l[k]! /\l[k]! <=1000:=h.1.1 k hk
theorem jm.mul(h:jm s.zf m){t:Int}(ht: -1000<=t/\t<=1000):∀k,k<yE s-> -1000000<=t*m[k]! /\t*m[k]! <=1000000:=fun k hk=>by
 have h1:=h.1.1 k<|by rw[h.len];exact hk
 rcases Int.le_total 0 t with h0|h0
 ·have h2:=Int.mul_nonneg h0 h1.1
  have h3:=Int.mul_le_mul_of_nonneg_left h1.2 h0
  omega
 ·have h2:=Int.mul_nonneg (show 0<= -t by omega) h1.1
  have h3:=Int.mul_le_mul_of_nonneg_left h1.2<|show 0<= -t by omega
  have h4: -t*m[k]! = -(t*m[k]!):=Int.neg_mul ..
  omega
theorem jm.Qb(h:jm s.zf m){t:Int}(ht: -1000<=t/\t<=1000):SmallT m t:=bagOk_smallT h qf
theorem kinds_le(h:vz s):yE s<=8:=by have:=h.1.1.2;unfold yE;omega
theorem xK.shape(h:xK s t):Shape (jK s) (yE s) 1000 t.qQ:=by
 refine⟨h.2.1,fun p hp=>?_⟩
 have hb:=h.bagLen (k:=p)<|by rw[h.2.1];exact hp
 refine⟨hb.len,fun k hk=>?_⟩
 have:=hb.get (k:=k)<|by rw[hb.len];exact hk
 omega
def CntOk(s:qH)(counts:yLI):Prop:=counts.length=s.qB.length/\∀i,i<counts.length->0<=counts[i]! /\counts[i]! <=1000
theorem CntOk.bd{counts:yLI}(h:CntOk s counts)(hi:i<s.qB.length):0<=counts[i]! /\counts[i]! <=1000:=h.2 i<|by rw[h.1];exact hi
def yB(s:qH)(t:qG)(counts:yLI):Nat->yLL
 |0=>t.qQ
 |k+1=>(yB s t counts k).set (s.qB[k]!).qY.toNat<|jX ((yB s t counts k)[(s.qB[k]!).qY.toNat]!) (s.qB[k]!).zJ (-(counts[k]!))
def needF(s:qH)(counts:yLI)(i p k:Nat):Int:=at' p (s.qB[i]!).qY.toNat (-(counts[i]!)*((s.qB[i]!).zJ)[k]!)
def needS(s:qH)(counts:yLI):Nat->Nat->Nat->Int
 |0,_,_=>0
 |i+1,p,k=>needS s counts i p k+needF s counts i p k
theorem restR_ent{s:qH}{t:qG}{counts:yLI}(hs:vz s)(ht:xK s t)(hc:CntOk s counts):∀k,k<=s.qB.length→
 Ent (jK s) (yE s) (fun p q=>(t.qQ[p]!)[q]! +needS s counts k p q) (1000+1000000*k) (yB s t counts k)
 |0,_=>⟨by simpa [yB] using ht.shape,fun p k hp hk=>by simp[yB,needS]⟩
 |k+1,h=>by
  have hr:=hs.rule (i:=k) qf
  have hcb:=hc.bd (i:=k) qf
  refine((restR_ent hs ht hc k qf).add (D:=1000000) rfl hr.cell (hr.2.2.2.2.1.mul qf) qf).to (fun p q=>?_) qf
  show _=_+(needS s counts k p q+needF s counts k p q)
  unfold needF;omega
theorem restR_row{counts:yLI}(hs:vz s)(ht:xK s t)(hc:CntOk s counts)(hk:k<=s.qB.length)(h:c<jK s):
 ((yB s t counts k)[c]!).length=yE s/\Mid ((yB s t counts k)[c]!):=(restR_ent hs ht hc k hk).sh.row (by have:=hs.2.1;omega) (kinds_le hs) h
theorem restR_len{s:qH}{t:qG}{counts:yLI}:∀k,(yB s t counts k).length=t.qQ.length
 |0=>rfl
 |k+1=>by rw[yB,List.length_set];exact restR_len k
theorem restR_skip{counts:yLI}(hs:vz s)(ht:xK s t)(hk:k<s.qB.length)(h:counts[k]! =0):yB s t counts (k+1)=yB s t counts k:=by
 rw[yB,plus_zero qf]
 exact set_self (by rw[restR_len,ht.2.1];exact(hs.rule hk).cell) rfl
open Classical in
noncomputable def X6(P:Nat->Prop):Nat->Nat
 |0=>0
 |n+1=>if X6 P n<n then X6 P n else if P n then n else n+1
theorem stop_none{P:Nat->Prop}:∀ {n:Nat},(∀j,j<n->¬P j)->X6 P n=n
 |0,_=>rfl
 |n+1,h=>by rw[X6,stop_none (n:=n)<|fun j hj=>h j qf,if_neg qf,if_neg<|h n qf]
theorem stop_first{P:Nat->Prop}:∀ {n k:Nat},(∀j,j<k->¬P j)->k<n->P k->X6 P n=k
 |n+1,k,h,hk,hp=>by
  rw[X6]
  by_cases e:k=n
  ·subst e;rw[stop_none h,if_neg qf,if_pos hp]
  ·rw[stop_first (n:=n) h qf hp,if_pos qf]
def BadAt(s:qH)(t:qG)(counts:yLI)(i:Nat):Prop:=0<counts[i]! /\¬Appl s t i
def GoodTo(s:qH)(t:qG)(counts:yLI)(k:Nat):Prop:=∀i,i<k->¬BadAt s t counts i
theorem GoodTo.succ{counts:yLI}(h:GoodTo s t counts k)(h1:¬BadAt s t counts k):GoodTo s t counts (k+1):=fun j hj=>by
 by_cases e:j=k
 ·subst e;exact h1
 ·exact h j qf
def NonNeg(b:yLL)(n:Nat):Prop:=∀p,p<n->∀k,k<(b[p]!).length->0<=(b[p]!)[k]!
theorem NonNeg.succ(h:NonNeg b n)(h1:∀k,k<(b[n]!).length->0<=(b[n]!)[k]!):NonNeg b (n+1):=fun j hj=>by
 by_cases e:j=n
 ·subst e;exact h1
 ·exact h j qf
def IsCh(s:qH)(t:qG)(counts:yLI):Prop:=GoodTo s t counts counts.length/\NonNeg (yB s t counts counts.length) t.qQ.length
def VW(s:qH)(t:qG)(counts:yLI):Prop:=IsCh s t counts/\∀i,i<s.qB.length->Appl s t i->within (s.qB[i]!).zJ ((yB s t counts counts.length)[(s.qB[i]!).qY.toNat]!)=false
def Qv(l m:yLI):Nat->Int
 |0=>1000
 |k+1=>if 0<l[k]! then min (Qv l m k) (m[k]! / l[k]!) else Qv l m k
def jd(l m:yLI):Int:=Qv l m l.length
theorem timesTo_pos(h:0<l[k]!):Qv l m (k+1)=min (Qv l m k) (m[k]! / l[k]!):=by rw[Qv,if_pos h]
theorem timesTo_skip(h:¬0<l[k]!):Qv l m (k+1)=Qv l m k:=by rw[Qv,if_neg h]
theorem X0{l m:yLI}(hm:∀k,k<l.length->0<=m[k]!):∀k,k<=l.length->0<=Qv l m k/\Qv l m k<=1000
 |0,_=>by simp[Qv]
 |k+1,h=>by
  have:=X0 hm k qf
  rw[Qv]
  split
  ·next h1=>have:=Int.ediv_nonneg (hm k qf) (show 0<=l[k]! by omega);omega
  ·exact this
theorem timesTo_le{l m:yLI}:∀ {k j:Nat},j<k->0<l[j]! ->Qv l m k<=m[j]! / l[j]!
 |k+1,j,h,h1=>by
  rw[Qv]
  by_cases e:j=k
  ·subst e;rw[if_pos h1];omega
  ·have:=timesTo_le (m:=m) (show j<k by omega) h1
   split <;> omega
theorem timesL_left(hl:∀k,k<l.length->0<=l[k]!)(hm:∀k,k<l.length->0<=m[k]!)(hk:k<l.length):0<=m[k]! + -(jd l m)*l[k]! :=by
 rcases Int.lt_or_eq_of_le (hl k hk) with h|h
 ·have h1:=timesTo_le (m:=m) hk h
  have h2:m[k]! / l[k]!*l[k]! <=m[k]! :=Int.ediv_mul_le _ qf
  have h3:=Int.mul_le_mul_of_nonneg_right h1<|show 0<=l[k]! by omega
  have h4: -(jd l m)*l[k]! = -(jd l m*l[k]!):=Int.neg_mul ..
  unfold jd at *
  omega
 ·rw[←h];have:=hm k hk;omega
def XA(l m:yLI)(i:Nat)(dz:Int):Prop:=(dz=Qv l m i/\∃j,j<i/\0<l[j]!)\/(dz= -1/\Qv l m i=1000/\∀j,j<i->l[j]! <=0)
theorem XA.zero(l m:yLI):XA l m 0 (-1):=.inr ⟨rfl,rfl,fun j hj=>by omega⟩
theorem XA.take(h:XA l m i dz)(hm:0<=m[i]! /\m[i]! <=1000)(hl:0<l[i]!)(hb:dz<0\/m[i]! / l[i]!<dz)(hn:0<=Qv l m i):XA l m (i+1) (m[i]! / l[i]!):=by
 refine .inl ⟨?_,i,by omega,hl⟩
 rw[timesTo_pos hl]
 have h1:m[i]! / l[i]! <=m[i]! :=Int.ediv_le_self _ hm.1
 rcases h with ⟨h,_⟩|⟨h,h2,_⟩ <;> omega
theorem XA.keep(h:XA l m i dz)(hl:¬0<l[i]!):XA l m (i+1) dz:=by
 unfold XA
 rw[timesTo_skip hl]
 rcases h with ⟨h,j,h1,h2⟩|⟨h,h2,h3⟩
 ·exact .inl ⟨h,j,by omega,h2⟩
 ·refine .inr ⟨h,h2,fun j hj=>?_⟩
  by_cases e:j=i
  ·subst e;omega
  ·exact h3 j qf
theorem XA.keep2(h:XA l m i dz)(hl:0<l[i]!)(hb:¬dz<0)(hn:¬m[i]! / l[i]!<dz):XA l m (i+1) dz:=by
 refine .inl ⟨?_,i,by omega,hl⟩
 rw[timesTo_pos hl]
 rcases h with ⟨h,_⟩|⟨h,_⟩ <;> omega
theorem XA.done(h:XA l m i dz)(hp:∃j,j<i/\0<l[j]!):dz=Qv l m i:=by
 rcases h with ⟨h,_⟩|⟨_,_,h3⟩
 ·exact h
 ·obtain⟨j,h1,h2⟩:=hp
  have:=h3 j h1;omega
theorem sum_pos(h:XZ l)(h1:Xr l≠0):∃j,j<l.length/\0<l[j]! :=by
 apply Classical.byContradiction
 intro hn
 have h0:∀k,k<=l.length->sumTo l k=0:=by
  intro k
  induction k with
  |zero=>intro _;rfl
  |succ k ih=>
   intro hk
   have h2:=h.1 k qf
   have h3:¬0<l[k]! :=fun h4=>hn ⟨k,by omega,h4⟩
   rw[sumTo,ih qf];omega
 exact h1<|h0 _<|Nat.le_refl _
open Classical in
noncomputable def yM(s:qH)(t:qG):Nat->yLL
 |0=>t.qQ
 |k+1=>if Appl s t k then (yM s t k).set (s.qB[k]!).qY.toNat (jX ((yM s t k)[(s.qB[k]!).qY.toNat]!) (s.qB[k]!).zJ (-(jd (s.qB[k]!).zJ ((yM s t k)[(s.qB[k]!).qY.toNat]!)))) else yM s t k
open Classical in
noncomputable def firstC(s:qH)(t:qG)(k:Nat):Int:=if Appl s t k then jd (s.qB[k]!).zJ ((yM s t k)[(s.qB[k]!).qY.toNat]!) else 0
noncomputable def firstTo(s:qH)(t:qG)(m n:Nat):yLI:=(List.range n).map fun j=>if j<m then firstC s t j else 0
noncomputable def yA(s:qH)(t:qG):yLI:=firstTo s t s.qB.length s.qB.length
theorem firstR_yes(h:Appl s t k):yM s t (k+1)=(yM s t k).set (s.qB[k]!).qY.toNat (jX ((yM s t k)[(s.qB[k]!).qY.toNat]!) (s.qB[k]!).zJ (-(jd (s.qB[k]!).zJ ((yM s t k)[(s.qB[k]!).qY.toNat]!)))):=by rw[yM,if_pos h]
theorem firstR_no(h:¬Appl s t k):yM s t (k+1)=yM s t k:=by rw[yM,if_neg h]
theorem firstR_skip{s:qH}{t:qG}{m:Nat}:∀ {d:Nat},(∀j,m<=j->j<m+d->¬Appl s t j)->yM s t (m+d)=yM s t m
 |0,_=>rfl
 |d+1,h=>by rw[←Nat.add_assoc,firstR_no<|h (m+d) qf qf,firstR_skip fun j h1 h2=>h j h1 qf]
theorem firstR_same{m:Nat}(hm:m<=i)(h:∀j,m<=j->j<i->¬Appl s t j):yM s t i=yM s t m:=by
 obtain⟨d,rfl⟩:∃d,i=m+d:=⟨i-m,by omega⟩
 exact firstR_skip h
theorem firstC_yes(h:Appl s t k):firstC s t k=jd (s.qB[k]!).zJ ((yM s t k)[(s.qB[k]!).qY.toNat]!):=by rw[firstC,if_pos h]
theorem firstC_no(h:¬Appl s t k):firstC s t k=0:=by rw[firstC,if_neg h]
theorem Qx(s:qH)(t:qG)(m n:Nat):(firstTo s t m n).length=n:=by simp[firstTo]
theorem Vp{m:Nat}(h:j<n):(firstTo s t m n)[j]! =if j<m then firstC s t j else 0:=by
 rw[getElem!_pos (firstTo s t m n) j<|by rw[Qx];exact h];simp[firstTo]
theorem firstTo_zero(s:qH)(t:qG)(n:Nat):List.replicate n (0:Int)=firstTo s t 0 n:=by
 refine ext_get (by simp[Qx]) fun k hk=>?_
 rw[List.length_replicate] at hk
 rw[Vp hk,if_neg qf,getElem!_pos (List.replicate n (0:Int)) k<|by simpa using hk];simp
theorem firstTo_set{m:Nat}(hm:m<=i)(hi:i<n)(h:∀j,m<=j->j<i->¬Appl s t j){x:Int}(hx:x=firstC s t i):(firstTo s t m n).set i x=firstTo s t (i+1) n:=by
 refine ext_get (by simp[Qx]) fun k hk=>?_
 rw[List.length_set,Qx] at hk
 rw[getset<|by rw[Qx];exact hi,Vp hk,Vp hk]
 by_cases e:k=i
 ·subst e;rw[if_pos rfl,if_pos qf,hx]
 ·rw[if_neg e]
  by_cases h1:k<m
  ·rw[if_pos h1,if_pos qf]
  ·rw[if_neg h1]
   by_cases h2:k<i
   ·rw[if_pos qf,firstC_no<|h k qf h2]
   ·rw[if_neg qf]
theorem firstTo_end{m:Nat}(hm:m<=n)(h:∀j,m<=j->j<n->¬Appl s t j):firstTo s t m n=firstTo s t n n:=by
 refine ext_get (by simp[Qx]) fun k hk=>?_
 rw[Qx] at hk
 rw[Vp hk,Vp hk,if_pos hk]
 by_cases h1:k<m
 ·rw[if_pos h1]
 ·rw[if_neg h1,firstC_no<|h k qf hk]
def Box(n K:Nat)(b:yLL):Prop:=b.length=n/\∀p,p<n->(b[p]!).length=K/\∀k,k<K->0<=(b[p]!)[k]! /\(b[p]!)[k]! <=1000
theorem xK.box(h:xK s t):Box (jK s) (yE s) t.qQ:=by
 refine⟨h.2.1,fun p hp=>?_⟩
 have hb:=h.bagLen (k:=p)<|by rw[h.2.1];exact hp
 exact⟨hb.len,fun k hk=>hb.get<|by rw[hb.len];exact hk⟩
theorem firstR_box{s:qH}{t:qG}(hs:vz s)(ht:xK s t):∀k,k<=s.qB.length->Box (jK s) (yE s) (yM s t k)
 |0,_=>ht.box
 |k+1,h=>by
  have ih:=firstR_box hs ht k qf
  by_cases ha:Appl s t k
  ·rw[firstR_yes ha]
   have hr:=hs.rule (i:=k) qf
   have hb:=hr.2.2.2.2.1
   have hc:=ih.2 _ hr.cell
   refine⟨by rw[List.length_set];exact ih.1,fun p hp=>?_⟩
   rw[getset<|by rw[ih.1];exact hr.cell]
   by_cases e:p=(s.qB[k]!).qY.toNat
   ·rw[if_pos e,Xh]
    refine⟨hc.1,fun q hq=>?_⟩
    rw[XM<|by rw[hc.1];exact hq]
    have h1:=timesL_left (l:=(s.qB[k]!).zJ) (m:=(yM s t k)[(s.qB[k]!).qY.toNat]!) (fun j hj=>(hb.get hj).1) (fun j hj=>(hc.2 j<|by rw[←hb.len];exact hj).1) (k:=q)<|by rw[hb.len];exact hq
    refine⟨h1,?_⟩
    have h2:=X0 (l:=(s.qB[k]!).zJ) (m:=(yM s t k)[(s.qB[k]!).qY.toNat]!) (fun j hj=>(hc.2 j<|by rw[←hb.len];exact hj).1) _<|Nat.le_refl _
    have h3:=Int.mul_nonneg h2.1 (hb.get (k:=q)<|by rw[hb.len];exact hq).1
    have h4:=(hc.2 q hq).2
    have h5: -(jd (s.qB[k]!).zJ ((yM s t k)[(s.qB[k]!).qY.toNat]!))*((s.qB[k]!).zJ)[q]! = -(jd (s.qB[k]!).zJ ((yM s t k)[(s.qB[k]!).qY.toNat]!)*((s.qB[k]!).zJ)[q]!):=Int.neg_mul ..
    unfold jd at *
    omega
   ·rw[if_neg e];exact ih.2 p hp
  ·rw[firstR_no ha];exact ih
theorem firstR_row(hs:vz s)(ht:xK s t)(hk:k<=s.qB.length)(h:c<jK s):
 ((yM s t k)[c]!).length=yE s/\Mid ((yM s t k)[c]!)/\∀q,q<yE s->0<=((yM s t k)[c]!)[q]! /\((yM s t k)[c]!)[q]! <=1000:=by
 have h1:=(firstR_box hs ht k hk).2 c h
 have:=kinds_le hs
 exact⟨h1.1,⟨by have:=h1.1;omega,fun q hq=>by have:=h1.2 q (by have:=h1.1;omega);omega⟩,h1.2⟩
theorem firstC_bd(hs:vz s)(ht:xK s t)(hk:k<s.qB.length):0<=firstC s t k/\firstC s t k<=1000:=by
 by_cases ha:Appl s t k
 ·rw[firstC_yes ha]
  have hr:=hs.rule hk
  have hc:=firstR_row hs ht (Nat.le_of_lt hk) hr.cell
  exact X0 (fun j hj=>(hc.2.2 j<|by rw[←hr.2.2.2.2.1.len];exact hj).1) _<|Nat.le_refl _
 ·rw[firstC_no ha];omega
theorem first_cnt(hs:vz s)(ht:xK s t):CntOk s (yA s t):=by
 refine⟨Qx _ _ _ _,fun i hi=>?_⟩
 rw[yA,Qx] at hi
 rw[yA,Vp hi,if_pos hi]
 exact firstC_bd hs ht hi
theorem first_rest{s:qH}{t:qG}(hs:vz s)(ht:xK s t):∀k,k<=s.qB.length->yB s t (yA s t) k=yM s t k
 |0,_=>rfl
 |k+1,h=>by
  have ih:=first_rest hs ht k qf
  have hg:(yA s t)[k]! =firstC s t k:=by rw[yA,Vp qf,if_pos qf]
  by_cases ha:Appl s t k
  ·rw[firstR_yes ha,yB,ih,hg,firstC_yes ha]
  ·rw[firstR_no ha,restR_skip hs ht qf<|by rw[hg,firstC_no ha],ih]
theorem first_isCh(hs:vz s)(ht:xK s t):IsCh s t (yA s t):=by
 have hl:(yA s t).length=s.qB.length:=Qx _ _ _ _
 constructor
 ·intro i hi
  rw[hl] at hi
  rintro⟨h1,h2⟩
  rw[yA,Vp hi,if_pos hi,firstC_no h2] at h1
  omega
 ·rw[hl,first_rest hs ht _<|Nat.le_refl _]
  have hb:=firstR_box hs ht _<|Nat.le_refl _
  intro p hp k hk
  rw[ht.2.1] at hp
  have:=hb.2 p hp
  exact(this.2 k<|by rw[←this.1];exact hk).1
theorem parentNow_root(hs:yP s):x9 s t 0= -1:=by
 unfold x9
 rw[show s.qA[(0:Int).toNat]! = -1 from hs.2.2.1]
 exact climb_end fun h=>by omega
def outPl(s:qH)(t:qG)(r:yH):Nat:=if r.qY=0 then jK s else (x9 s t r.qY).toNat
theorem outPl_root(h:r.qY=0):outPl s t r=jK s:=by rw[outPl,if_pos h]
theorem outPl_up(h:r.qY≠0):outPl s t r=(x9 s t r.qY).toNat:=by rw[outPl,if_neg h]
def intoF(r:yH)(c:Int):Nat->Nat->Nat->Int
 |0,_,_=>0
 |j+1,p,k=>intoF r c j p k+at' p (r.xF[j]!).qY.toNat (c*((r.xF[j]!).Xq)[k]!)
def putF(s:qH)(t:qG)(r:yH)(c:Int)(p k:Nat):Int:=at' p r.qY.toNat (c*r.jJ[k]!)+at' p (outPl s t r) (c*r.Qq[k]!)+intoF r c r.xF.length p k
def putS(s:qH)(t:qG)(counts:yLI):Nat->Nat->Nat->Int
 |0,_,_=>0
 |i+1,p,k=>putS s t counts i p k+putF s t (s.qB[i]!) (counts[i]!) p k
def allS(s:qH)(t:qG)(counts:yLI):Nat->Nat->Nat->Int
 |0,_,_=>0
 |i+1,p,k=>allS s t counts i p k+needF s counts i p k+putF s t (s.qB[i]!) (counts[i]!) p k
theorem allS_eq(s:qH)(t:qG)(counts:yLI)(p k:Nat):∀i,allS s t counts i p k=needS s counts i p k+putS s t counts i p k
 |0=>rfl
 |i+1=>by
  have:=allS_eq s t counts p k i
  simp only[allS,needS,putS]
  omega
theorem at_zero(p c:Nat)(x:Int):at' p c (0*x)=0:=by unfold at';split <;> simp
theorem intoF_zero(r:yH)(p k:Nat):∀j,intoF r 0 j p k=0
 |0=>rfl
 |j+1=>by rw[intoF,intoF_zero r p k j,at_zero];rfl
theorem putF_zero(s:qH)(t:qG)(r:yH){c:Int}(h:c=0)(p k:Nat):putF s t r c p k=0:=by
 subst h;rw[putF,at_zero,at_zero,intoF_zero];rfl
theorem putS_skip{counts:yLI}(h:counts[i]! =0)(p k:Nat):putS s t counts (i+1) p k=putS s t counts i p k:=by
 rw[putS,putF_zero s t _ h];omega
def base0(s:qH)(t:qG)(p k:Nat):Int:=if p<jK s then (t.qQ[p]!)[k]! else t.qJ[k]!
def stepF(s:qH)(t:qG)(counts:yLI)(p k:Nat):Int:=base0 s t p k+allS s t counts s.qB.length p k
noncomputable def zn(s:qH)(t:qG)(counts:yLI):qG:=
 ⟨t.qK,(tab2 (jK s+1) (yE s)<|stepF s t counts).take<|jK s,(tab2 (jK s+1) (yE s)<|stepF s t counts)[jK s]!⟩
theorem xK.around(h:xK s t):t.qJ.length=yE s/\∀k,k<yE s->0<=t.qJ[k]! /\t.qJ[k]! <=1000:=by
 have hb:=h.2.2.2.1
 exact⟨hb.len,fun k hk=>hb.get<|by rw[hb.len];exact hk⟩
theorem start_ent{counts:yLI}(ht:xK s t):Ent (jK s+1) (yE s) (fun p k=>base0 s t p k+allS s t counts 0 p k) 1000 (t.qQ++[t.qJ]):=by
 have h1:Ent (jK s) (yE s) (fun p k=>base0 s t p k+allS s t counts 0 p k) 1000 t.qQ:=⟨ht.shape,fun p k hp hk=>by simp[base0,hp,allS]⟩
 refine h1.snoc ht.around.1 (fun k hk=>by have:=ht.around.2 k hk;omega) fun k hk=>?_
 simp[base0,allS]
theorem rest_ent{counts:yLI}(hs:vz s)(ht:xK s t)(hc:CntOk s counts):
 Ent (jK s+1) (yE s) (fun p k=>base0 s t p k+needS s counts s.qB.length p k+putS s t counts 0 p k) (1000+1000000*s.qB.length) (yB s t counts s.qB.length++[t.qJ]):=by
 have h1:Ent (jK s) (yE s) (fun p k=>base0 s t p k+needS s counts s.qB.length p k+putS s t counts 0 p k) (1000+1000000*s.qB.length) (yB s t counts s.qB.length):=by
  have h0:=restR_ent hs ht hc _<|Nat.le_refl _
  exact⟨h0.sh,fun p k hp hk=>by rw[h0.eq p k hp hk];simp[base0,hp,putS]⟩
 refine h1.snoc ht.around.1 (fun k hk=>by have:=ht.around.2 k hk;omega) fun k hk=>?_
 have h2:∀i,i<=s.qB.length->needS s counts i (jK s) k=0:=by
  intro i
  induction i with
  |zero=>intro _;rfl
  |succ i ih=>
   intro hi
   have:=(hs.rule (i:=i) qf).cell
   rw[needS,ih qf,needF,at',if_neg qf];rfl
 rw[h2 _<|Nat.le_refl _]
 simp[base0,putS]
theorem step_tab{counts:yLI}(h:Ent (jK s+1) (yE s) (fun p k=>base0 s t p k+allS s t counts s.qB.length p k) B b):
 b.take (jK s)=(zn s t counts).qQ/\b[jK s]! =(zn s t counts).qJ:=by
 have e:=h.tab
 constructor
 ·show _=(tab2 _ _ _).take _
  rw[e];rfl
 ·show _=(tab2 _ _ _)[_]!
  rw[e];rfl
theorem step_tab2{counts:yLI}(hb:b.length=jK s)(h:Ent (jK s+1) (yE s) (fun p k=>base0 s t p k+needS s counts s.qB.length p k+putS s t counts s.qB.length p k) B (b++[a])):
 b=(zn s t counts).qQ/\a=(zn s t counts).qJ:=by
 have h1:=step_tab<|h.to (g:=fun p k=>base0 s t p k+allS s t counts s.qB.length p k) (fun p k=>by rw[allS_eq];omega)<|Int.le_refl _
 rw[←hb,List.take_left] at h1
 refine⟨h1.1,?_⟩
 rw[←h1.2,getElem!_pos (b++[a]) b.length qm,List.getElem_append_right<|Nat.le_refl _];simp
theorem cat_set(hc:c<b.length):(b++[a]).set c v=b.set c v++[a]:=List.set_append_left c v hc
theorem cat_setN(h:b.length=n):(b++[a]).set n v=b++[v]:=by
 rw[List.set_append_right _ _ qf,h];simp
theorem cat_get(hc:c<b.length):(b++[a])[c]! =b[c]! :=by
 rw[getElem!_pos (b++[a]) c qy,getElem!_pos b c hc,List.getElem_append_left hc]
theorem cat_getN(h:b.length=n):(b++[a])[n]! =a:=by
 rw[getElem!_pos (b++[a]) n qy,List.getElem_append_right qf];simp[h]
theorem Ent.addL{f:Nat->Nat->Int}(h:Ent (n+1) K f B (b++[a])){t:Int}(e:b'=b.set c (jX (b[c]!) m t))(hb:b.length=n)(hc:c<n)(ht:∀k,k<K-> -D<=t*m[k]! /\t*m[k]! <=D)(hD:0<=D):
 Ent (n+1) K (fun p k=>f p k+at' p c (t*m[k]!)) (B+D) (b' ++[a]):=
 h.add (by rw[e,←cat_set qf,cat_get qf]) qf ht hD
theorem Ent.addN{f:Nat->Nat->Int}(h:Ent (n+1) K f B (b++[a])){t:Int}{a':yLI}(e:a'=jX a m t)(hb:b.length=n)(ht:∀k,k<K-> -D<=t*m[k]! /\t*m[k]! <=D)(hD:0<=D):
 Ent (n+1) K (fun p k=>f p k+at' p n (t*m[k]!)) (B+D) (b++[a']):=
 h.add (by rw[e,cat_setN hb,cat_getN hb]) qf ht hD
theorem Ent.rowL{f:Nat->Nat->Int}(h:Ent (n+1) K f B (b++[a]))(hb:b.length=n)(hB:B<=1000000000000000)(hK:K<=8)(hc:c<n):(b[c]!).length=K/\Mid (b[c]!):=by
 have:=h.sh.row hB hK (c:=c) qf
 rwa [cat_get qf] at this
theorem Ent.rowN{f:Nat->Nat->Int}(h:Ent (n+1) K f B (b++[a]))(hb:b.length=n)(hB:B<=1000000000000000)(hK:K<=8):a.length=K/\Mid a:=by
 have:=h.sh.row hB hK (c:=n) qf
 rwa [cat_getN hb] at this
def Xv(s:qH)(counts:yLI)(c:Int)(k:Nat):Prop:=∃i,i<k/\0<counts[i]! /\(s.qB[i]!).jY=true/\(s.qB[i]!).qY=c
theorem melts_zero(s:qH)(counts:yLI)(c:Int):¬Xv s counts c 0:=fun⟨i,h,_⟩=>by omega
theorem melts_succ{counts:yLI}{c:Int}:Xv s counts c (k+1)<->Xv s counts c k\/(0<counts[k]! /\(s.qB[k]!).jY=true/\(s.qB[k]!).qY=c):=by
 constructor
 ·rintro⟨i,h,h1⟩
  by_cases e:i=k
  ·subst e;exact .inr h1
  ·exact .inl ⟨i,by omega,h1⟩
 ·rintro(⟨i,h,h1⟩|h)
  ·exact⟨i,by omega,h1⟩
  ·exact⟨k,by omega,h⟩
theorem melts_1{counts:yLI}{c:Int}(h:dec (Xv s counts c k)=true):true=dec (Xv s counts c<|k+1):=(jP<|melts_succ.2<|.inl<|Qc h).symm
theorem melts_2{counts:yLI}{c:Int}(h:dec (Xv s counts c k)=false)(h1:¬counts[k]!>0):false=dec (Xv s counts c<|k+1):=
 (xw fun x=>(melts_succ.1 x).elim (vF h) fun y=>h1 y.1).symm
theorem melts_3{counts:yLI}{c:Int}(h:dec (Xv s counts c k)=false)(h1:(s.qB[k]!).jY=false):false=dec (Xv s counts c<|k+1):=
 (xw fun x=>(melts_succ.1 x).elim (vF h) fun y=>ft y.2.1 h1).symm
theorem melts_4{counts:yLI}{c:Int}(h:dec (Xv s counts c k)=false)(h1:counts[k]!>0)(h2:(s.qB[k]!).jY=true):((s.qB[k]!).qY == c)=dec (Xv s counts c<|k+1):=by
 refine dec_eq ?_
 rw[beq_iff_eq,melts_succ]
 exact⟨fun e=>.inr ⟨h1,h2,e⟩,fun x=>x.elim (fun y=>absurd y<|vF h) fun y=>y.2.2⟩
abbrev Melts(s:qH)(counts:yLI)(c:Int):Prop:=Xv s counts c s.qB.length
noncomputable def QP(s:qH)(counts:yLI)(n k:Nat):List Bool:=(List.range n).map fun c:Nat=>dec<|Xv s counts (c:Int) k
theorem meltsL_len(s:qH)(counts:yLI)(n k:Nat):(QP s counts n k).length=n:=by simp[QP]
theorem meltsL_get{counts:yLI}(h:c<n):(QP s counts n k)[c]! =dec (Xv s counts (c:Int) k):=by
 rw[getElem!_pos (QP s counts n k) c<|by rw[meltsL_len];exact h];simp[QP]
theorem meltsL_zero(s:qH)(counts:yLI)(n:Nat):List.replicate n false=QP s counts n 0:=by
 refine ext_get (by simp[meltsL_len]) fun k hk=>?_
 rw[List.length_replicate] at hk
 rw[meltsL_get hk,xw<|melts_zero _ _ _,getElem!_pos (List.replicate n false) k<|by simpa using hk];simp
theorem meltsL_set{counts:yLI}(h0:0<=(s.qB[k]!).qY)(h:(s.qB[k]!).qY.toNat<n){x:Bool}(hx:x=true<->((QP s counts n k)[(s.qB[k]!).qY.toNat]! =true\/(0<counts[k]! /\(s.qB[k]!).jY=true))):
 (QP s counts n k).set (s.qB[k]!).qY.toNat x=QP s counts n (k+1):=by
 refine ext_get (by simp[meltsL_len]) fun p hp=>?_
 rw[List.length_set,meltsL_len] at hp
 rw[getset<|by rw[meltsL_len];exact h,meltsL_get hp,meltsL_get hp]
 rw[meltsL_get h] at hx
 by_cases e:p=(s.qB[k]!).qY.toNat
 ·rw[if_pos e]
  refine dec_eq<|hx.trans ?_
  rw[melts_succ,e,show (((s.qB[k]!).qY.toNat:Nat):Int)=(s.qB[k]!).qY by omega]
  constructor
  ·rintro(h1|h1)
   ·exact .inl<|Qc h1
   ·exact .inr ⟨h1.1,h1.2,rfl⟩
  ·rintro(h1|h1)
   ·exact .inl<|jP h1
   ·exact .inr ⟨h1.1,h1.2.1⟩
 ·rw[if_neg e]
  refine dec_congr ?_
  rw[melts_succ]
  constructor
  ·exact .inl
  ·rintro(h1|⟨_,_,h1⟩)
   ·exact h1
   ·exfalso;omega
open Classical in
noncomputable def zi(s:qH)(counts:yLI)(u:qG):Nat->qG
 |0=>u
 |j+1=>if Melts s counts ((jK s:Int)-1-j) then melted s (zi s counts u j) ((jK s:Int)-1-j) else zi s counts u j
theorem meltDown_yes{counts:yLI}{c:Int}(h:Melts s counts c)(hc:c=(jK s:Int)-1-j):zi s counts u (j+1)=melted s (zi s counts u j) c:=by subst hc;rw[zi,if_pos h]
theorem meltDown_no{counts:yLI}{c:Int}(h:¬Melts s counts c)(hc:c=(jK s:Int)-1-j):zi s counts u (j+1)=zi s counts u j:=by subst hc;rw[zi,if_neg h]
theorem QR{counts:yLI}{c:Int}(h:dec (Xv s counts c i)=true)(hi:i=s.qB.length)(hc:c=(jK s:Int)-1-j):zi s counts u (j+1)=melted s (zi s counts u j) c:=by subst hi;exact meltDown_yes (Qc h) hc
theorem meltDown_no'{counts:yLI}{c:Int}(h:dec (Xv s counts c i)=false)(hi:i=s.qB.length)(hc:c=(jK s:Int)-1-j):zi s counts u (j+1)=zi s counts u j:=by subst hi;exact meltDown_no (vF h) hc
theorem QG(s:qH)(counts:yLI)(u:qG):∀j,(zi s counts u j).qJ=u.qJ
 |0=>rfl
 |j+1=>by
  rw[zi]
  split
  ·exact QG s counts u j
  ·exact QG s counts u j
structure Live(s:qH)(B:Int)(u:qG):Prop where
 alive:u.qK.length=jK s
 root:u.qK[0]! =true
 bags:Shape (jK s) (yE s) B u.qQ
 around:u.qJ.length=yE s
theorem Live.melt(hs:vz s)(h:Live s B u)(hB:0<=B){c:Int}(h0:0<c)(h1:c<=(jK s:Int)-1):Live s (2*B) (melted s u c):=by
 have hp:=Vk (t:=u) hs.1 h.root h0 h1
 have hpc:(x9 s u c).toNat<jK s:=by omega
 have hcc:c.toNat<jK s:=by omega
 refine⟨by simp[melted,h.alive],?_,?_,h.around⟩
 ·show (u.qK.set c.toNat false)[0]! =true
  rw[getset<|by rw[h.alive];exact hcc,if_neg qf];exact h.root
 ·have hr:=(h.bags.2 _ hcc).2
  have h2:=h.bags.plus (m:=u.qQ[c.toNat]!) (t:=1) (D:=B) hpc (fun k hk=>by have:=hr k hk;omega) hB
  refine(h2.set (D:=B+B) hcc (by simp[yE]) (fun k hk=>?_) qf).mono qf
  rw[getElem!_pos (List.replicate s.zf.toNat (0:Int)) k<|by simpa [yE] using hk]
  simp;omega
def bnd:Nat->Int
 |0=>200000000
 |j+1=>2*bnd j
theorem bnd_pos:∀j,0<=bnd j
 |0=>by simp[bnd]
 |j+1=>by have:=bnd_pos j;simp only[bnd];omega
theorem bnd_mono:∀ {i j:Nat},i<=j->bnd i<=bnd j
  | i, 0, h => by obtain rfl : i = 0 := by omega
                  exact Int.le_refl _
  | i,j+1,h=>by
    by_cases e:i=j+1
    · subst e;exact Int.le_refl _
    · have:=bnd_mono (show i<=j by omega)
      have:=bnd_pos j
      simp only[bnd];omega
theorem bnd_le(h:j<=6):bnd j<=12800000000:=Int.le_trans (bnd_mono h)<|by simp[bnd]
theorem Live.mono{s:qH}{B D:Int}{u:qG}(h:Live s B u)(hD:B<=D):Live s D u:=⟨h.alive,h.root,h.bags.mono hD,h.around⟩
theorem stepped_live{counts:yLI}(ht:xK s t)(h:Ent (jK s+1) (yE s) (fun p k=>base0 s t p k+allS s t counts s.qB.length p k) B b)(hB:B<=200000000):Live s (bnd 0) (zn s t counts):=by
 have h1:=step_tab h
 have hr:=h.sh.2 (jK s) qf
 refine⟨ht.1,ht.2.2.1,?_,by rw[←h1.2];exact hr.1⟩
 rw[←h1.1]
 refine⟨by rw[List.length_take,h.sh.1];omega,fun p hp=>?_⟩
 have e:(b.take<|jK s)[p]! =b[p]! :=by
  rw[getElem!_pos (b.take<|jK s) p<|by rw[List.length_take,h.sh.1];omega,getElem!_pos b p<|by rw[h.sh.1];omega];simp
 rw[e]
 have:=h.sh.2 p qf
 exact⟨this.1,fun k hk=>by have:=this.2 k hk;simp only[bnd];omega⟩
theorem meltDown_live{s:qH}{counts:yLI}{u:qG}(hs:vz s)(h:Live s (bnd 0) u):∀j,j+1<=jK s->Live s (bnd j) (zi s counts u j)
 |0,_=>h
 |j+1,hj=>by
  have ih:=meltDown_live (counts:=counts) hs h j qf
  by_cases hm:Melts s counts ((jK s:Int)-1-j)
  ·rw[meltDown_yes hm rfl];exact ih.melt hs (bnd_pos j) qf qf
  ·rw[meltDown_no hm rfl];exact ih.mono<|bnd_mono qf
theorem Live.rows(hs:vz s)(h:Live s B u)(hB:B<=12800000000)(hp:p<jK s)(hc:c<jK s):
 (u.qQ[p]!).length<=(u.qQ[c]!).length/\Mid (u.qQ[p]!)/\SmallT (u.qQ[c]!) 1:=by
 have h1:=h.bags.row qf (kinds_le hs) hp
 have h2:=h.bags.row qf (kinds_le hs) hc
 refine⟨by omega,h1.2,fun k hk=>?_⟩
 have:=h2.2.2 k hk
 omega
noncomputable def stepRes(s:qH)(t:qG)(counts:yLI):qG×Int:=told s<|zi s counts (zn s t counts)<|jK s-1
open Classical in
noncomputable def zA(s:qH)(t:qG)(counts:yLI):qG×Int:=if IsCh s t counts then stepRes s t counts else (default,4)
theorem stepBy_yes{counts:yLI}(h:IsCh s t counts):zA s t counts=stepRes s t counts:=by rw[zA,if_pos h]
theorem stepBy_no{counts:yLI}(h:¬IsCh s t counts):zA s t counts=(default,4):=by rw[zA,if_neg h]
end
section
variable{cl cm bs os qE qN bt ot qU xk qL : Nat}
theorem l00Max_ok(w:World)(a:Int)(b:Int):Calls Tryz.prog 110 #[yI a,yI b] w (Ret (fun v w'=>v=yI (max a b)) w):=by
 refine en func110 ntmps110 ?_
 have H:=St.start w
 refine zcr<|sp (yI 0)<|zjcc<|sp (yI a)<|sp (yI b)<|sq 1<|zjn<|cD rfl (fun h1=>?_)<|fun h1=>?_
 ·refine zcr (sp (yI a)<|sp (yI a)<|zjr<|t_r<|rH1 (yI a) H<|congrArg (Value.int .i64) ?_)
  omega
 refine qZ<|t_n<|zcr<|sp (yI b)<|sp (yI b)<|zjr<|rH1 (yI b) H<|congrArg (Value.int .i64) ?_
 omega
theorem l01Within_ok(w:World)(l:yLI)(m:yLI)(hl:zP w Fl al cl l)(hm:zP w Fm am cm m)(p0:l.length<=m.length):Calls Tryz.prog 104 #[Sv al l.length cl,Sv am m.length cm] w (Ret (fun v w'=>v=Bv (within l m)) w):=by
 refine en func104 ntmps104 ?_
 have H:=((St.start w).arg hm).arg hl
 have y4:=qR hl
 have nhm:=qR hm
 clear hl hm
 have N:=Fresh.nil w.heap.size
 refine zcr<|sp (Bv false)<|zjcc<|sp (yI 0)<|zjn<|xf<|zD ((fun Z0 Z1=>fun m' ρ w1=>∃(xN:Env) (i:Nat),ρ=upd (upd (upd xN 0<|Sv al l.length cl) 1<|Sv am m.length cm) 5 (yI i)/\((i:Int)<=l.length)/\(withinTo l m i)/\m'=(l.length-(i:Int)).toNat/\Fresh w.heap.size []/\St w w1 [] [Z0,Z1]) _ _) ((l.length-(0:Int)).toNat) ⟨_,0,uE3,qf,(by exact withinTo_zero l m),rfl,N,H⟩ ?_
 clear H N
 rintro m' ρ w2 ⟨xN,i,rfl,i0,i1,rfl,N,H⟩
 refine zcc<|sp (yI i)<|sq 1<|oN rfl<|sq 1<|zjn<|cD rfl (fun h3=>?_)<|fun h3=>?_
 ·refine qZ (t_n<|xU<|xf<|xU<|ji rfl H fun H=>rtl 0 H ?_)
  refine rtp 1 (yI i) H ?_
  obtain⟨b5,o6,rfl⟩:=H.addr 0 rfl qf
  refine tI 2 rfl rfl rfl H ?_
  refine tL 3 rfl rfl (fun _ h=>h.zS 0 rfl i qf) H ?_
  refine rtl 4 H ?_
  refine rtp 5 (yI i) H ?_
  obtain⟨b8,o9,rfl⟩:=H.addr 1 rfl qf
  refine tI 6 rfl rfl rfl H ?_
  refine tL 7 rfl rfl (fun _ h=>h.zS 1 rfl i qf) H ?_
  refine rtl 8 H ?_
  refine xC qh<|t_n<|cD rfl (fun aV=>?_)<|fun aV=>?_
  ·refine zcr (sp (Bv false)<|zjr<|zr5<|rH1 (Bv false) H ?_)
   rw[within_no (k:=i) ‹_› qf]
  refine qZ<|b_n<|t_n<|xX<|sp (yI i)<|sw<|zC i 1 rfl rfl qf<|sq 1<|xZ<|xh (m':=(l.length-((i+1):Int)).toNat) qf ⟨_,i+1,uE3,?_,?_,rfl,N,H⟩
  ·omega
  ·exact withinTo_succ ‹_› qf
 refine zx4<|zcr<|sp (Bv true)<|zjr<|rH1 (Bv true) H ?_
 rw[within_yes ‹_› qf]
theorem l01Times_ok(w:World)(l:yLI)(m:yLI)(hl:zP w Fl al cl l)(hm:zP w Fm am cm m)(p0:l.length<=m.length)(p2:∀k,k<l.length->0<=m[k]! /\m[k]! <=1000)(p3:∃j,j<l.length/\0<l[j]!):Calls Tryz.prog 222 #[Sv al l.length cl,Sv am m.length cm] w (Ret (fun v w'=>v=yI (jd l m)) w):=by
 refine en func222 ntmps222 ?_
 have H:=((St.start w).arg hm).arg hl
 have y4:=qR hl
 have nhm:=qR hm
 clear hl hm
 have N:=Fresh.nil w.heap.size
 refine zcr<|sp (yI 0)<|zjc<|sq 1<|zjcc<|sp (yI 0)<|zjn<|xf<|zD ((fun Z0 Z1=>fun m' ρ w1=>∃(xN:Env) (dz:Int) (i:Nat),ρ=upd (upd (upd (upd xN 0<|Sv al l.length cl) 1<|Sv am m.length cm) 5<|yI dz) 6 (yI i)/\((i:Int)<=l.length)/\(XA l m i dz)/\m'=(l.length-(i:Int)).toNat/\Fresh w.heap.size []/\St w w1 [] [Z0,Z1]) _ _) ((l.length-(0:Int)).toNat) ⟨_,(-1),0,uE4,qf,(by exact XA.zero l m),rfl,N,H⟩ ?_
 clear H N
 rintro m' ρ w2 ⟨xN,dz,i,rfl,i0,i1,rfl,N,H⟩
 refine zcc<|sp (yI i)<|sq 1<|oN rfl<|sq 1<|zjn<|cD rfl (fun h3=>?_)<|fun h3=>?_
 ·refine qZ (t_n<|xU<|xf<|xU<|ji rfl H fun H=>rtl 0 H ?_)
  refine rtp 1 (yI i) H ?_
  obtain⟨b5,o6,rfl⟩:=H.addr 0 rfl qf
  refine tI 2 rfl rfl rfl H ?_
  refine tL 3 rfl rfl (fun _ h=>h.zS 0 rfl i qf) H ?_
  refine rtp 4 (Bv<|decide ((l[i]! :Int)>0)) H ?_
  refine rtp 5 (Bv<|decide ((l[i]! :Int)>0)) H ?_
  cases h8:(decide ((l[i]! :Int)>0))
  ·replace h8:=of_decide_eq_false h8
   refine vJ (zR 6 15) 15 (H)<|rtp 21 (Bv false) H ?_
   refine xC qh<|t_n<|cFr rfl<|qZ<|b_n<|t_n<|xX<|sp (yI i)<|sw<|zC i 1 rfl rfl (by(have:=p2 i qf;omega))<|sq 1<|xZ<|xh (m':=(l.length-((i+1):Int)).toNat) qf ⟨_,_,i+1,uE4,?_,?_,rfl,N,H⟩
   ·omega
   ·exact i1.keep qf
  replace h8:=of_decide_eq_true h8
  refine rgl 6 18 H ?_
  refine rgp 7 (Bv<|decide ((dz:Int)<0)) 18 H ?_
  refine rgp 8 (Bv<|decide ((dz:Int)<0)) 18 H ?_
  cases h9:(decide ((dz:Int)<0))
  ·replace h9:=of_decide_eq_false h9
   refine rgl 9 21 H ?_
   refine rgp 10 (yI i) 21 H ?_
   obtain⟨g9,F7,rfl⟩:=H.addr 1 rfl qf
   refine gI 11 rfl rfl rfl H ?_
   refine gL 12 rfl rfl (fun _ h=>h.zS 1 rfl i qf) H ?_
   refine rgl 13 21 H ?_
   refine rgp 14 (yI i) 21 H ?_
   refine gI 15 rfl rfl rfl H ?_
   refine gL 16 rfl rfl (fun _ h=>h.zS 0 rfl i qf) H ?_
   refine rg 17 _ 21 (y_quo (m[i]!) (l[i]!) rfl rfl (by(have:=p2 i qf;omega))<|by(have:=p2 i qf;omega)) H ?_
   refine rgl 18 21 H ?_
   refine rgl 19 21 H ?_
   refine rgl 20 18 H ?_
   refine rtl 21 H ?_
   refine xC qh<|t_n<|cD rfl (fun dS=>?_)<|fun dS=>?_
   ·refine ji rfl H fun H=>rtl 0 H ?_
    refine rtp 1 (yI i) H ?_
    refine tI 2 rfl rfl rfl H ?_
    refine tL 3 rfl rfl (fun _ h=>h.zS 1 rfl i qf) H ?_
    refine rtl 4 H ?_
    refine rtp 5 (yI i) H ?_
    refine tI 6 rfl rfl rfl H ?_
    refine tL 7 rfl rfl (fun _ h=>h.zS 0 rfl i qf) H ?_
    refine rt 8 _ (y_quo (m[i]!) (l[i]!) rfl rfl (by(have:=p2 i qf;omega))<|by(have:=p2 i qf;omega)) H ?_
    refine rtl 9 H ?_
    refine xC qh<|b_n<|t_n<|xX<|sp (yI i)<|sw<|zC i 1 rfl rfl (by(have:=p2 i qf;omega))<|sq 1<|xZ<|xh (m':=(l.length-((i+1):Int)).toNat) qf ⟨_,_,i+1,uE4,?_,?_,rfl,N,H⟩
    ·omega
    ·exact i1.take (p2 i qf) qf qf (X0 (fun k hk=>(p2 k hk).1) i qf).1
   refine qZ<|b_n<|t_n<|xX<|sp (yI i)<|sw<|zC i 1 rfl rfl (by(have:=p2 i qf;omega))<|sq 1<|xZ<|xh (m':=(l.length-((i+1):Int)).toNat) qf ⟨_,_,i+1,uE4,?_,?_,rfl,N,H⟩
   ·omega
   ·exact i1.keep2 qf qf qf
  replace h9:=of_decide_eq_true h9
  refine vJ (zR 9 11) 11 (H)<|rgp 20 (Bv true) 18 H ?_
  refine rtp 21 (Bv true) H ?_
  refine xC qh<|t_n<|cTr rfl ((ji rfl H fun H=>rtl 0 H ?_))
  refine rtp 1 (yI i) H ?_
  obtain⟨m1,o17,rfl⟩:=H.addr 1 rfl qf
  refine tI 2 rfl rfl rfl H ?_
  refine tL 3 rfl rfl (fun _ h=>h.zS 1 rfl i qf) H ?_
  refine rtl 4 H ?_
  refine rtp 5 (yI i) H ?_
  refine tI 6 rfl rfl rfl H ?_
  refine tL 7 rfl rfl (fun _ h=>h.zS 0 rfl i qf) H ?_
  refine rt 8 _ (y_quo (m[i]!) (l[i]!) rfl rfl (by(have:=p2 i qf;omega))<|by(have:=p2 i qf;omega)) H ?_
  refine rtl 9 H ?_
  refine xC qh<|b_n<|t_n<|xX<|sp (yI i)<|sw<|zC i 1 rfl rfl (by(have:=p2 i qf;omega))<|sq 1<|xZ<|xh (m':=(l.length-((i+1):Int)).toNat) qf ⟨_,_,i+1,uE4,?_,?_,rfl,N,H⟩
  ·omega
  ·exact i1.take (p2 i qf) qf qf (X0 (fun k hk=>(p2 k hk).1) i qf).1
 refine zx4<|zcr<|sq 2<|zjr<|rH1 (yI dz) H ?_
 obtain rfl:i=l.length:=by omega
 rw[i1.done p3];rfl
theorem l03Both_ok(w:World)(s:qH)(t:qG)(hs:jC w bs os (yS s qF qE qO qN))(xe:zP w xu qF qE s.qA)(xE:zP w xW qO qN s.qB)(ht:jC w bt ot (yT t qV qU xm xk qM qL))(xR:zP w zk qV qU t.qK)(zu:zP w zF xm xk t.qQ)(xB:zP w xJ qM qL t.qJ):Calls Tryz.prog 60 #[pp bs os,pp bt ot] w (Ret (fun v w'=>v=Bv (dec<|vz s/\xK s t)) w):=by
 refine en func60 ntmps60 ?_
 have H:=(((((((St.start w).arg xB).arg zu).arg xR).VF ht).arg xE).arg xe).VF hs
 clear hs xe xE ht xR zu xB
 refine zcr<|sp (Bv false)<|zjc<|sq 1<|sw<|oq (l02Ok_ok _ s (qC (H.get 0 rfl) 0 3) (H.get 1 rfl).1 (H.get 2 rfl).1) H fun w1 H=>sp (Bv<|dec<|vz s) ?_
 cases h3:(dec (vz s))
 ·replace h3:=vF h3
  refine xY [8,9,10]<|sp (Bv false)<|sp (Bv false)<|zjr<|rH1 (Bv false) H ?_
  rw[xw<|fun h=>‹¬vz s› h.1]
 replace h3:=Qc h3
 refine qP 7 rfl rfl<|sq 1<|qP 7 rfl rfl<|sq 1<|qP 7 rfl rfl<|sw<|oq (l02State_ok _ s t (qC (H.get 0 rfl) 0 3) (H.get 1 rfl).1 (H.get 2 rfl).1 (qC (H.get 3 rfl) 0 3) (H.get 4 rfl).1 (H.get 5 rfl).1 (H.get 6 rfl).1<|by exact(And.left (by assumption:vz _))) H fun w4 H=>sq 2<|zjr<|rH1 (Bv<|dec<|xK s t) H<|congrArg Value.bool<|dec_eq ?_
 exact⟨fun h=>⟨‹_›,Qc h⟩,fun h=>jP h.2⟩
theorem l03Enabled_ok(w:World)(s:qH)(t:qG)(r:yH)(hs:jC w bs os (yS s qF qE qO qN))(xe:zP w xu qF qE s.qA)(xE:zP w xW qO qN s.qB)(ht:jC w bt ot (yT t qV qU xm xk qM qL))(xR:zP w zk qV qU t.qK)(zu:zP w zF xm xk t.qQ)(xB:zP w xJ qM qL t.qJ)(hr:jC w br or [yI r.qY,yI r.yK,Sv eB r.zJ.length eC,Sv dV r.jB.length dZ,Sv eo r.jD.length eu,Sv eh r.jJ.length eD,Sv iU r.Qq.length hU,Sv VS r.xF.length VP,Bv r.jY])(eR:zP w tE eB eC r.zJ)(fC:zP w tv dV dZ r.jB)(f8:zP w uu eo eu r.jD)(fm:zP w tW eh eD r.jJ)(lF:zP w Am iU hU r.Qq)(dw:zP w uv VS VP r.xF)(p0:vz s)(p1:xK s t)(p2:RuleOk s r):Calls Tryz.prog 188 #[pp bs os,pp bt ot,pp br or] w (Ret (fun v w'=>v=Bv (dec<|EnOk s t r)) w):=by
 refine en func188 ntmps188 ?_
 have H:=((((((((((((((St.start w).arg dw).arg lF).arg fm).arg f8).arg fC).arg eR).VF hr).arg xB).arg zu).arg xR).VF ht).arg xE).arg xe).VF hs
 have yR:=qR zu
 have xa:=qR dw
 clear hs xe xE ht xR zu xB hr eR fC f8 fm lF dw
 have N:=Fresh.nil w.heap.size
 have p3:=p2.1
 have p4:=p1.1
 have p5:=p1.2.1
 have p6:=(p1.bagLen (k:=r.qY.toNat) qf).len
 have p7:=p2.2.2.2.2.1.len
 have p8:=p2.2.2.2.2.2.1.len
 have p9:=p2.2.2.2.2.2.2.1.len
 have p10:=jk p2.2.2.2.2.2.2.1
 have p11:=p0.1
 have Bw:=p2.2.2.2.2.2.2.2.2.2.2
 refine zcr<|sp (Bv false)<|zjn<|xU<|xU<|ji rfl H fun H=>rtl 0 H ?_
 refine rtl 1 H ?_
 refine tF 2 rfl rfl H ?_
 refine tL 3 rfl rfl (fun _ h=>h.zo 3 rfl 0 rfl) H ?_
 refine rtl 4 H ?_
 refine rtl 5 H ?_
 refine tF 6 rfl rfl H ?_
 refine tL 7 rfl rfl (fun _ h=>h.zo 7 rfl 0 rfl) H ?_
 obtain⟨b2,o3,rfl⟩:=H.addr 4 rfl qf
 refine tI 8 rfl rfl rfl H ?_
 refine tL 9 rfl rfl (fun _ h=>h.elemBool 4 rfl r.qY qf qf) H ?_
 refine rtl 10 H ?_
 refine xC qh<|t_n<|zX _ rfl (fun h5=>?_)<|fun h5=>?_
 ·replace h5:=x8 h5
  refine zcr<|sp (Bv false)<|zjr<|t_r<|rH1 (Bv false) H ?_
  rw[xw (fun h=>by obtain⟨h1,h2,h3,h4,h5⟩:=h;exact ft h1 ‹_›)]
 replace h5:=xO h5
 refine qZ<|t_n<|xU<|ji rfl H fun H=>rtl 0 H ?_
 refine rtl 1 H ?_
 refine tF 2 rfl rfl H ?_
 refine tL 3 rfl rfl (fun _ h=>h.zo 3 rfl 1 rfl) H ?_
 refine rtl 4 H ?_
 refine rtl 5 H ?_
 refine tF 6 rfl rfl H ?_
 refine tL 7 rfl rfl (fun _ h=>h.zo 7 rfl 0 rfl) H ?_
 obtain⟨b7,o8,rfl⟩:=H.addr 5 rfl qf
 obtain⟨apK,anm,awD,H⟩:=H.jo 5 rfl r.qY r.qY.toNat qf qf qf
 refine tI 8 rfl rfl rfl (H.pick []<|zR 2 14)<|ro 9 rfl<|zB (Sv apK ((t.qQ[r.qY.toNat]!).length) anm) isAgg24 rfl (H.zo 1 rfl 0 rfl)<|⟨H.pick []<|zR 2 14,(rtl 10 (H.pick []<|zR 2 14) ?_)⟩
 refine xC qh<|t_n<|zcc<|sq 2<|oF rfl<|oL rfl (H.zo 9 rfl 2 rfl)<|sq 1<|sw<|oq (l01Within_ok _ r.zJ (t.qQ[r.qY.toNat]!) (H.get 10 rfl).1 (H.get 0 rfl).1 qg) H fun we H=>sp (Bv (!(within r.zJ<|t.qQ[r.qY.toNat]!)))<|sp (Bv (!(within r.zJ<|t.qQ[r.qY.toNat]!))) ?_
 cases eE:(!(within r.zJ (t.qQ[r.qY.toNat]!)))
 ·replace eE:=xO eE
  refine qP 38 rfl rfl<|sq 1<|qP 38 rfl rfl<|sq 1<|qP 38 rfl rfl<|oF rfl<|qP 38 rfl rfl<|oL rfl (H.zo 9 rfl 3 rfl)<|qP 38 rfl rfl<|sq 1<|qP 38 rfl rfl<|sw<|oq (l01Within_ok _ r.jB (t.qQ[r.qY.toNat]!) (H.get 11 rfl).1 (H.get 0 rfl).1 qg) H fun KX H=>qP 38 rfl rfl<|sp (Bv (!(within r.jB<|t.qQ[r.qY.toNat]!)))<|sp (Bv (!(within r.jB<|t.qQ[r.qY.toNat]!)))<|sp (Bv (!(within r.jB<|t.qQ[r.qY.toNat]!))) ?_
  cases g8:(!(within r.jB (t.qQ[r.qY.toNat]!)))
  ·replace g8:=xO g8
   refine qP 47 rfl rfl<|sq 1<|qP 47 rfl rfl<|sq 1<|qP 47 rfl rfl<|oF rfl<|qP 47 rfl rfl<|oL rfl (H.zo 9 rfl 4 rfl)<|qP 47 rfl rfl<|sw<|oq (Vz _ r.jD (H.get 12 rfl).1<|by assumption) H fun y6 H=>qP 47 rfl rfl<|sp (Bv<|decide ((Xr r.jD:Int)>0))<|qP 47 rfl rfl<|sp (Bv<|decide ((Xr r.jD:Int)>0)) ?_
   cases rD:(decide ((Xr r.jD:Int)>0))
   ·replace rD:=of_decide_eq_false rD
    refine xY (zR 55 6)<|qP 47 rfl rfl<|sp (Bv false)<|sp (Bv false)<|zjn<|cFr rfl<|qZ<|t_n<|zcc<|sp (yI 0)<|zjn<|xf<|zD ((fun Z0 Z1 Z2 Z3 Z4 Z5 Z6 Z7 Z8 Z9 bG bX eZ i8 mb oX=>fun m' ρ GP=>∃(xN:Env) (i:Nat),ρ=upd (upd (upd (upd xN 0<|pp bs os) 1<|pp bt ot) 2<|pp br or) 8 (yI i)/\((i:Int)<=r.xF.length)/\(IntoUp s t r i)/\m'=(r.xF.length-(i:Int)).toNat/\Fresh w.heap.size []/\St w GP [] [Z0,Z1,Z2,Z3,Z4,Z5,Z6,Z7,Z8,Z9,bG,bX,eZ,i8,mb,oX]) _ _ _ _ _ _ _ _ _ _ _ _ _ _ _ _) ((r.xF.length-(0:Int)).toNat) ⟨_,0,uE4,qf,qx,rfl,N,H⟩ ?_
    clear H N
    rintro m' ρ Cz ⟨xN,i,rfl,i0,i1,rfl,N,H⟩
    refine zcc<|sp (yI i)<|sq 2<|oF rfl<|oL rfl (H.zo 9 rfl 7 rfl)<|oN rfl<|sq 1<|zjn<|cD rfl (fun mU=>?_)<|fun mU=>?_
    ·have q:=(Bw i qf).1
     have q1:=q.1
     refine qZ<|t_n<|xU<|xf<|zcr<|sq 2<|oF rfl<|oL rfl (H.zo 9 rfl 7 rfl)<|sp (yI i) ?_
     obtain⟨Tn,o26,rfl⟩:=H.addr 15 rfl qf
     obtain⟨aiF,ai0,aib,H⟩:=H.Qr 15 rfl i i qf qf qf
     refine oI rfl rfl<|oF rfl<|oL rfl (H.zo 1 rfl 0 rfl)<|sq 1<|zjn<|xU<|ji rfl H fun H=>rtl 0 H ?_
     refine rtl 1 H ?_
     refine tF 2 rfl rfl H ?_
     refine tL 3 rfl rfl (fun _ h=>h.zo 7 rfl 0 rfl) H ?_
     refine rtl 4 H ?_
     refine tI 5 rfl rfl rfl H ?_
     refine tL 6 rfl rfl (fun _ h=>h.elemBool 8 rfl ((r.xF[i]!).qY) qf qf) H ?_
     refine rtp 7 (Bv (!(t.qK[((r.xF[i]!).qY).toNat]!))) H ?_
     refine rtp 8 (Bv (!(t.qK[((r.xF[i]!).qY).toNat]!))) H ?_
     cases ID:(!(t.qK[((r.xF[i]!).qY).toNat]!))
     ·replace ID:=xO ID
      refine rgl 9 88 H ?_
      refine rgl 10 88 H ?_
      refine rgl 11 88 H ?_
      refine rgl 13 88 H ?_
      refine rgl 14 88 H ?_
      refine gF 15 rfl rfl H ?_
      refine gL 16 rfl rfl (fun _ h=>h.zo 11 rfl 0 rfl) H ?_
      refine zY [12] qh qm<|X4 rfl (e:=88) rfl rfl (oq (l02Parent_ok _ s t ((r.xF[i]!).qY) (qC (H.get 4 rfl) 0 3) (H.get 5 rfl).1 (H.get 6 rfl).1 (qC (H.get 7 rfl) 0 3) (H.get 8 rfl).1 (H.get 9 rfl).1 (H.get 10 rfl).1 ql ql ql) H fun UZ H=>⟨H,(rgl 17 88 H ?_)⟩) zZ
      refine rtl 18 H ?_
      refine xC qh<|t_n<|zX _ rfl (fun AS=>?_)<|fun AS=>?_
      ·replace AS:=bne_iff_ne.1 AS
       refine zcr<|sp (Bv false)<|zjr<|zr5<|rH1 (Bv false) H ?_
       rw[xw (fun h=>by obtain⟨h1,h2,h3,h4,h5⟩:=h;(obtain⟨q1,q2⟩:=h5 i qf;exact absurd q2 ‹_›))]
      replace AS:=xA AS
      refine qZ<|b_n<|t_n<|xX<|sp (yI i)<|sw<|zC i 1 rfl rfl qf<|sq 1<|xZ<|xh (m':=(r.xF.length-((i+1):Int)).toNat) qf ⟨_,i+1,uE4,?_,?_,rfl,N,H.pick []<|zR 2 16⟩
      ·omega
      ·exact i1.succ ‹_› ‹_›
     replace ID:=x8 ID
     refine vJ (zR 9 9) 9 (H)<|rtp 18 (Bv true) H ?_
     refine xC qh<|t_n<|cTr rfl<|zcr<|sp (Bv false)<|zjr<|zr5<|rH1 (Bv false) H ?_
     rw[xw (fun h=>by obtain⟨h1,h2,h3,h4,h5⟩:=h;(obtain⟨q1,q2⟩:=h5 i qf;exact ft q1 ‹_›))]
    refine zx4<|zcr<|sp (Bv true)<|zjr<|rH1 (Bv true) H ?_
    rw[jP ⟨by assumption,by assumption,by assumption,fun⟨u,v⟩=>by omega,(show i=r.xF.length by omega)▸i1⟩]
   replace rD:=of_decide_eq_true rD
   refine qP 54 rfl rfl<|sq 1<|qP 54 rfl rfl<|sq 1<|qP 54 rfl rfl<|oF rfl<|qP 54 rfl rfl<|oL rfl (H.zo 9 rfl 4 rfl)<|qP 54 rfl rfl<|sq 1<|qP 54 rfl rfl<|sw<|oq (l01Within_ok _ r.jD (t.qQ[r.qY.toNat]!) (H.get 12 rfl).1 (H.get 0 rfl).1 qg) H fun Ao H=>qP 47 rfl rfl<|sq 2<|zjn<|zX _ rfl (fun By=>?_)<|fun By=>?_
   ·refine zcr (sp (Bv false)<|zjr<|t_r<|rH1 (Bv false) H ?_)
    rw[xw (fun h=>by obtain⟨h1,h2,h3,h4,h5⟩:=h;exact h4 ⟨‹_›,‹_›⟩)]
   refine qZ<|t_n<|zcc<|sp (yI 0)<|zjn<|xf<|zD ((fun Z0 Z1 Z2 Z3 Z4 Z5 Z6 Z7 Z8 Z9 bG bX eZ i8 mb oX=>fun m' ρ Jz=>∃(xN:Env) (i:Nat),ρ=upd (upd (upd (upd xN 0<|pp bs os) 1<|pp bt ot) 2<|pp br or) 8 (yI i)/\((i:Int)<=r.xF.length)/\(IntoUp s t r i)/\m'=(r.xF.length-(i:Int)).toNat/\Fresh w.heap.size []/\St w Jz [] [Z0,Z1,Z2,Z3,Z4,Z5,Z6,Z7,Z8,Z9,bG,bX,eZ,i8,mb,oX]) _ _ _ _ _ _ _ _ _ _ _ _ _ _ _ _) ((r.xF.length-(0:Int)).toNat) ⟨_,0,uE4,qf,qx,rfl,N,H⟩ ?_
   clear H N
   rintro m' ρ BG ⟨xN,i,rfl,i0,i1,rfl,N,H⟩
   refine zcc<|sp (yI i)<|sq 2<|oF rfl<|oL rfl (H.zo 9 rfl 7 rfl)<|oN rfl<|sq 1<|zjn<|cD rfl (fun Bo=>?_)<|fun Bo=>?_
   ·have q:=(Bw i qf).1
    have q1:=q.1
    refine qZ<|t_n<|xU<|xf<|zcr<|sq 2<|oF rfl<|oL rfl (H.zo 9 rfl 7 rfl)<|sp (yI i) ?_
    obtain⟨b41,o42,rfl⟩:=H.addr 15 rfl qf
    obtain⟨aiY,aiE,ai4,H⟩:=H.Qr 15 rfl i i qf qf qf
    refine oI rfl rfl<|oF rfl<|oL rfl (H.zo 1 rfl 0 rfl)<|sq 1<|zjn<|xU<|ji rfl H fun H=>rtl 0 H ?_
    refine rtl 1 H ?_
    refine tF 2 rfl rfl H ?_
    refine tL 3 rfl rfl (fun _ h=>h.zo 7 rfl 0 rfl) H ?_
    refine rtl 4 H ?_
    refine tI 5 rfl rfl rfl H ?_
    refine tL 6 rfl rfl (fun _ h=>h.elemBool 8 rfl ((r.xF[i]!).qY) qf qf) H ?_
    refine rtp 7 (Bv (!(t.qK[((r.xF[i]!).qY).toNat]!))) H ?_
    refine rtp 8 (Bv (!(t.qK[((r.xF[i]!).qY).toNat]!))) H ?_
    cases KK:(!(t.qK[((r.xF[i]!).qY).toNat]!))
    ·replace KK:=xO KK
     refine rgl 9 88 H ?_
     refine rgl 10 88 H ?_
     refine rgl 11 88 H ?_
     refine rgl 13 88 H ?_
     refine rgl 14 88 H ?_
     refine gF 15 rfl rfl H ?_
     refine gL 16 rfl rfl (fun _ h=>h.zo 11 rfl 0 rfl) H ?_
     refine zY [12] qh qm<|X4 rfl (e:=88) rfl rfl (oq (l02Parent_ok _ s t ((r.xF[i]!).qY) (qC (H.get 4 rfl) 0 3) (H.get 5 rfl).1 (H.get 6 rfl).1 (qC (H.get 7 rfl) 0 3) (H.get 8 rfl).1 (H.get 9 rfl).1 (H.get 10 rfl).1 ql ql ql) H fun Wc H=>⟨H,(rgl 17 88 H ?_)⟩) zZ
     refine rtl 18 H ?_
     refine xC qh<|t_n<|zX _ rfl (fun Fh=>?_)<|fun Fh=>?_
     ·replace Fh:=bne_iff_ne.1 Fh
      refine zcr<|sp (Bv false)<|zjr<|zr5<|rH1 (Bv false) H ?_
      rw[xw (fun h=>by obtain⟨h1,h2,h3,h4,h5⟩:=h;(obtain⟨q1,q2⟩:=h5 i qf;exact absurd q2 ‹_›))]
     replace Fh:=xA Fh
     refine qZ<|b_n<|t_n<|xX<|sp (yI i)<|sw<|zC i 1 rfl rfl qf<|sq 1<|xZ<|xh (m':=(r.xF.length-((i+1):Int)).toNat) qf ⟨_,i+1,uE4,?_,?_,rfl,N,H.pick []<|zR 2 16⟩
     ·omega
     ·exact i1.succ ‹_› ‹_›
    replace KK:=x8 KK
    refine vJ (zR 9 9) 9 (H)<|rtp 18 (Bv true) H ?_
    refine xC qh<|t_n<|cTr rfl<|zcr<|sp (Bv false)<|zjr<|zr5<|rH1 (Bv false) H ?_
    rw[xw (fun h=>by obtain⟨h1,h2,h3,h4,h5⟩:=h;(obtain⟨q1,q2⟩:=h5 i qf;exact ft q1 ‹_›))]
   refine zx4<|zcr<|sp (Bv true)<|zjr<|rH1 (Bv true) H ?_
   rw[jP ⟨by assumption,by assumption,by assumption,fun⟨u,v⟩=>by exact ft v ‹_›,(show i=r.xF.length by omega)▸i1⟩]
  replace g8:=x8 g8
  refine xY (zR 48 14)<|sp (Bv true)<|zjn<|cTr rfl<|zcr<|sp (Bv false)<|zjr<|t_r<|rH1 (Bv false) H ?_
  rw[xw (fun h=>by obtain⟨h1,h2,h3,h4,h5⟩:=h;exact ft h3 ‹_›)]
 replace eE:=x8 eE
 refine xY (zR 39 7)<|sp (Bv true)<|sp (Bv true)<|xY (zR 48 14)<|sp (Bv true)<|zjn<|cTr rfl<|zcr<|sp (Bv false)<|zjr<|t_r<|rH1 (Bv false) H ?_
 rw[xw (fun h=>by obtain⟨h1,h2,h3,h4,h5⟩:=h;exact ft h2 ‹_›)]
theorem l03Applicable_ok(w:World)(s:qH)(t:qG)(hs:jC w bs os (yS s qF qE qO qN))(xe:zP w xu qF qE s.qA)(xE:zP w xW qO qN s.qB)(ht:jC w bt ot (yT t qV qU xm xk qM qL))(xR:zP w zk qV qU t.qK)(zu:zP w zF xm xk t.qQ)(xB:zP w xJ qM qL t.qJ)(p0:vz s)(p1:xK s t):Calls Tryz.prog 153 #[pp bs os,pp bt ot] w (Ret (fun v w'=>∃(ra:yOA) (rn:Nat) (rc:Nat),v=Sv ra rn rc/\Fresh w.heap.size []/\St w w' [rr ra rn rc 4 1 ((appl s t).map<|Value.bool)] []) w):=by
 refine en func153 ntmps153 ?_
 have H:=(((((((St.start w).arg xB).arg zu).arg xR).VF ht).arg xE).arg xe).VF hs
 have zV:=qR xe
 have jb:=qR xE
 clear hs xe xE ht xR zu xB
 have N:=Fresh.nil w.heap.size
 have p2:=p0.2.1
 have p3:=p0.1.2.1
 refine zcr<|sq 1<|zjc<|sq 2<|oF rfl<|oL rfl (H.zo 0 rfl 1 rfl)<|oN rfl<|sw<|zq H underlying24 ti2 s.qA.length rfl rfl qf qf qf fun b1 w2 H=>sq 1<|zjc<|sw<|ja H underlying28 ti4 fun b3 w4 H=>sq 1<|zjcc<|sp (yI 0)<|zjn<|xf ?_
 replace H:=H.boxRowB 0 [] 0
 refine zD ((fun Z0 Z1 Z2 Z3 Z4 Z5 Z6=>fun m' ρ w5=>∃(xN:Env) (jZ:yOA) (vV:Nat) (jQ:Nat) (out:List Bool) (i:Nat) (dz:yLI),ρ=upd (upd (upd (upd (upd xN 0<|pp bs os) 1<|pp bt ot) 5<|Sv (aa b1 0) s.qA.length s.qA.length) 6<|Sv jZ vV jQ) 7 (yI i)/\out=applB s t 0 i/\dz=bests s t 0 s.qA.length i/\((i:Int)<=s.qB.length)/\m'=(s.qB.length-(i:Int)).toNat/\Fresh w.heap.size []/\St w w5 [rr jZ vV jQ 4 1<|out.map<|Value.bool,rr (aa b1 0) s.qA.length s.qA.length 2 1<|dz.map<|Value.int .i64] [Z0,Z1,Z2,Z3,Z4,Z5,Z6]) _ _ _ _ _ _ _) ((s.qB.length-(0:Int)).toNat) ⟨_,(aa b3 0),0,0,([]:List Bool),0,(List.replicate s.qA.length (0:Int)),uE5,(by rfl),(by exact bests_zero s t 0 _),qf,rfl,N,H⟩ ?_
 clear H N
 rintro m' ρ w6 ⟨xN,jZ,vV,jQ,out,i,dz,rfl,rfl,rfl,i0,rfl,N,H⟩
 have bQ:=H.Xg 0 rfl
 have aiS:=H.jy 1 rfl
 have al:=applB_len s t 0 i
 refine zcc<|sp (yI i)<|sq 2<|oF rfl<|oL rfl (H.zo 0 rfl 2 rfl)<|oN rfl<|sq 1<|zjn<|cD rfl (fun h7=>?_)<|fun h7=>?_
 ·have q:=p0.rule (i:=i) qf
  have qc:=q.1
  have qk:=q.cell
  refine qZ<|t_n<|xU<|xf<|zcr<|sq 2<|oF rfl<|oL rfl (H.zo 0 rfl 2 rfl)<|sp (yI i) ?_
  obtain⟨b8,o9,rfl⟩:=H.addr 2 rfl qf
  obtain⟨afz,ZY,ahE,ahL,aa7,Y7,aga,ZT,Zm,afx,aaY,ady,aiO,air,ai8,acd,agB,aa3,H⟩:=H.Qa 2 rfl i i qf qf qf
  refine oI rfl rfl<|sq 1<|zjc<|sq 3<|sw<|oq (l03Enabled_ok _ s t (s.qB[i]!) (qC (H.get 7 rfl) 0 3) (H.get 8 rfl).1 (H.get 9 rfl).1 (qC (H.get 10 rfl) 0 3) (H.get 11 rfl).1 (H.get 12 rfl).1 (H.get 13 rfl).1 (qC (H.get 6 rfl) 0 9) (H.get 0 rfl).1 (H.get 1 rfl).1 (H.get 2 rfl).1 (H.get 3 rfl).1 (H.get 4 rfl).1 (H.get 5 rfl).1 qg qg qg) H fun xp H=>(sq 1<|zjc<|sq 2<|sw<|zl H underlying28 ti4 [Bv<|dec<|EnOk s t<|s.qB[i]!] fun Fo KX H=>sw<|zt H 1 rfl 0 rfl underlying28 ti4 rfl qj rfl rfl rfl qw qp qf fun a17 c18 y6 H=>?_)
  rw[snocB] at H
  refine sq 1<|zjc<|sq 1<|zjn<|cP rfl (fun wx=>?_)<|fun wx=>?_
  ·refine Qd rfl H [0,1] fun H=>?_
   have S:=H.jF [0,1]<|zR 0 14
   refine rtl 0 S ?_
   refine rtl 1 S ?_
   refine rtl 2 S ?_
   refine tF 3 rfl rfl S ?_
   refine tL 4 rfl rfl (fun _ h=>h.zo 6 rfl 0 rfl) S ?_
   refine rtl 5 S ?_
   refine rtl 6 S ?_
   refine rtl 7 S ?_
   refine tF 8 rfl rfl S ?_
   refine tL 9 rfl rfl (fun _ h=>h.zo 6 rfl 0 rfl) S ?_
   refine tI 10 rfl rfl rfl S ?_
   refine rtl 12 S ?_
   refine rtl 13 S ?_
   refine tF 14 rfl rfl S ?_
   refine tL 15 rfl rfl (fun _ h=>h.zo 6 rfl 1 rfl) S ?_
   refine ro 11 rfl<|zB (yI ((bests s t 0 s.qA.length i)[((s.qB[i]!).qY).toNat]!)) isAgg2 rfl (H.Xb 2 rfl (iv:=(s.qB[i]!).qY) (i:=(((s.qB[i]!).qY).toNat)) qf qf)<|⟨H.pick [0,1]<|zR 0 14,(ro 16 rfl<|oq (l00Max_ok y6.drew ((bests s t 0 s.qA.length i)[((s.qB[i]!).qY).toNat]!) ((s.qB[i]!).yK)) H fun Cz H=>⟨H.pick [0,1]<|zR 0 14,(tI 17 rfl rfl rfl (H.pick [0,1]<|zR 0 14) ?_)⟩)⟩
   refine ro 18 rfl<|Qe H 2 rfl (max ((bests s t 0 s.qA.length i)[((s.qB[i]!).qY).toNat]!) ((s.qB[i]!).yK)) sizeOf2 rfl rfl (i:=(((s.qB[i]!).qY).toNat)) qf qf fun Ce H=>⟨H.pick [0,1]<|zR 0 14,(xC qh<|b_n<|t_n<|xX<|sp (yI i)<|sw<|zC i 1 rfl rfl qf<|sq 1<|xZ<|xh (m':=(s.qB.length-((i+1):Int)).toNat) qf ⟨_,_,_,_,_,i+1,_,uE5,?_,?_,?_,rfl,N,H.pick [1,2]<|zR 7 7⟩)⟩
   ·exact applB_snoc s t i
   ·exact bests_set ‹_› qf
   ·omega
  refine qZ<|b_n<|t_n<|xX<|sp (yI i)<|sw<|zC i 1 rfl rfl qf<|sq 1<|xZ<|xh (m':=(s.qB.length-((i+1):Int)).toNat) qf ⟨_,_,_,_,_,i+1,_,uE5,?_,?_,?_,rfl,N,H.pick [1,2]<|zR 7 7⟩
  ·exact applB_snoc s t i
  ·exact bests_skip ‹_›
  ·omega
 refine zx4<|zcc<|sp (yI 0)<|zjn<|xf<|zD ((fun Z0 Z1 Z2 Z3=>fun m' ρ BP=>∃(xN:Env) (az:Nat) (bL:List Bool),ρ=upd (upd (upd (upd xN 0<|pp bs os) 5<|Sv (aa b1 0) s.qA.length s.qA.length) 6<|Sv jZ vV jQ) 10 (yI az)/\bL=applB s t az s.qB.length/\((az:Int)<=s.qB.length)/\m'=(s.qB.length-(az:Int)).toNat/\Fresh w.heap.size []/\St w BP [rr jZ vV jQ 4 1<|bL.map<|Value.bool,Z0] [Z1,Z2,Z3]) _ _ _ _) ((s.qB.length-(0:Int)).toNat) ⟨_,0,(applB s t 0 i),uE4,(by rw[show i=s.qB.length by omega]),qf,rfl,N,H.pick [0,1] [0,1,2]⟩ ?_
 clear H N
 rintro m' ρ BA ⟨xN,az,bL,rfl,rfl,i0,rfl,N,H⟩
 have bQ:=H.Xg 0 rfl
 have al:=applB_len s t az s.qB.length
 refine zcc<|sq 3<|oF rfl<|oL rfl (H.zo 0 rfl 2 rfl)<|oN rfl<|sq 1<|zjn<|cD rfl (fun GY=>?_)<|fun GY=>?_
 ·have q:=p0.rule (i:=az) qf
  have qc:=q.1
  have qk:=q.cell
  have qr:=q.2.1
  refine qZ<|t_n<|xU<|xf<|Qd rfl H [1] fun H=>?_
  have S:=H.jF [1] [0,1,2]
  refine rtl 0 S ?_
  refine rtl 1 S ?_
  refine rtl 2 S ?_
  refine rtl 3 S ?_
  obtain⟨RP,rfl⟩:=H.jR 0 rfl qf
  refine tI 4 rfl rfl rfl (H.pick [1] [0,1,2])<|ro 5 rfl<|zB (Bv ((applB s t az s.qB.length)[az]!)) isAgg4 rfl (H.rowBool 0 rfl (iv:=az) (i:=az) qf qf)<|⟨H.pick [1] [0,1,2],(rtp 6 (Bv ((applB s t az s.qB.length)[az]!)) (H.pick [1] [0,1,2]) ?_)⟩
  cases WS:((applB s t az s.qB.length)[az]!)
  ·refine vJ (zR 7 20) 20 (H.pick [1] [0,1,2]) ?_
   have S:=H.jF [1] [0,1,2]
   refine rtp 27 (Bv false) S ?_
   refine tI 28 rfl rfl rfl S ?_
   refine ro 29 rfl<|QJ H 0 rfl false sizeOf4 rfl rfl (i:=az) qf qf fun G6 H=>⟨H.pick [1] [0,1,2],(xC qh<|b_n<|t_n<|xX<|sq 1<|sw<|zC az 1 rfl rfl qf<|sq 1<|xZ<|xh (m':=(s.qB.length-((az+1):Int)).toNat) qf ⟨_,az+1,_,uE4,?_,?_,rfl,N,H⟩)⟩
   ·exact applB_set qf<|applB_step0 (m:=s.qB.length) qf ‹_›
   ·omega
  have S:=H.jF [1] [0,1,2]
  refine rgl 7 75 S ?_
  refine rgl 8 75 S ?_
  refine gF 9 rfl rfl S ?_
  refine gL 10 rfl rfl (fun _ h=>h.zo 0 rfl 2 rfl) S ?_
  refine rgl 11 75 S ?_
  obtain⟨mX,o34,rfl⟩:=H.addr 2 rfl qf
  obtain⟨no,nj,Jb,m9,m2,Iw,nU,m4,HI,m8,n0,Ig,rP,rM,MG,nV,nf,JP,H⟩:=H.Qa 2 rfl az az qf qf qf
  have S:=H.jF [1] [7,8,9]
  refine gI 12 rfl rfl rfl S ?_
  refine gF 13 rfl rfl S ?_
  refine rgl 15 75 S ?_
  refine rgl 16 75 S ?_
  refine rgl 17 75 S ?_
  refine gF 18 rfl rfl S ?_
  refine gL 19 rfl rfl (fun _ h=>h.zo 0 rfl 2 rfl) S ?_
  refine rgl 20 75 S ?_
  refine gI 21 rfl rfl rfl S ?_
  refine gF 22 rfl rfl S ?_
  refine zY [14,23] qh qm<|X4 rfl (e:=75) rfl rfl ?_<|X4 rfl (e:=75) rfl rfl ?_ zZ
  ·refine zB (yI ((s.qB[az]!).yK)) isAgg2 rfl (H.zo 6 rfl 1 rfl) (⟨H.pick [1] [7,8,9],(zY [23] qh qm<|X4 rfl (e:=75) rfl rfl (zB (yI ((s.qB[az]!).qY)) isAgg2 rfl (H.zo 6 rfl 0 rfl)<|⟨H.pick [1] [7,8,9],?_⟩) zZ)⟩)
   have S:=H.jF [1] [7,8,9]
   refine gI 24 rfl rfl rfl S ?_
   refine gL 25 rfl rfl (fun _ h=>h.Xb 0 rfl (iv:=(s.qB[az]!).qY) (i:=(((s.qB[az]!).qY).toNat)) qf qf) S ?_
   refine rgl 26 75 S ?_
   refine rtl 27 S ?_
   refine tI 28 rfl rfl rfl S ?_
   refine ro 29 rfl<|QJ H 0 rfl (((s.qB[az]!).yK:Int) == ((bests s t 0 s.qA.length i)[((s.qB[az]!).qY).toNat]!)) sizeOf4 rfl rfl (i:=az) qf qf fun Jk H=>⟨H.pick [1] [7,8,9],(xC qh<|b_n<|t_n<|xX<|sq 1<|sw<|zC az 1 rfl rfl qf<|sq 1<|xZ<|xh (m':=(s.qB.length-((az+1):Int)).toNat) qf ⟨_,az+1,_,uE4,?_,?_,rfl,N,H.pick [0,1] [7,8,9]⟩)⟩
   ·exact applB_set qf<|applB_step1 (m:=s.qB.length) (n:=s.qA.length) (z:=0) (i:=i) qf ‹_› rfl qf qf qf
   ·omega
  refine zB (yI ((s.qB[az]!).qY)) isAgg2 rfl (H.zo 6 rfl 0 rfl)<|⟨H.pick [1] [7,8,9],?_⟩
  have S:=H.jF [1] [7,8,9]
  refine gI 24 rfl rfl rfl S ?_
  refine gL 25 rfl rfl (fun _ h=>h.Xb 0 rfl (iv:=(s.qB[az]!).qY) (i:=(((s.qB[az]!).qY).toNat)) qf qf) S ?_
  refine zY [14] qh qm<|X4 rfl (e:=75) rfl rfl (zB (yI ((s.qB[az]!).yK)) isAgg2 rfl (H.zo 6 rfl 1 rfl)<|⟨H.pick [1] [7,8,9],?_⟩) zZ
  have S:=H.jF [1] [7,8,9]
  refine rgl 26 75 S ?_
  refine rtl 27 S ?_
  refine tI 28 rfl rfl rfl S ?_
  refine ro 29 rfl<|QJ H 0 rfl (((s.qB[az]!).yK:Int) == ((bests s t 0 s.qA.length i)[((s.qB[az]!).qY).toNat]!)) sizeOf4 rfl rfl (i:=az) qf qf fun Jz H=>⟨H.pick [1] [7,8,9],(xC qh<|b_n<|t_n<|xX<|sq 1<|sw<|zC az 1 rfl rfl qf<|sq 1<|xZ<|xh (m':=(s.qB.length-((az+1):Int)).toNat) qf ⟨_,az+1,_,uE4,?_,?_,rfl,N,H.pick [0,1] [7,8,9]⟩)⟩
  ·exact applB_set qf<|applB_step1 (m:=s.qB.length) (n:=s.qA.length) (z:=0) (i:=i) qf ‹_› rfl qf qf qf
  ·omega
 refine zx4<|zcr<|sq 2<|zjr<|rH1 (Sv jZ vV jQ) H ?_
 obtain rfl:az=s.qB.length:=by omega
 exact⟨jZ,vV,jQ,rfl,N,H.pick [0] []⟩
theorem l03Halted_ok(w:World)(s:qH)(t:qG)(hs:jC w bs os (yS s qF qE qO qN))(xe:zP w xu qF qE s.qA)(xE:zP w xW qO qN s.qB)(ht:jC w bt ot (yT t qV qU xm xk qM qL))(xR:zP w zk qV qU t.qK)(zu:zP w zF xm xk t.qQ)(xB:zP w xJ qM qL t.qJ)(p0:vz s)(p1:xK s t):Calls Tryz.prog 105 #[pp bs os,pp bt ot] w (Ret (fun v w'=>v=Bv (dec<|Halted s t)) w):=by
 refine en func105 ntmps105 ?_
 have H:=(((((((St.start w).arg xB).arg zu).arg xR).VF ht).arg xE).arg xe).VF hs
 have jb:=qR xE
 clear hs xe xE ht xR zu xB
 have N:=Fresh.nil w.heap.size
 have p2:=p0.2.1
 refine zcr<|sp (Bv false)<|zjc<|sq 2<|sw<|oc (l03Applicable_ok _ s t (qC (H.get 0 rfl) 0 3) (H.get 1 rfl).1 (H.get 2 rfl).1 (qC (H.get 3 rfl) 0 3) (H.get 4 rfl).1 (H.get 5 rfl).1 (H.get 6 rfl).1 qg qg) ?_
 rintro _ w2 ⟨Jd,rn1,I1,rfl,M,K⟩ _
 replace H:=H.merge K M
 obtain rfl:=H.Xg 0 rfl
 have al:=appl_len s t
 refine sq 1<|zjcc<|sp (yI 0)<|zjn<|xf<|zD ((fun Z0=>fun m' ρ w7=>∃(xN:Env) (i:Nat),ρ=upd (upd xN 5<|Sv Jd ((appl s t).length) I1) 6 (yI i)/\((i:Int)<=((appl s t).length))/\(HaltTo s t i)/\m'=(((appl s t).length)-(i:Int)).toNat/\Fresh w.heap.size []/\St w w7 [Z0] []) _) ((((appl s t).length)-(0:Int)).toNat) ⟨_,0,uE2,qf,qx,rfl,N,H.pick [0] []⟩ ?_
 clear H N
 rintro m' ρ w8 ⟨xN,i,rfl,i0,i1,rfl,N,H⟩
 refine zcc<|sp (yI i)<|sq 1<|oN rfl<|sq 1<|zjn<|cD rfl (fun h9=>?_)<|fun h9=>?_
 ·refine qZ (t_n<|xU<|xf<|zcr<|sq 1<|sp (yI i) ?_)
  obtain⟨g9,rfl⟩:=H.jR 0 rfl qf
  refine oI rfl rfl<|oL rfl (H.rowBool 0 rfl (iv:=i) (i:=i) qf qf)<|zjn<|zX _ rfl (fun aV=>?_)<|fun aV=>?_
  ·refine zcr (sp (Bv false)<|zjr<|zr5<|rH1 (Bv false) H ?_)
   rw[xw<|fun h=>h i qf<|Xa qf ‹_›]
  refine qZ<|b_n<|t_n<|xX<|sp (yI i)<|sw<|zC i 1 rfl rfl qf<|sq 1<|xZ<|xh (m':=(((appl s t).length)-((i+1):Int)).toNat) qf ⟨_,i+1,uE2,?_,?_,rfl,N,H⟩
  ·omega
  ·exact i1.succ<|Qz qf ‹_›
 refine zx4<|zcr<|sp (Bv true)<|zjr<|rH1 (Bv true) H ?_
 obtain rfl:i=s.qB.length:=by omega
 rw[jP i1]
theorem l03Rest_ok(w:World)(s:qH)(t:qG)(counts:yLI){aP:yOA}{aK:Nat}{bS:yLN}(hs:jC w bs os (yS s qF qE qO qN))(xe:zP w xu qF qE s.qA)(xE:zP w xW qO qN s.qB)(ht:jC w bt ot (yT t qV qU xm xk qM qL))(xR:zP w zk qV qU t.qK)(zu:zP w zF xm xk t.qQ)(xB:zP w xJ qM qL t.qJ)(cg:zP w bS aP aK counts)(p0:vz s)(p1:xK s t)(p2:CntOk s counts):Calls Tryz.prog 191 #[pp bs os,pp bt ot,Sv aP counts.length aK] w (Ret (fun v w'=>∃(iI:yOA) (pJ:Nat) (iB:Nat) (re:List Value) (iP:yLN),v=.tuple #[Sv iI pJ iB,Bv<|dec<|IsCh s t counts]/\Fresh w.heap.size [iP]/\St w w' [rr iI pJ iB 24 1 re] [xG true iP re<|yB s t counts<|X6 (BadAt s t counts) counts.length]) w):=by
 refine en func191 ntmps191 ?_
 have H:=((((((((St.start w).arg cg).arg xB).arg zu).arg xR).VF ht).arg xE).arg xe).VF hs
 have jb:=qR xE
 have yR:=qR zu
 clear hs xe xE ht xR zu xB cg
 have N:=Fresh.nil w.heap.size
 have p3:=p0.2.1
 have p6:=p2.1
 have p7:=p1.2.1
 have p8:=kinds_le p0
 have p9:=p0.1.2.1
 have p11:jK s=s.qA.length:=rfl
 refine zcr<|sq 1<|sp (Bv false)<|zjc<|sq 2<|sw<|oc (l03Applicable_ok _ s t (qC (H.get 0 rfl) 0 3) (H.get 1 rfl).1 (H.get 2 rfl).1 (qC (H.get 3 rfl) 0 3) (H.get 4 rfl).1 (H.get 5 rfl).1 (H.get 6 rfl).1 qg qg) ?_
 rintro _ w2 ⟨Jd,rn1,I1,rfl,M,K⟩ _
 replace H:=H.merge K M
 obtain rfl:=H.Xg 0 rfl
 have al:=appl_len s t
 refine sq 1<|zjc<|sw<|ja H underlying29 ti24 fun b7 w8 H=>sq 1<|zjcc<|sp (yI 0)<|zjn<|xf ?_
 replace H:=H.boxRow 0 rfl 1 0 rfl qj
 replace H:=H.vP (α:=yLI)
 refine zD ((fun Z0 Z1 Z2 Z3 Z4 Z5 Z6 Z7 Z8=>fun m' ρ w9=>∃(xN:Env) (fP:yOA) (cM:Nat) (eA:Nat) (ai:yLL) (bO:List Value) (co:yLN) (c:Nat),ρ=upd (upd (upd (upd (upd (upd xN 0<|pp bs os) 1<|pp bt ot) 2<|Sv aP counts.length aK) 8<|Sv Jd ((appl s t).length) I1) 9<|Sv fP cM eA) 10 (yI c)/\ai=t.qQ.take c/\((c:Int)<=t.qQ.length)/\m'=(t.qQ.length-(c:Int)).toNat/\Fresh w.heap.size [co]/\St w w9 [rr fP cM eA 24 1 bO,Z0] [xG true co bO ai,Z1,Z2,Z3,Z4,Z5,Z6,Z7,Z8]) _ _ _ _ _ _ _ _ _) ((t.qQ.length-(0:Int)).toNat) ⟨_,(aa b7 0),0,0,([]:yLL),[],[],0,uE6,(by rfl),qf,rfl,N.emp,H⟩ ?_
 clear H N
 rintro m' ρ ov ⟨xN,fP,cM,eA,ai,bO,co,c,rfl,rfl,i0,rfl,N,H⟩
 have nM:=H.xQ (α:=yLI) 0 rfl 0 rfl qj
 rw[List.length_take_of_le qf] at nM
 refine zcc<|sp (yI c)<|sq 2<|oF rfl<|oL rfl (H.zo 4 rfl 1 rfl)<|oN rfl<|sq 1<|zjn<|cD rfl (fun aV=>?_)<|fun aV=>?_
 ·refine qZ (t_n<|xU<|xf<|xX<|sq 3<|oF rfl<|oL rfl (H.zo 4 rfl 1 rfl)<|sp (yI c) ?_)
  obtain⟨uG,o13,rfl⟩:=H.addr 6 rfl qf
  obtain⟨apr,api,amm,H⟩:=H.jo 6 rfl c c qf qf qf
  refine oI rfl rfl<|oL rfl (H.zo 1 rfl 0 rfl) ?_
  have p5:=(p1.bagLen (k:=c) qf).len
  refine sw<|oc (XX _ (t.qQ[c]!) (H.get 0 rfl).1 qg) ?_
  rintro v21 y6 r21 x20
  replace H:=H.zO x20 r21
  obtain⟨a22,c23,rfl,aye,azX⟩:=H.yc 0 rfl
  refine sw<|zl H underlying29 ti24 [Sv a22 ((t.qQ[c]!).length) c23] fun yn BA H=>?_
  obtain⟨Th,N,ake,H⟩:=H.zQ 1 rfl N<|H.vX [2]
  refine sw<|zt H 2 rfl 0 rfl underlying29 ti24 rfl qj rfl rfl rfl qw qp qf fun ZG c29 BB H=>?_
  replace H:=H.yh 3 rfl 0 rfl
  replace N:Fresh w.heap.size [(co++Th)]:=(N.pick [1,0]).join
  refine sq 1<|xZ<|b_n<|t_n<|xX<|sp (yI c)<|sw<|zC c 1 rfl rfl qf<|sq 1<|xZ<|xh (m':=(t.qQ.length-((c+1):Int)).toNat) qf ⟨_,_,_,_,_,_,_,c+1,uE6,?_,?_,rfl,N,H.pick [2,3] (0::zR 5 8)⟩
  ·exact take_snoc qf
  ·omega
 refine zx4<|zcc<|sp (yI 0)<|zjn<|xf<|zD ((fun Z0 Z1 Z2 Z3 Z4=>fun m' ρ Ml=>∃(xN:Env) (i:Nat) (B9:yLL) (iT:List Value) (eO:yLN),ρ=upd (upd (upd (upd (upd xN 0<|pp bs os) 2<|Sv aP counts.length aK) 8<|Sv Jd ((appl s t).length) I1) 9<|Sv fP cM eA) 11 (yI i)/\B9=yB s t counts i/\((i:Int)<=counts.length)/\(GoodTo s t counts i)/\m'=(counts.length-(i:Int)).toNat/\Fresh w.heap.size [eO]/\St w Ml [rr fP cM eA 24 1 iT,Z0] [xG true eO iT B9,Z1,Z2,Z3,Z4]) _ _ _ _ _) ((counts.length-(0:Int)).toNat) ⟨_,0,(t.qQ.take c),bO,co,uE5,(by rw[List.take_of_length_le qf];rfl),qf,qx,rfl,N,H.pick [0,1] [0,1,2,3,8]⟩ ?_
 clear H N
 rintro m' ρ Gj ⟨xN,i,B9,iT,eO,rfl,rfl,i0,i1,rfl,N,H⟩
 have nM:=H.xQ (α:=yLI) 0 rfl 0 rfl qj
 have rl:=restR_len (s:=s) (t:=t) (counts:=counts) i
 refine zcc<|sp (yI i)<|sq 1<|oN rfl<|sq 1<|zjn<|cD rfl (fun UA=>?_)<|fun UA=>?_
 ·have q:=p0.rule (i:=i) qf
  have qc:=q.1
  have qk:=q.cell
  have b1:=q.2.2.2.2.1
  have p10:=p2.bd (i:=i) qf
  refine qZ<|t_n<|xU<|xf<|zcc<|sq 1<|sp (yI i) ?_
  obtain⟨tD,o37,rfl⟩:=H.addr 4 rfl qf
  refine oI rfl rfl<|oL rfl (H.zS 4 rfl i qf)<|sp (Bv<|decide ((counts[i]! :Int)>0))<|sp (Bv<|decide ((counts[i]! :Int)>0)) ?_
  cases G7:(decide ((counts[i]! :Int)>0))
  ·replace G7:=of_decide_eq_false G7
   refine xY (zR 51 5)<|sp (Bv false)<|zjn<|cFr rfl<|qZ<|t_n<|zcr<|sq 2<|oF rfl<|oL rfl (H.zo 1 rfl 2 rfl)<|sp (yI i) ?_
   obtain⟨RJ,o41,rfl⟩:=H.addr 3 rfl qf
   obtain⟨ahM,adH,afm,ahl,ahA,agq,abL,aeb,aaL,Zj,ahD,aaE,aih,ai1,aig,adI,acA,acf,H⟩:=H.Qa 3 rfl i i qf qf qf
   refine oI rfl rfl<|oF rfl<|oL rfl (H.zo 6 rfl 0 rfl)<|sq 1<|zjn<|Qd rfl H [1] fun H=>?_
   have S:=H.jF [1]<|zR 0 12
   refine rtl 0 S ?_
   refine rtl 1 S ?_
   refine rtl 2 S ?_
   refine rtl 3 S ?_
   obtain⟨KC,rfl⟩:=H.jR 0 rfl qf
   have S:=H.jF [1]<|zR 0 12
   refine tI 4 rfl rfl rfl S ?_
   refine rtl 6 S ?_
   refine rtl 7 S ?_
   refine tF 8 rfl rfl S ?_
   refine tL 9 rfl rfl (fun _ h=>h.zo 8 rfl 2 rfl) S ?_
   refine rtp 10 (yI i) S ?_
   refine tI 11 rfl rfl rfl S ?_
   refine tF 12 rfl rfl S ?_
   refine tL 13 rfl rfl (fun _ h=>h.zo 6 rfl 2 rfl) S ?_
   refine rtl 14 S ?_
   refine rtp 15 (yI i) S ?_
   refine tI 16 rfl rfl rfl S ?_
   refine tL 17 rfl rfl (fun _ h=>h.zS 11 rfl i qf) S ?_
   refine rt 18 _ (y_neg (counts[i]!) rfl qf) S ?_
   refine ro 5 rfl ?_
   obtain⟨a46,c47,A5,s49,h50,H⟩:=H.jS 0 rfl 7 rfl (iv:=(s.qB[i]!).qY) (((s.qB[i]!).qY).toNat) qf qf
   refine zB (Sv a46 (((yB s t counts i)[((s.qB[i]!).qY).toNat]!).length) c47) isAgg24 rfl (h50)<|⟨H.pick [1]<|zR 1 12,(ro 19 rfl ?_)⟩
   obtain⟨u1,u2⟩:=restR_row (c:=(s.qB[i]!).qY.toNat) p0 p1 p2 (show i<=_ by omega) qk
   have u3:=b1.len
   have u4:=b1.Qb (t:= -(counts[i]!)) qf
   refine oc (X3 _ ((yB s t counts i)[((s.qB[i]!).qY).toNat]!) ((s.qB[i]!).zJ) (-(counts[i]!)) (H.get 0 rfl).1 (H.get 1 rfl).1 qg qg qg) ?_
   rintro v56 WP r56 x55
   replace H:=H.zO x55 r56
   obtain⟨a57,c58,rfl,aw9,axR⟩:=H.yc 0 rfl
   refine⟨H.pick [2]<|zR 1 12,(tI 20 rfl rfl rfl (H.pick [2]<|zR 1 12) ?_)⟩
   refine ro 21 rfl ?_
   obtain⟨G62,N,ayJ,H⟩:=H.zQ 0 rfl N<|H.vX [8]
   refine yu true H 1 rfl 9 rfl (Sv a57 ((jX ((yB s t counts i)[((s.qB[i]!).qY).toNat]!) ((s.qB[i]!).zJ) (-(counts[i]!))).length) c58) 0 rfl rfl sizeOf24 rfl rfl (i:=(((s.qB[i]!).qY).toNat)) qf qf qm fun Sq axS F65 ak7 H=>?_
   replace N:Fresh w.heap.size [F65]:=(N.pick [1,0]).repl ak7
   refine⟨H.pick [2]<|zR 3 12,(xC qh<|b_n<|t_n<|xX<|sp (yI i)<|sw<|zC i 1 rfl rfl qf<|sq 1<|xZ<|xh (m':=(counts.length-((i+1):Int)).toNat) qf ⟨_,i+1,_,_,_,uE5,?_,?_,?_,rfl,N,H.pick [1,2] (0::zR 11 4)⟩)⟩
   ·rfl
   ·omega
   ·exact i1.succ (fun h=>by obtain⟨u,v⟩:=h;omega)
  replace G7:=of_decide_eq_true G7
  refine qP 50 rfl rfl<|sq 1<|qP 50 rfl rfl<|sp (yI i)<|qP 50 rfl rfl ?_
  obtain⟨Kz,rfl⟩:=H.jR 1 rfl qf
  refine oI rfl rfl<|qP 50 rfl rfl<|oL rfl (H.rowBool 1 rfl (iv:=i) (i:=i) qf qf)<|qP 50 rfl rfl<|sq 2<|zjn<|zX _ rfl (fun Ld=>?_)<|fun Ld=>?_
  ·replace Ld:=x8 Ld
   refine zcr<|sq 2<|sp (Bv false)<|zjr<|t_r<|zr5<|ret2 (Sv fP cM eA) (Bv false) rfl rfl rfl ⟨_,rfl,?_,H.base⟩
   rw[stop_first (k:=i) i1 qf ⟨by omega,Qz qf ‹_›⟩,xw<|fun h=>h.1 i qf ⟨by omega,Qz qf ‹_›⟩]
   exact⟨fP,cM,eA,iT,eO,rfl,N,H.pick [0] [0]⟩
  replace Ld:=xO Ld
  refine qZ<|t_n<|zcr<|sq 2<|oF rfl<|oL rfl (H.zo 1 rfl 2 rfl)<|sp (yI i) ?_
  obtain⟨b69,o70,rfl⟩:=H.addr 3 rfl qf
  obtain⟨ZV,aeH,adg,adf,acD,YB,abb,abr,agt,Yl,acv,acO,ajg,aiI,aiC,ahc,afg,aaT,H⟩:=H.Qa 3 rfl i i qf qf qf
  refine oI rfl rfl<|oF rfl<|oL rfl (H.zo 6 rfl 0 rfl)<|sq 1<|zjn<|Qd rfl H [1] fun H=>?_
  have S:=H.jF [1]<|zR 0 12
  refine rtl 0 S ?_
  refine rtl 1 S ?_
  refine rtl 2 S ?_
  refine rtl 3 S ?_
  obtain⟨Wx,rfl⟩:=H.jR 0 rfl qf
  have S:=H.jF [1]<|zR 0 12
  refine tI 4 rfl rfl rfl S ?_
  refine rtl 6 S ?_
  refine rtl 7 S ?_
  refine tF 8 rfl rfl S ?_
  refine tL 9 rfl rfl (fun _ h=>h.zo 8 rfl 2 rfl) S ?_
  refine rtp 10 (yI i) S ?_
  refine tI 11 rfl rfl rfl S ?_
  refine tF 12 rfl rfl S ?_
  refine tL 13 rfl rfl (fun _ h=>h.zo 6 rfl 2 rfl) S ?_
  refine rtl 14 S ?_
  refine rtp 15 (yI i) S ?_
  refine tI 16 rfl rfl rfl S ?_
  refine tL 17 rfl rfl (fun _ h=>h.zS 11 rfl i qf) S ?_
  refine rt 18 _ (y_neg (counts[i]!) rfl qf) S ?_
  refine ro 5 rfl ?_
  obtain⟨MP,MH,G77,s78,LG,H⟩:=H.jS 0 rfl 7 rfl (iv:=(s.qB[i]!).qY) (((s.qB[i]!).qY).toNat) qf qf
  refine zB (Sv MP (((yB s t counts i)[((s.qB[i]!).qY).toNat]!).length) MH) isAgg24 rfl (LG)<|⟨H.pick [1]<|zR 1 12,(ro 19 rfl ?_)⟩
  obtain⟨u1,u2⟩:=restR_row (c:=(s.qB[i]!).qY.toNat) p0 p1 p2 (show i<=_ by omega) qk
  have u3:=b1.len
  have u4:=b1.Qb (t:= -(counts[i]!)) qf
  refine oc (X3 _ ((yB s t counts i)[((s.qB[i]!).qY).toNat]!) ((s.qB[i]!).zJ) (-(counts[i]!)) (H.get 0 rfl).1 (H.get 1 rfl).1 qg qg qg) ?_
  rintro v85 w83 r85 x84
  replace H:=H.zO x84 r85
  obtain⟨a86,c87,rfl,aAW,axM⟩:=H.yc 0 rfl
  refine⟨H.pick [2]<|zR 1 12,(tI 20 rfl rfl rfl (H.pick [2]<|zR 1 12) ?_)⟩
  refine ro 21 rfl ?_
  obtain⟨G91,N,axK,H⟩:=H.zQ 0 rfl N<|H.vX [8]
  refine yu true H 1 rfl 9 rfl (Sv a86 ((jX ((yB s t counts i)[((s.qB[i]!).qY).toNat]!) ((s.qB[i]!).zJ) (-(counts[i]!))).length) c87) 0 rfl rfl sizeOf24 rfl rfl (i:=(((s.qB[i]!).qY).toNat)) qf qf qm fun KV az9 F94 amT H=>?_
  replace N:Fresh w.heap.size [F94]:=(N.pick [1,0]).repl amT
  refine⟨H.pick [2]<|zR 3 12,(xC qh<|b_n<|t_n<|xX<|sp (yI i)<|sw<|zC i 1 rfl rfl qf<|sq 1<|xZ<|xh (m':=(counts.length-((i+1):Int)).toNat) qf ⟨_,i+1,_,_,_,uE5,?_,?_,?_,rfl,N,H.pick [1,2] (0::zR 11 4)⟩)⟩
  ·rfl
  ·omega
  ·exact i1.succ (fun h=>by obtain⟨u,v⟩:=h;exact v<|Xa qf ‹_›)
 refine zx4<|zcc<|sp (yI 0)<|zjn<|xf<|zD ((fun Z0 Z1 Z2=>fun m' ρ WY=>∃(xN:Env) (aZ:Nat),ρ=upd (upd xN 9<|Sv fP cM eA) 13 (yI aZ)/\((aZ:Int)<=cM)/\(NonNeg (yB s t counts i) aZ)/\m'=(cM-(aZ:Int)).toNat/\Fresh w.heap.size [eO]/\St w WY [Z0,Z1] [Z2]) _ _ _) ((cM-(0:Int)).toNat) ⟨_,0,uE2,qf,qx,rfl,N,H.pick [0,1] [0]⟩ ?_
 clear H N
 rintro m' ρ NP ⟨xN,aZ,rfl,i0,i2,rfl,N,H⟩
 refine zcc<|sq 2<|oN rfl<|sq 1<|zjn<|cD rfl (fun h98=>?_)<|fun h98=>?_
 ·have r1:=(restR_row (c:=aZ) p0 p1 p2 (show i<=_ by omega)<|show aZ<jK s by omega).1
  refine qZ<|t_n<|xU<|xf<|zcr<|sp (yI 0)<|zjn<|xf<|zD ((fun Z0 Z1 Z2=>fun m' ρ Lu=>∃(xN:Env) (k:Nat),ρ=upd (upd (upd xN 9<|Sv fP cM eA) 13<|yI aZ) 14 (yI k)/\((k:Int)<=(((yB s t counts i)[aZ]!).length))/\(∀j,j<k->0<=((yB s t counts i)[aZ]!)[j]!)/\m'=((((yB s t counts i)[aZ]!).length)-(k:Int)).toNat/\Fresh w.heap.size [eO]/\St w Lu [Z0,Z1] [Z2]) _ _ _) (((((yB s t counts i)[aZ]!).length)-(0:Int)).toNat) ⟨_,0,uE3,qf,qx,rfl,N,H⟩ ?_
  clear H N
  rintro m' ρ HK ⟨xN,k,rfl,i0,i3,rfl,N,H⟩
  refine zcc<|sp (yI k)<|sq 2 ?_
  obtain⟨i9,rfl⟩:=H.jR 0 rfl qf
  refine oI rfl rfl ?_
  obtain⟨alj,alR,aom,awu,BL,H⟩:=H.jS 0 rfl 0 rfl (iv:=aZ) aZ qf qf
  refine oL rfl (BL)<|oN rfl<|sq 1<|zjn<|cD rfl (fun apm=>?_)<|fun apm=>?_
  ·refine qZ (t_n<|xU<|xf<|zcr<|sq 2<|oI rfl rfl ?_)
   obtain⟨ahd,ahB,Tv,ao1,RZ,H⟩:=H.jS 0 rfl 1 rfl (iv:=aZ) aZ qf qf
   refine oL rfl (RZ)<|sp (yI k) ?_
   obtain⟨E2,awZ,rfl⟩:=H.addr 0 rfl qf
   refine oI rfl rfl<|oL rfl (H.zS 0 rfl k qf)<|sp (Bv<|decide ((((yB s t counts i)[aZ]!)[k]! :Int)<0))<|zjn<|cD rfl (fun ajZ=>?_)<|fun ajZ=>?_
   ·refine zcr (sq 2<|sp (Bv false)<|zjr<|b_r<|t_r<|t_r<|b_r<|zr5<|ret2 (Sv (aa i9 0) cM eA) (Bv false) rfl rfl rfl ⟨_,rfl,?_,H.base⟩)
    obtain rfl:i=counts.length:=by omega
    rw[stop_none (n:=counts.length) i1,xw (fun h=>by have:=h.2 aZ qf k qf;omega)]
    exact⟨(aa i9 0),cM,eA,iT,eO,rfl,N,H.pick [0] [2]⟩
   refine qZ<|b_n<|t_n<|xX<|sp (yI k)<|sw<|zC k 1 rfl rfl qf<|sq 1<|xZ<|xh (m':=((((yB s t counts i)[aZ]!).length)-((k+1):Int)).toNat) qf ⟨_,k+1,uE3,?_,?_,rfl,N,H.pick [0,1] [2]⟩
   ·omega
   ·exact fun j hj=>by(by_cases e:j=k;(subst e;omega);exact i3 j qf)
  refine VR<|t_x<|t_x<|b_x<|b_n<|t_n<|xX<|sq 1<|sw<|zC aZ 1 rfl rfl qf<|sq 1<|xZ<|xh (m':=(cM-((aZ+1):Int)).toNat) qf ⟨_,aZ+1,uE2,?_,?_,rfl,N,H.pick [0,1] [1]⟩
  ·omega
  ·exact i2.succ<|fun j hj=>i3 j qf
 refine zx4<|zcr<|sq 2<|sp (Bv true)<|zjr<|ret2 (Sv fP cM eA) (Bv true) rfl rfl rfl ⟨_,rfl,?_,H.base⟩
 obtain rfl:i=counts.length:=by omega
 rw[stop_none (n:=counts.length) i1,jP ⟨i1,(show aZ=t.qQ.length by omega)▸i2⟩]
 exact⟨fP,cM,eA,iT,eO,rfl,N,H.pick [0] [0]⟩
end
section
def FullOk(ad:yLL)(ai:yLI):Prop:=∀i,i<ad.length->within (ad[i]!) ai=false
def FullTo(ad:yLL)(ai:yLI)(k:Nat):Prop:=∀i,i<k->within (ad[i]!) ai=false
theorem FullTo.succ(h:FullTo ad ai k)(h1:within (ad[k]!) ai=false):FullTo ad ai (k+1):=fun j hj=>by
 by_cases e:j=k
 ·subst e;exact h1
 ·exact h j qf
open Classical in
noncomputable def packs(ad:yLL):Nat->Nat->yLI->yLL
 |0,_,ai=>if FullOk ad ai then [[]] else []
 |f+1,k,ai=>(List.range ((jd (ad[k]!) ai).toNat+1)).flatMap fun(n:Nat)=>(packs ad f (k+1)<|jX ai (ad[k]!) (-(n:Int))).map ((n:Int) :: ·)
noncomputable def yZ(ad:yLL)(f k:Nat)(ai:yLI)(m:Nat):yLL:=
 (List.range m).flatMap fun(n:Nat)=>(packs ad f (k+1)<|jX ai (ad[k]!) (-(n:Int))).map ((n:Int) :: ·)
theorem packs_succ(ad:yLL)(f k:Nat)(ai:yLI):packs ad (f+1) k ai=yZ ad f k ai ((jd (ad[k]!) ai).toNat+1):=rfl
theorem packsTo_zero(ad:yLL)(f k:Nat)(ai:yLI):yZ ad f k ai 0=[]:=rfl
theorem packsTo_succ(ad:yLL)(f k:Nat)(ai:yLI)(m:Nat):
 yZ ad f k ai (m+1)=yZ ad f k ai m++(packs ad f (k+1)<|jX ai (ad[k]!) (-(m:Int))).map ((m:Int) :: ·):=by
 simp[yZ,List.range_succ]
theorem packs_full(h:FullOk ad ai):packs ad 0 k ai=[[]]:=by rw[packs,if_pos h]
theorem packs_none(h:¬FullOk ad ai):packs ad 0 k ai=[]:=by rw[packs,if_neg h]
def gath(out aW:yLL):yLL:=(out++aW).take 2001
theorem gath_nil{out:yLL}(h:out.length<=2001):gath out []=out:=by unfold gath;rw[List.append_nil];exact List.take_of_length_le h
theorem gath_one{out:yLL}{x:yLI}(h:out.length<=2000):gath out [x]=out++[x]:=by
 unfold gath;rw[List.take_of_length_le];simp;omega
theorem gath_len(out aW:yLL):(gath out aW).length<=2001:=by simp[gath];omega
theorem gath_room{out aW:yLL}(h:(gath out aW).length<=2000):gath out aW=out++aW:=by
 unfold gath at *
 rw[List.length_take] at h
 exact List.take_of_length_le qf
theorem gath_cat{out a:yLL}(h:(gath out a).length<=2000):gath (gath out a) b=gath out (a++b):=by
 rw[gath_room h];simp[gath]
theorem gath_stop{out a:yLL}(h:¬(gath out a).length<=2000):gath out a=gath out (a++b):=by
 unfold gath at *
 rw[List.length_take] at h
 rw[←List.append_assoc]
 exact(List.take_append_of_le_length (l₁:=out++a) (l₂:=b) qf).symm
def begins(b:yLI)(l:yLL):yLL:=l.map (b++·)
theorem begins_cat(b:yLI)(l m:yLL):begins b (l++m)=begins b l++begins b m:=by simp[begins]
theorem begins_cons(b:yLI)(n:Int)(l:yLL):begins b (l.map (n :: ·))=begins (b++[n]) l:=by simp[begins]
theorem begins_nil(l:yLL):begins [] l=l:=by simp[begins]
theorem begins_one(b:yLI):begins b [[]]=[b]:=by simp[begins]
theorem gath_step{m:Nat}{b:yLI}{out:yLL}(h:(gath out<|begins b<|yZ ad f k ai m).length<=2000):
 gath (gath out<|begins b<|yZ ad f k ai m) (begins (b++[(m:Int)])<|packs ad f (k+1)<|jX ai (ad[k]!) (-(m:Int)))=gath out (begins b<|yZ ad f k ai<|m+1):=by
 rw[gath_cat h,packsTo_succ,begins_cat,begins_cons]
theorem packsTo_more{ad:yLL}{f k:Nat}{ai:yLI}:∀ {m M:Nat},m<=M->∃aW,yZ ad f k ai M=yZ ad f k ai m++aW
  | m, 0, h => ⟨[], by obtain rfl : m = 0 := by omega
                       simp⟩
  | m,M+1,h=>by
    by_cases e:m=M+1
    · subst e;exact⟨[],by simp⟩
    · obtain ⟨aW,hm⟩:=packsTo_more (ad:=ad) (f:=f) (k:=k) (ai:=ai) (show m<=M by omega)
      exact⟨_,by rw[packsTo_succ,hm,List.append_assoc]⟩
theorem gath_end{m:Nat}{b:yLI}{out:yLL}(hm:m<=(jd (ad[k]!) ai).toNat+1)(h:m=(jd (ad[k]!) ai).toNat+1\/¬(gath out<|begins b<|yZ ad f k ai m).length<=2000):
 gath out (begins b<|yZ ad f k ai m)=gath out (begins b<|packs ad (f+1) k ai):=by
 rw[packs_succ]
 rcases h with h|h
 ·rw[h]
 ·obtain⟨aW,e⟩:=packsTo_more (ad:=ad) (f:=f) (k:=k) (ai:=ai) hm
  rw[e,begins_cat]
  exact gath_stop h
open Classical in
noncomputable def y5(b:yLI)(ad:yLL):yLL×Int:=
 if Xr b>16 then ([],3) else if (packs ad ad.length 0 b).length>2000 then ([],3) else (packs ad ad.length 0 b,0)
theorem gath_all{l:yLL}:(gath [] l).length>2000<->l.length>2000:=by unfold gath;rw[List.nil_append,List.length_take];omega
theorem gath_few{l:yLL}(h:¬l.length>2000):gath [] l=l:=by unfold gath;rw[List.nil_append];exact List.take_of_length_le qf
theorem packs_len{ad:yLL}:∀ {f k:Nat} {ai x:yLI},x∈packs ad f k ai->x.length=f
 |0,k,ai,x,h=>by
  rw[packs] at h
  split at h
  ·obtain rfl:=List.mem_singleton.1 h;rfl
  ·simp at h
 |f+1,k,ai,x,h=>by
  rw[packs,List.mem_flatMap] at h
  obtain⟨n,_,h⟩:=h
  obtain⟨y,hy,rfl⟩:=List.mem_map.1 h
  rw[List.length_cons,packs_len hy]
def Yc(K:Nat)(ad:yLL):Prop:=∀i,i<ad.length->(ad[i]!).length=K/\(∀q,q<K->0<=(ad[i]!)[q]! /\(ad[i]!)[q]! <=1000)/\∃j,j<K/\0<(ad[i]!)[j]!
def RestOk(K:Nat)(ai:yLI):Prop:=ai.length=K/\∀q,q<K->0<=ai[q]! /\ai[q]! <=1000
def VV(ad:yLL)(ai:yLI):Prop:=∃K,K<=8/\Yc K ad/\RestOk K ai/\ad.length<=8
theorem times_bd(hP:Yc K ad)(hR:RestOk K ai)(hk:k<ad.length):0<=jd (ad[k]!) ai/\jd (ad[k]!) ai<=1000:=
 X0 (fun q hq=>(hR.2 q (by have:=(hP k hk).1;omega)).1) _ (Nat.le_refl _)
theorem take_get(hP:Yc K ad)(hR:RestOk K ai)(hk:k<ad.length){n:Int}(h0:0<=n)(h1:n<=jd (ad[k]!) ai)(hq:q<K):
 0<=ai[q]! + -n*(ad[k]!)[q]! /\ai[q]! + -n*(ad[k]!)[q]! <=ai[q]! :=by
 obtain⟨hl,hb,_⟩:=hP k hk
 have a:=timesL_left (l:=ad[k]!) (m:=ai) (fun j hj=>(hb j qf).1) (fun j hj=>(hR.2 j qf).1) (k:=q) qf
 have b:=Int.mul_le_mul_of_nonneg_right h1 (hb q hq).1
 have c:=Int.mul_nonneg h0 (hb q hq).1
 have d: -n*(ad[k]!)[q]! = -(n*(ad[k]!)[q]!):=Int.neg_mul ..
 have e: -(jd (ad[k]!) ai)*(ad[k]!)[q]! = -(jd (ad[k]!) ai*(ad[k]!)[q]!):=Int.neg_mul ..
 omega
theorem RestOk.take(hP:Yc K ad)(hR:RestOk K ai)(hk:k<ad.length){n:Int}(h0:0<=n)(h1:n<=jd (ad[k]!) ai):RestOk K (jX ai (ad[k]!) (-n)):=by
 refine⟨by rw[Xh];exact hR.1,fun q hq=>?_⟩
 rw[XM (by have:=hR.1;omega)]
 have:=take_get hP hR hk h0 h1 hq
 have:=hR.2 q hq
 omega
theorem VV.times(h:VV ad ai)(hk:k<ad.length):
 (ad[k]!).length<=ai.length/\(∀q,q<(ad[k]!).length->0<=ai[q]! /\ai[q]! <=1000)/\(∃j,j<(ad[k]!).length/\0<(ad[k]!)[j]!)/\ai.length<=8/\0<=jd (ad[k]!) ai/\jd (ad[k]!) ai<=1000:=by
 obtain⟨K,hK,hP,hR,hn⟩:=h
 obtain⟨hl,hb,hj⟩:=hP k hk
 have ht:=times_bd hP hR hk
 refine⟨by have:=hR.1;omega,fun q hq=>hR.2 q qf,by rw[hl];exact hj,by have:=hR.1;omega,ht⟩
theorem VV.plus(h:VV ad ai)(hk:k<ad.length){n:Int}(h0:0<=n)(h1:n<=jd (ad[k]!) ai):
 ai.length<=(ad[k]!).length/\Mid ai/\SmallT (ad[k]!) (-n)/\VV ad (jX ai (ad[k]!) (-n)):=by
 obtain⟨K,hK,hP,hR,hn⟩:=h
 obtain⟨hl,hb,hj⟩:=hP k hk
 have ht:=times_bd hP hR hk
 refine⟨by have:=hR.1;omega,⟨by have:=hR.1;omega,fun q hq=>by have:=hR.2 q (by have:=hR.1;omega);omega⟩,fun q hq=>?_,K,hK,hP,hR.take hP hk h0 h1,hn⟩
 have a:=hb q qf
 have b:=Int.mul_nonneg h0 a.1
 have c:=Int.mul_le_mul (show n<=1000 by omega) a.2 a.1 qf
 have d: -n*(ad[k]!)[q]! = -(n*(ad[k]!)[q]!):=Int.neg_mul ..
 omega
theorem VV.small(h:VV ad ai):ai.length<=8/\ad.length<=8:=by
 obtain⟨K,hK,_,hR,hn⟩:=h
 exact⟨by have:=hR.1;omega,hn⟩
theorem VV.smallB(h:VV ad ai):Small ai:=by
 obtain⟨K,hK,_,hR,hn⟩:=h
 exact⟨by have:=hR.1;omega,fun q hq=>by have:=hR.2 q (by have:=hR.1;omega);omega⟩
theorem pack_step{out:yLL}(hf:aM.length+f=ad.length)(hp:aM.length<ad.length)
 (h:(gath out<|begins aM<|yZ ad (f-1) aM.length ai n).length<=2000):
 gath (gath out<|begins aM<|yZ ad (f-1) aM.length ai n) (begins (aM ++[(n:Int)])<|packs ad (ad.length-(aM ++[(n:Int)]).length) (aM ++[(n:Int)]).length<|jX ai (ad[aM.length]!) (-(n:Int)))=
  gath out (begins aM<|yZ ad (f-1) aM.length ai<|n+1):=by
 rw[←gath_step h,List.length_append,List.length_cons,List.length_nil,show ad.length-(aM.length+(0+1))=f-1 by omega]
theorem pack_start{out:yLL}(h:out.length<=2000):out=gath out (begins aM<|yZ ad f aM.length ai 0):=by
 rw[packsTo_zero];exact(gath_nil qf).symm
theorem pack_full{out:yLL}(hl:aM.length=ad.length)(h:FullOk ad ai)(ho:out.length<=2000):
 gath out (begins aM<|packs ad (ad.length-aM.length) aM.length ai)=out++[aM]:=by
 rw[show ad.length-aM.length=0 by omega,packs_full h,begins_one,gath_one ho]
theorem pack_none{out:yLL}(hl:aM.length=ad.length)(h:¬FullOk ad ai)(ho:out.length<=2000):
 gath out (begins aM<|packs ad (ad.length-aM.length) aM.length ai)=out:=by
 rw[show ad.length-aM.length=0 by omega,packs_none h];exact gath_nil qf
theorem pack_end{out:yLL}(hf:aM.length+f=ad.length)(hp:aM.length<ad.length)(hn:(n:Int)<=jd (ad[aM.length]!) ai+1)
 (h0:0<=jd (ad[aM.length]!) ai) (h:¬(n:Int)<=jd (ad[aM.length]!) ai\/¬((gath out<|begins aM<|yZ ad (f-1) aM.length ai n).length:Int)<=2000):
 gath out (begins aM<|packs ad (ad.length-aM.length) aM.length ai)=gath out (begins aM<|yZ ad (f-1) aM.length ai n):=by
 obtain⟨f,rfl⟩:∃g,f=g+1:=⟨f-1,by omega⟩
 rw[show ad.length-aM.length=f+1 by omega]
 rw[show f+1-1=f from rfl] at h ⊢
 exact(gath_end qf (by rcases h with h|h;(left;omega);(right;omega))).symm
theorem all_a{b:yLI}(h:Xr b>16):y5 b ad=([],3):=by rw[y5,if_pos h]
theorem all_b{b:yLI}(h:¬Xr b>16)(h1:((gath ([]:yLL)<|begins ([]:yLI)<|packs ad (ad.length-([]:yLI).length) ([]:yLI).length b).length:Int)>2000):y5 b ad=([],3):=by
 replace h1:(gath []<|begins []<|packs ad (ad.length-0) 0 b).length>2000:=by have:((gath []<|begins []<|packs ad (ad.length-0) 0 b).length:Int)>2000:=h1;omega
 rw[begins_nil] at h1
 have h2:(packs ad ad.length 0 b).length>2000:=gath_all.1 h1
 rw[y5,if_neg h,if_pos h2]
theorem all_0{b:yLI}(h:¬Xr b>16)(h1:¬((gath ([]:yLL)<|begins ([]:yLI)<|packs ad (ad.length-([]:yLI).length) ([]:yLI).length b).length:Int)>2000):
 y5 b ad=(gath ([]:yLL)<|begins ([]:yLI)<|packs ad (ad.length-([]:yLI).length) ([]:yLI).length b,0):=by
 show y5 b ad=(gath []<|begins []<|packs ad (ad.length-0) 0 b,0)
 replace h1:¬(gath []<|begins []<|packs ad (ad.length-0) 0 b).length>2000:=fun h=>h1 (by have:((gath []<|begins []<|packs ad (ad.length-0) 0 b).length:Int)>2000:=qf;exact this)
 rw[begins_nil] at h1 ⊢
 have h2:¬(packs ad ad.length 0 b).length>2000:=fun h=>h1<|gath_all.2 h
 rw[y5,if_neg h,if_neg h2,show ad.length-0=ad.length from rfl,gath_few h2]
theorem fmap_le{α β:Type}{c:Nat}(g:α->List β):∀(l:List α),(∀x∈l,(g x).length<=c)->(l.flatMap g).length<=l.length*c
 | [],_=>by simp
 |x::l,h=>by
  have h1:=h x<|List.mem_cons_self ..
  have h2:=fmap_le g l fun y hy=>h y<|List.mem_cons_of_mem _ hy
  rw[List.flatMap_cons,List.length_append,List.length_cons,Nat.add_mul,Nat.one_mul]
  omega
theorem within_more(hP:Yc K ad)(hR:RestOk K ai)(hk:k<ad.length){n:Int}(h0:0<=n)(h1:n<jd (ad[k]!) ai):
 within (ad[k]!) (jX ai (ad[k]!) (-n))=true:=by
 rw[within_iff]
 intro q hq
 obtain⟨hl,hb,_⟩:=hP k hk
 rw[XM (by have:=hR.1;omega)]
 have a:=(take_get hP hR hk (show 0<=n+1 by omega) qf (q:=q) qf).1
 have d: -n*(ad[k]!)[q]! = -(n*(ad[k]!)[q]!):=Int.neg_mul ..
 have e: -(n+1)*(ad[k]!)[q]! = -((n+1)*(ad[k]!)[q]!):=Int.neg_mul ..
 have g:(n+1)*(ad[k]!)[q]! =n*(ad[k]!)[q]! +(ad[k]!)[q]! :=by rw[Int.add_mul,Int.one_mul]
 omega
theorem within_none(hP:Yc K ad)(hR:RestOk K ai)(hk:k<ad.length)(hb:jd (ad[k]!) ai<1000):
 within (ad[k]!) (jX ai (ad[k]!) (-(jd (ad[k]!) ai)))=false:=by
 rw[Bool.eq_false_iff]
 intro hw
 rw[within_iff] at hw
 obtain⟨hl,hbb,_⟩:=hP k hk
 have D3:∀j,j<=(ad[k]!).length->jd (ad[k]!) ai+1<=Qv (ad[k]!) ai j:=by
  intro j
  induction j with
  |zero=>intro _;rw[Qv];omega
  |succ j ih=>
   intro hj
   have hi:=ih qf
   rw[Qv]
   split
   ·next Tm=>
    have h1:=hw j qf
    rw[XM (by have:=hR.1;omega)] at h1
    have e: -(jd (ad[k]!) ai)*(ad[k]!)[j]! = -(jd (ad[k]!) ai*(ad[k]!)[j]!):=Int.neg_mul ..
    have g:(jd (ad[k]!) ai+1)*(ad[k]!)[j]! =jd (ad[k]!) ai*(ad[k]!)[j]! +(ad[k]!)[j]! :=by rw[Int.add_mul,Int.one_mul]
    have:=(Int.le_ediv_iff_mul_le Tm).2<|show (jd (ad[k]!) ai+1)*(ad[k]!)[j]! <=ai[j]! by omega
    omega
   ·exact hi
 have:=D3 _<|Nat.le_refl _
 unfold jd at this
 omega
theorem within_less{m':yLI}(hl:l.length=K)(h:within l m=false)(Ky:∀q,q<K->m'[q]! <=m[q]!):within l m'=false:=by
 rw[Bool.eq_false_iff] at h ⊢
 intro hw
 rw[within_iff] at hw
 exact h<|within_iff.2 fun q hq=>Int.le_trans (hw q hq)<|Ky q qf
def Few(K:Nat)(ai:yLI):Prop:=∀q,q<K->ai[q]! <=16
theorem Few.take(hF:Few K ai)(hP:Yc K ad)(hR:RestOk K ai)(hk:k<ad.length){n:Int}(h0:0<=n)(h1:n<=jd (ad[k]!) ai):Few K (jX ai (ad[k]!) (-n)):=fun q hq=>by
 rw[XM (by have:=hR.1;omega)]
 have:=take_get hP hR hk h0 h1 hq
 have:=hF q hq
 omega
theorem times_few(hF:Few K ai)(hP:Yc K ad)(hR:RestOk K ai)(hk:k<ad.length):jd (ad[k]!) ai<=16:=by
 obtain⟨hl,hb,j,hj,Tm⟩:=hP k hk
 have h1:=timesTo_le (l:=ad[k]!) (m:=ai) (k:=(ad[k]!).length) (j:=j) qf Tm
 have h2:ai[j]! / (ad[k]!)[j]! <=16:=by
  exact Int.le_trans (Int.ediv_le_self _ (hR.2 j hj).1)<|hF j hj
 unfold jd
 omega
theorem packs_ne{K:Nat}{ad:yLL}(hP:Yc K ad):∀(f k:Nat) (ai:yLI),k+f=ad.length->RestOk K ai->Few K ai->FullTo ad ai k->packs ad f k ai≠[]
 |0,k,ai,hk,hR,hF,hT=>by
  rw[packs_full<|fun i hi=>hT i qf];simp
 |f+1,k,ai,hk,hR,hF,hT=>by
  have hb:=times_bd hP hR (k:=k) qf
  have FC:=times_few hF hP hR (k:=k) qf
  have h1:=packs_ne hP f (k+1) (jX ai (ad[k]!) (-(jd (ad[k]!) ai))) qf (hR.take hP qf hb.1<|Int.le_refl _) (hF.take hP hR qf hb.1<|Int.le_refl _) (by
   refine FullTo.succ (fun i hi=>?_) (within_none hP hR qf qf)
   refine within_less (K:=K) (hP i qf).1 (hT i hi) fun q hq=>?_
   rw[XM (by have:=hR.1;omega)]
   exact(take_get hP hR qf hb.1 (Int.le_refl _) hq).2)
  obtain⟨x,hx⟩:=List.exists_mem_of_ne_nil _ h1
  refine List.ne_nil_of_mem (a:=jd (ad[k]!) ai::x) ?_
  rw[packs,List.mem_flatMap]
  have e:(((jd (ad[k]!) ai).toNat:Nat):Int)=jd (ad[k]!) ai:=by omega
  refine⟨(jd (ad[k]!) ai).toNat,List.mem_range.2 qf,List.mem_map.2 ⟨x,?_,by rw[e]⟩⟩
  rw[e];exact hx
theorem packs_few{K:Nat}{ad:yLL}(hP:Yc K ad):∀(f k:Nat) (ai:yLI),k+(f+1)=ad.length->RestOk K ai->Few K ai->(packs ad (f+1) k ai).length<=17 ^ f
 |0,k,ai,hk,hR,hF=>by
  rw[packs_succ,packsTo_succ,List.length_append,List.length_map]
  have h1:yZ ad 0 k ai (jd (ad[k]!) ai).toNat=[]:=by
   rw[yZ,List.flatMap_eq_nil_iff]
   intro n hn
   rw[List.mem_range] at hn
   rw[packs_none<|fun h=>?_,List.map_nil]
   have h2:=within_more hP hR (k:=k) qf (n:=(n:Int)) qf qf
   rw[h k qf] at h2
   cases h2
  rw[h1,List.length_nil,Nat.zero_add,packs]
  split <;> simp
 |f+1,k,ai,hk,hR,hF=>by
  have hb:=times_bd hP hR (k:=k) qf
  have FC:=times_few hF hP hR (k:=k) qf
  rw[packs]
  refine Nat.le_trans (fmap_le (c:=17 ^ f) _ _ fun n hn=>?_) ?_
  ·rw[List.mem_range] at hn
   rw[List.length_map]
   exact packs_few hP f (k+1) _ qf (hR.take hP qf qf qf)<|hF.take hP hR qf qf qf
  ·rw[List.length_range,Nat.pow_succ,Nat.mul_comm]
   exact Nat.mul_le_mul_left _ qf
theorem sum_few(hR:RestOk K ai)(h:Xr ai<=16):Few K ai:=by
 have D3:∀n,n<=ai.length->0<=sumTo ai n/\∀q,q<n->ai[q]! <=sumTo ai n:=by
  intro n
  induction n with
  |zero=>intro _;exact⟨by simp[sumTo],fun q hq=>by omega⟩
  |succ n ih=>
   intro hn
   have hi:=ih qf
   have hr:=hR.2 n (by have:=hR.1;omega)
   rw[sumTo]
   refine⟨by omega,fun q hq=>?_⟩
   by_cases e:q=n
   ·subst e;omega
   ·have:=hi.2 q qf;omega
 intro q hq
 have:=(D3 ai.length<|Nat.le_refl _).2 q (by have:=hR.1;omega)
 unfold Xr at h
 omega
end
section
section
variable{α : Type}
def pickL(l:List α)(n:Nat)(is:yLN):List α:=(is.filterMap fun i=>l[i]?)++l.drop n
def pickI(len n:Nat)(is:yLN):yLN:=is++(List.range<|len-n).map (·+n)
theorem pickI_map(l:List α)(n:Nat)(is:yLN)(h:is.all (fun i=>Nat.blt i n)=true)(hn:n<=l.length):(pickI l.length n is).map (fun i=>l[i]?)=(pickL l n is).map some:=by
 unfold pickI pickL
 rw[List.map_append,List.map_append]
 congr 1
 ·refine pick_some l is ?_
  rw[List.all_eq_true] at h ⊢
  intro i hi
  have:=h i hi
  simp only[Nat.blt_eq] at this ⊢
  omega
 ·apply List.ext_getElem?
  intro i
  rcases Nat.lt_or_ge i (l.length-n) with h1|h1
  ·simp[h1,Nat.add_comm]
  ·simp[h1]
theorem pickI_nodup(len n:Nat)(is:yLN)(h:is.all (fun i=>Nat.blt i n)=true)(hd:is.Nodup):(pickI len n is).Nodup:=by
 unfold pickI
 refine List.nodup_append.2 ⟨hd,?_,?_⟩
 ·exact List.Pairwise.map _ (fun a b (Ij:a≠b)=>by omega) List.nodup_range
 ·intro a ha b hb
  rw[List.all_eq_true] at h
  have:=h a ha
  simp only[Nat.blt_eq] at this
  obtain⟨c,_,rfl⟩:=List.mem_map.1 hb
  omega
end
section
variable{W0 w : World}{ps : List Prv}{Γ : List Fact}
theorem St.vU(H:St W0 w ps Γ)(n m:Nat)(is js:yLN)(hn:n<=ps.length)(hm:m<=Γ.length)(hi:is.all (fun i=>Nat.blt i n)=true:=by exact rfl)(hj:js.all (fun i=>Nat.blt i m)=true:=by exact rfl)(hd:is.Nodup:=by decide):
 St W0 w (pickL ps n is) (pickL Γ m js):=
 H.pick (pickI ps.length n is) (pickI Γ.length m js) (pickI_map ps n is hi hn) (pickI_map Γ m js hj hm) (pickI_nodup _ _ _ hi hd)
theorem St.y9{mR :List Prv}{Γ':List Fact}(H:St W0 w ps Γ)(n m:Nat)(is js:yLN)(hn:n<=ps.length)(hm:m<=Γ.length)
 (hp:pickL ps n is=mR :=by simp only[pickL,List.filterMap_cons,List.filterMap_nil,List.getElem?_cons_zero,List.getElem?_cons_succ,List.drop_succ_cons,List.drop_zero,List.cons_append,List.nil_append];exact rfl)
 (hg:pickL Γ m js=Γ':=by simp only[pickL,List.filterMap_cons,List.filterMap_nil,List.getElem?_cons_zero,List.getElem?_cons_succ,List.drop_succ_cons,List.drop_zero,List.cons_append,List.nil_append];exact rfl)
 (hi:is.all (fun i=>Nat.blt i n)=true:=by exact rfl) (hj:js.all (fun i=>Nat.blt i m)=true:=by exact rfl) (hd:is.Nodup:=by decide):St W0 w mR Γ':=hp▸hg▸H.vU n m is js hn hm hi hj hd
theorem Fresh.vU{B:Nat}(N:Fresh B L)(n:Nat)(is:yLN)(hn:n<=L.length)(hi:is.all (fun i=>Nat.blt i n)=true:=by exact rfl)(hd:is.Nodup:=by decide):Fresh B (pickL L n is):=
 N.pick (pickI L.length n is) (pickI_map L n is hi hn) (pickI_nodup _ _ _ hi hd)
def Kept(Ns:List yLN)(Γ:List Fact):Prop:=∀F∈Ns,∃f∈Γ,f.F=F
theorem Kept.up(h:Kept Ns Γ)(f:Fact):Kept Ns (f::Γ):=fun F hF=>by
 obtain⟨g,h1,h2⟩:=h F hF
 exact⟨g,List.mem_cons_of_mem _ h1,h2⟩
theorem Kept.behind(h:Kept Ns Γ)(m:Nat)(e:Γ'.drop m=Γ):Kept Ns Γ':=fun F hF=>by
 obtain⟨g,h1,h2⟩:=h F hF
 exact⟨g,List.mem_of_mem_drop<|e▸h1,h2⟩
theorem Kept.nil(Γ:List Fact):Kept [] Γ:=fun F hF=>by cases hF
theorem Kept.cons(h:Kept Ns Γ)(i:Nat){f:Fact}(hf:Γ[i]? =some f)(e:f.F=F):Kept (F::Ns) Γ:=fun G hG=>by
 rcases List.mem_cons.1 hG with rfl|hG
 ·exact⟨f,List.mem_of_getElem? hf,e⟩
 ·exact h G hG
theorem St.ltK(H:St W0 w ps Γ)(h:Kept Ns Γ):∀F∈Ns,∀b∈F,b<w.heap.size:=fun F hF b hb=>by
 obtain⟨f,h1,h2⟩:=h F hF
 exact((H.facts f h1).2 b<|h2▸hb).1
theorem St.XI(H:St W0 w ps Γ)(h:Kept Ns Γ):∀F∈Ns,∀b∈F,∀i,yO ps i≠some b:=fun F hF b hb=>by
 obtain⟨f,h1,h2⟩:=h F hF
 exact((H.facts f h1).2 b<|h2▸hb).2
theorem all_two{M:List yLN}{p:Nat->Prop}(h1:∀F∈L,∀b∈F,p b)(h2:∀F∈M,∀b∈F,p b):∀F∈L++M,∀b∈F,p b:=fun F hF b hb=>
 (List.mem_append.1 hF).elim (fun h=>h1 F h b hb) fun h=>h2 F h b hb
end
theorem XT[Dfr]{P:Program}{Q:Exit->Act->World->Prop}{l:List Oper}{id:Nat}(hm:P.follows .mixedOrders=true)(H:St W0 w ps Γ)(is js:yLN)
 (k:St W0 w.drew ps Γ->RW P l Q (fun w=>St W0 w (is.filterMap fun i=>ps[i]?)<|js.filterMap fun i=>Γ[i]?) n l.toArray.size (Array.replicate l.toArray.size false) ρ w.drew)
 (hi:is.all (fun i=>Nat.blt i ps.length)=true:=by simp) (hj:js.all (fun i=>Nat.blt i Γ.length)=true:=by simp) (hd:is.Nodup:=by decide):(Code.region id l.toArray true).wp P Q (mk n ρ) w:=by
 have H':=H.ext<|ext_drew _
 exact c_draw (fun w=>St W0 w (is.filterMap fun i=>ps[i]?)<|js.filterMap fun i=>Γ[i]?) hm (H'.pick is js (pick_some ps is hi) (pick_some Γ js hj) hd)<|k H'
theorem ve[Dfr]{P:Program}{Q:Exit->Act->World->Prop}{d:Nat}{ty:TypeId}{pos:String}{af:Array Edge}{K:Env->World->Prop}{x:Operand}{xs:Array Operand}{ts:Array TypeId}{f:FuncId}{fst mu:Array Value}{R:Value->World->Prop}(args:Array Value)(hv:ev n ρ x=.func (.func f) fst mu)
 (kM:fst.toList++xs.toList.map (ev n ρ)++mu.toList=args.toList) (hf:∀args w,(callFunc f args).run P w=.ok (.enter f args) w)
 (hc:Calls P f args w fun e w'=>∃v,e=.returned v/\R v w') (k:∀v w',R v w' ->K (upd ρ d v) w'):OW P Q ⟨some d,.call ⟨.value x,xs,ts⟩,ty,pos,af,none⟩ n ρ w K:=
 zW args hv kM hf (hc.mono fun _ w' ⟨v,he,hR⟩=>⟨v,he,k v w' hR⟩)
end
section
theorem l01Full_ok(w:World)(ai:yLI)(ad:yLL){bB:yOA}{bz:Nat}{dy:yLN}(wr:zP w dy bB bz ai)(bR:zP w aD vw zT ad)(p0:VV ad ai):Calls Tryz.prog 221 #[Sv bB ai.length bz,Sv vw ad.length zT] w (Ret (fun v w'=>v=Bv (dec<|FullOk ad ai)) w):=by
 refine en func221 ntmps221 ?_
 have H:=((St.start w).arg bR).arg wr
 have nu:=qR bR
 clear wr bR
 have N:=Fresh.nil w.heap.size
 refine zcr<|sp (Bv false)<|zjcc<|sp (yI 0)<|zjn<|xf<|zD ((fun Z0 Z1=>fun m' ρ w1=>∃(xN:Env) (i:Nat),ρ=upd (upd (upd xN 0<|Sv bB ai.length bz) 1<|Sv vw ad.length zT) 5 (yI i)/\((i:Int)<=ad.length)/\(FullTo ad ai i)/\m'=(ad.length-(i:Int)).toNat/\Fresh w.heap.size []/\St w w1 [] [Z0,Z1]) _ _) ((ad.length-(0:Int)).toNat) ⟨_,0,uE3,qf,qx,rfl,N,H⟩ ?_
 clear H N
 rintro m' ρ w2 ⟨xN,i,rfl,i0,i1,rfl,N,H⟩
 refine zcc<|sp (yI i)<|sq 1<|oN rfl<|sq 1<|zjn<|cD rfl (fun h3=>?_)<|fun h3=>?_
 ·refine qZ (t_n<|xU<|xf<|zcr<|sq 1<|sp (yI i) ?_)
  obtain⟨b4,o5,rfl⟩:=H.addr 1 rfl qf
  obtain⟨ae7,ce7,Fe7,H⟩:=H.jo 1 rfl i i qf qf qf
  refine oI rfl rfl<|oL rfl (H.zo 1 rfl 0 rfl)<|sq 1 ?_
  obtain⟨t1,t2⟩:=p0.times (k:=i) qf
  refine sw<|oq (l01Within_ok _ (ad[i]!) ai (H.get 0 rfl).1 (H.get 2 rfl).1 qg) H fun w9 H=>zjn<|zX _ rfl (fun aV=>?_)<|fun aV=>?_
  ·refine zcr (sp (Bv false)<|zjr<|zr5<|rH1 (Bv false) H ?_)
   rw[xw (fun h=>by have:=h i qf;simp_all)]
  refine qZ<|b_n<|t_n<|xX<|sp (yI i)<|sw<|zC i 1 rfl rfl qf<|sq 1<|xZ<|xh (m':=(ad.length-((i+1):Int)).toNat) qf ⟨_,i+1,uE3,?_,?_,rfl,N,H.pick [] [2,3]⟩
  ·omega
  ·exact i1.succ ‹_›
 refine zx4<|zcr<|sp (Bv true)<|zjr<|rH1 (Bv true) H ?_
 rw[jP<|show FullOk ad ai from fun j hj=>i1 j qf]
def l01Pack_ok_S(f:Nat):Prop:=∀ {W0 w:World} {ps:List Prv} {Γ:List Fact} {Ns:List yLN} (ai:yLI) (ad:yLL) (yj:yLI) (out:yLL) (bB:yOA) (bz:Nat) (dy:yLN) (vw:yOA) (zT:Nat) (aD:yLN) (fB:yOA) (fX:Nat) (kY:yLN) (pr:Nat) (dh:yOA) (li:Nat) (de:Nat) (db:List Value) (aX:yLN) (H:St W0 w ((.box pr [Sv dh li de] 29)::(rr dh li de 24 1 db)::ps) ((sF false dy bB bz ai)::(sF false aD vw zT ad)::(sF false kY fB fX yj)::(xG true aX db out)::Γ)) (N:Fresh W0.heap.size (aX::Ns)) (K0:Kept Ns Γ) (p0:yj.length+f=ad.length) (p1:VV ad ai) (p2:out.length<=2000),Calls Tryz.prog 213 #[Sv bB ai.length bz,Sv vw ad.length zT,Sv fB yj.length fX,pp pr 0] w (fun e w'=>∃v,e=.returned v/\∃(fL:yOA) (fd:Nat) (fE:Nat) (fq:List Value) (fy:yLN),v=.tuple #[]/\Fresh W0.heap.size (fy::Ns)/\St W0 w' ((.box pr [Sv fL fd fE] 29)::(rr fL fd fE 24 1 fq)::ps) ((sF false dy bB bz ai)::(sF false aD vw zT ad)::(sF false kY fB fX yj)::(xG true fy fq<|gath out<|begins yj<|packs ad (ad.length-yj.length) yj.length ai)::Γ))
theorem l01Pack_ok_step(f:Nat)(IH:∀k,k<f->l01Pack_ok_S k)(ai:yLI)(ad:yLL)(yj:yLI)(out:yLL)(bB:yOA)(bz:Nat)(dy:yLN)(vw:yOA)(zT:Nat)(aD:yLN)(fB:yOA)(fX:Nat)(kY:yLN)(pr:Nat)(dh:yOA)(li:Nat)(de:Nat)(db:List Value)(aX:yLN)(H:St W0 w ((.box pr [Sv dh li de] 29)::(rr dh li de 24 1 db)::ps) ((sF false dy bB bz ai)::(sF false aD vw zT ad)::(sF false kY fB fX yj)::(xG true aX db out)::Γ))(N:Fresh W0.heap.size (aX::Ns))(K0:Kept Ns Γ)(p0:yj.length+f=ad.length)(p1:VV ad ai)(p2:out.length<=2000):Calls Tryz.prog 213 #[Sv bB ai.length bz,Sv vw ad.length zT,Sv fB yj.length fX,pp pr 0] w (fun e w'=>∃v,e=.returned v/\∃(fL:yOA) (fd:Nat) (fE:Nat) (fq:List Value) (fy:yLN),v=.tuple #[]/\Fresh W0.heap.size (fy::Ns)/\St W0 w' ((.box pr [Sv fL fd fE] 29)::(rr fL fd fE 24 1 fq)::ps) ((sF false dy bB bz ai)::(sF false aD vw zT ad)::(sF false kY fB fX yj)::(xG true fy fq<|gath out<|begins yj<|packs ad (ad.length-yj.length) yj.length ai)::Γ)):=by
 refine en func213 ntmps213 ?_
 have nu:=qR (H.get 1 rfl).1
 have aiK:=qR (H.get 2 rfl).1
 obtain rfl:=H.xQ (α:=yLI) 1 rfl 3 rfl qj
 have p3:=p1.small
 refine zcr<|sq 1<|oN rfl<|sq 1<|zjcc<|sq 2<|oN rfl<|sq 1<|zjn<|cE rfl (fun h1=>?_)<|fun h1=>?_
 ·refine zcc (sq 2<|sw<|oq (l01Full_ok _ ai ad (H.get 0 rfl).1 (H.get 1 rfl).1 qg) H fun w3 H=>zjn<|cP rfl (fun h5=>?_)<|fun h5=>?_)
  ·refine VD (fun ρ rL=>∃(xN:Env) (a6:yOA) (c7:Nat) (a8:yOA) (c9:Nat) (G10:yLN),ρ=xN/\Fresh W0.heap.size ((aX++G10)::Ns)/\St W0 rL ((.box pr [Sv a6 (out.length+1) c7] 29)::(rr a6 (out.length+1) c7 24 1<|db++[Sv a8 yj.length c9])::ps) ((xG true (aX++G10) (db++[Sv a8 yj.length c9])<|out++[yj])::(sF true G10 a8 c9 yj)::(sF false dy bB bz ai)::(sF false aD vw zT ad)::(sF false kY fB fX yj)::Γ)) ?_ ?_
   ·refine XT rfl H [] [0,1,2,3] fun H=>?_
    have S:=H.jF []<|zR 0 4
    refine rtl 0 S ?_
    refine rtl 1 S ?_
    refine rtl 2 S ?_
    refine rtl 4 S ?_
    refine zY [3,5] qh qm<|vG rfl ?_<|vG rfl ?_ zZ
    ·refine zB (Sv dh out.length de) isAgg29 rfl (H.cell 0 rfl rfl) (⟨H.pick []<|zR 0 4,(ro 5 rfl ?_)⟩)
     refine oc (XX _ yj (H.get 2 rfl).1 qg) ?_
     rintro v18 KX uR x17
     replace H:=H.zO x17 uR
     obtain⟨a19,c20,rfl,azb,azf⟩:=H.yc 0 rfl
     refine⟨H.pick []<|zR 0 4,(ro 6 rfl<|zl H underlying29 ti24 [Sv a19 yj.length c20] fun zw Ks H=>⟨H.pick []<|zR 0 4,(ro 7 rfl ?_)⟩)⟩
     obtain⟨G28,N,aw7,H⟩:=H.zQ 1 rfl N<|fun F hF b hb=>(List.mem_append.1<|show F∈[aX]++Ns from hF).elim (fun h=>(H.vX (L:=[aX]) [3]) F h b hb) fun h=>H.XI (K0.behind 4 rfl) F h b hb
     dsimp only[List.set] at H
     refine zt H 3 rfl 0 rfl underlying29 ti24 rfl qj rfl rfl rfl qw qp qf fun a25 c26 BA H=>?_
     dsimp only[List.set] at H
     replace H:=H.yh 4 rfl 0 rfl
     replace N:Fresh W0.heap.size ((aX++G28)::Ns):=(N.vU 2 [1,0] qo).join
     refine⟨H.pick []<|zR 2 4,(rtl 8 (H.pick []<|zR 2 4) ?_)⟩
     refine ro 9 rfl<|xn H 2 [Sv a25 (out.length+1) c26] sizeOf29 fun BB H=>?_
     dsimp only[List.set] at H
     refine⟨H.pick []<|zR 2 4,(xC qh ((meet ⟨_,a25,c26,a19,c20,G28,(by exact rfl),N,H.vU 4 6 [2,3] (zR 0 5) qo qo⟩)))⟩
    refine oc (XX _ yj (H.get 2 rfl).1 qg) ?_
    rintro v36 Gj r36 x35
    replace H:=H.zO x35 r36
    obtain⟨a37,c38,rfl,auP,avr⟩:=H.yc 0 rfl
    refine⟨H.pick []<|zR 0 4,(zY [3,6] qh qm<|vG rfl ?_<|vG rfl ?_ zZ)⟩
    ·refine zB (Sv dh out.length de) isAgg29 rfl (H.cell 1 rfl rfl) (⟨H.pick []<|zR 0 4,(ro 6 rfl<|zl H underlying29 ti24 [Sv a37 yj.length c38] fun b41 KE H=>⟨H.pick []<|zR 0 4,(ro 7 rfl ?_)⟩)⟩)
     obtain⟨G46,N,avG,H⟩:=H.zQ 1 rfl N<|fun F hF b hb=>(List.mem_append.1<|show F∈[aX]++Ns from hF).elim (fun h=>(H.vX (L:=[aX]) [3]) F h b hb) fun h=>H.XI (K0.behind 4 rfl) F h b hb
     dsimp only[List.set] at H
     refine zt H 3 rfl 0 rfl underlying29 ti24 rfl qj rfl rfl rfl qw qp qf fun a43 c44 LQ H=>?_
     dsimp only[List.set] at H
     replace H:=H.yh 4 rfl 0 rfl
     replace N:Fresh W0.heap.size ((aX++G46)::Ns):=(N.vU 2 [1,0] qo).join
     refine⟨H.pick []<|zR 2 4,(rtl 8 (H.pick []<|zR 2 4) ?_)⟩
     refine ro 9 rfl<|xn H 2 [Sv a43 (out.length+1) c44] sizeOf29 fun Lc H=>?_
     dsimp only[List.set] at H
     refine⟨H.pick []<|zR 2 4,(xC qh ((meet ⟨_,a43,c44,a37,c38,G46,(by exact rfl),N,H.vU 4 6 [2,3] (zR 0 5) qo qo⟩)))⟩
    refine zl H underlying29 ti24 [Sv a37 yj.length c38] fun Lq Pt H=>⟨H.pick []<|zR 0 4,(ro 3 rfl<|zB (Sv dh out.length de) isAgg29 rfl (H.cell 2 rfl rfl)<|⟨H.pick []<|zR 0 4,(ro 7 rfl ?_)⟩)⟩
    obtain⟨U8,N,aoF,H⟩:=H.zQ 1 rfl N<|fun F hF b hb=>(List.mem_append.1<|show F∈[aX]++Ns from hF).elim (fun h=>(H.vX (L:=[aX]) [3]) F h b hb) fun h=>H.XI (K0.behind 4 rfl) F h b hb
    dsimp only[List.set] at H
    refine zt H 3 rfl 0 rfl underlying29 ti24 rfl qj rfl rfl rfl qw qp qf fun a51 c52 LJ H=>?_
    dsimp only[List.set] at H
    replace H:=H.yh 4 rfl 0 rfl
    replace N:Fresh W0.heap.size ((aX++U8)::Ns):=(N.vU 2 [1,0] qo).join
    refine⟨H.pick []<|zR 2 4,(rtl 8 (H.pick []<|zR 2 4) ?_)⟩
    refine ro 9 rfl<|xn H 2 [Sv a51 (out.length+1) c52] sizeOf29 fun G3 H=>?_
    dsimp only[List.set] at H
    refine⟨H.pick []<|zR 2 4,(xC qh ((meet ⟨_,a51,c52,a37,c38,U8,(by exact rfl),N,H.vU 4 6 [2,3] (zR 0 5) qo qo⟩)))⟩
   clear H N
   rintro ρ Lf ⟨xN,a6,c7,a8,c9,G10,rfl,N,H⟩
   refine t_n<|c_ret<|t_r<|ret0' rfl ⟨_,rfl,?_⟩
   rw[pack_full qf ‹_› p2]
   exact⟨a6,out.length+1,c7,db++[Value.slice a8 yj.length c9],(aX++G10),rfl,N,H.vU 2 5 [0,1] [2,3,4,0] qo qo⟩
  refine qZ<|t_n<|c_ret<|t_r<|ret0' rfl ⟨_,rfl,?_⟩
  rw[pack_none qf ‹_› p2]
  exact⟨dh,out.length,de,db,aX,rfl,N,H.vU 2 4 [0,1] (zR 0 4) qo qo⟩
 refine qZ<|t_n<|zcr<|sp (yI 0)<|zjn<|xf ?_
 obtain⟨t1,t2,t3,t4,t5,t6⟩:=p1.times (k:=yj.length) qf
 refine zD ((fun Z0 Z1 Z2=>fun m' ρ Ny=>∃(xN:Env) (n:Nat) (jZ:yOA) (vV:Nat) (jQ:Nat) (bL:yLL) (Xf:List Value) (y8:yLN),ρ=upd (upd (upd (upd (upd (upd xN 0<|Sv bB ai.length bz) 1<|Sv vw ad.length zT) 2<|Sv fB yj.length fX) 3<|pp pr 0) 8<|yI yj.length) 9 (yI n)/\bL=gath out (begins yj<|yZ ad (f-1) yj.length ai n)/\((n:Int)<=jd (ad[yj.length]!) ai+1)/\m'=(jd (ad[yj.length]!) ai+1-(n:Int)).toNat/\Fresh W0.heap.size (y8::Ns)/\St W0 Ny ((.box pr [Sv jZ vV jQ] 29)::(rr jZ vV jQ 24 1 Xf)::ps) (Z0::Z1::Z2::(xG true y8 Xf bL)::Γ)) _ _ _) ((jd (ad[yj.length]!) ai+1-(0:Int)).toNat) ⟨_,0,dh,out.length,de,out,db,aX,uE6,(by exact pack_start p2),qf,rfl,N,H⟩ ?_
 clear H N
 rintro m' ρ N9 ⟨xN,n,jZ,vV,jQ,bL,Xf,y8,rfl,rfl,i0,rfl,N,H⟩
 have bQ:=H.xQ (α:=yLI) 1 rfl 3 rfl qj
 have gl:=gath_len out<|begins yj<|yZ ad (f-1) yj.length ai n
 refine zcc<|sp (yI n)<|sq 2 ?_
 obtain⟨GO,Ls,rfl⟩:=H.addr 1 rfl qf
 obtain⟨MT,Mz,Yz,H⟩:=H.jo 1 rfl yj.length yj.length qf qf qf
 refine oI rfl rfl<|oL rfl (H.zo 1 rfl 0 rfl)<|sq 1 ?_
 obtain⟨t1,t2,t3,t4,t5,t6⟩:=p1.times (k:=yj.length) qf
 refine sw<|oq (l01Times_ok _ (ad[yj.length]!) ai (H.get 0 rfl).1 (H.get 2 rfl).1 qg qg qg) H fun LE H=>sp (Bv<|decide ((n:Int)<=(jd (ad[yj.length]!) ai)))<|sp (Bv<|decide ((n:Int)<=(jd (ad[yj.length]!) ai))) ?_
 cases BC:(decide ((n:Int)<=(jd (ad[yj.length]!) ai)))
 ·replace BC:=of_decide_eq_false BC
  refine xY (zR 37 5)<|sp (Bv false)<|zjn<|cFr rfl<|VR<|t_x<|t_x<|b_x<|ret0 rfl ⟨_,rfl,?_⟩
  rw[pack_end p0 qf qf qf<|by(left;omega)]
  exact⟨jZ,vV,jQ,Xf,y8,rfl,N,H.vU 2 6 [0,1] (zR 2 4) qo qo⟩
 replace BC:=of_decide_eq_true BC
 refine qP 36 rfl rfl<|sq 1<|qP 36 rfl rfl<|sq 1<|qP 36 rfl rfl<|oL rfl (H.cell 0 rfl rfl)<|qP 36 rfl rfl<|oN rfl<|qP 36 rfl rfl<|sp (Bv<|decide ((vV:Int)<=2000))<|sp (Bv<|decide ((vV:Int)<=2000))<|zjn<|cD rfl (fun Ld=>?_)<|fun Ld=>?_
 ·refine qZ (t_n<|xU<|xf<|xX<|sq 3<|oI rfl rfl<|oL rfl (H.zo 1 rfl 0 rfl)<|sp (yI n)<|sw<|o_neg n rfl qf ?_)
  obtain⟨u1,u2,u3,u4⟩:=p1.plus (k:=yj.length) qf (n:=(n:Int)) qf qf
  refine sw<|oc (X3 _ ai (ad[yj.length]!) (-n) (H.get 2 rfl).1 (H.get 0 rfl).1 qg qg qg) ?_
  rintro v74 I4 r74 x73
  replace H:=H.zO x73 r74
  obtain⟨MP,MH,rfl,ayV,au3⟩:=H.yc 0 rfl
  refine sq 2<|sw<|oc (XX _ yj (H.get 4 rfl).1 qg) ?_
  rintro v84 w82 r84 x83
  replace H:=H.zO x83 r84
  obtain⟨a85,c86,rfl,axw,az0⟩:=H.yc 0 rfl
  refine sp (yI n)<|sw<|zl H underlying24 ti2 [yI n] fun Ga KV H=>sw<|zt H 1 rfl 0 rfl underlying24 ti2 rfl qj rfl rfl rfl qw qp qf fun Tl RV Vv H=>?_
  rw[snocI] at H
  dsimp only[List.set] at H
  refine sq 1 ?_
  obtain⟨KI,N,ay5,H⟩:=H.zQ 2 rfl N<|fun F hF b hb=>(List.mem_append.1<|show F∈[y8]++Ns from hF).elim (fun h=>(H.vX (L:=[y8]) [5]) F h b hb) fun h=>H.XI (K0.behind 6 rfl) F h b hb
  dsimp only[List.set] at H
  replace H:=H.unfreeI 0 rfl
  obtain⟨JB,N,aoK,H⟩:=H.zQ 1 rfl N<|fun F hF b hb=>(List.mem_append.1<|show F∈[KI,y8]++Ns from hF).elim (fun h=>(H.vX (L:=[KI,y8]) [0,7]) F h b hb) fun h=>H.XI (K0.behind 8 rfl) F h b hb
  dsimp only[List.set] at H
  replace H:=H.unfreeI 0 rfl
  have afY:=H.isLen 0 rfl
  have H1:St W0 Vv ((.box pr [Sv jZ vV jQ] 29)::(.row (Sv jZ vV jQ) 24 1 vV Xf)::(.box Ga [yI n] 2)::(.row yN 0 1 0 [])::(.row yN 0 1 0 [])::ps) ((isF false KI (Sv MP ((jX ai (ad[yj.length]!) (-n)).length) MH)<|jX ai (ad[yj.length]!) (-n))::(isF false aD (Sv (aa GO Ls) ad.length zT) ad)::(isF false JB (Sv Tl ((yj++[(n:Int)]).length) RV)<|yj++[(n:Int)])::(xG true y8 Xf<|gath out<|begins yj<|yZ ad (f-1) yj.length ai n)::(isF false JB (Sv Tl (yj.length+1) RV)<|yj++[(n:Int)])::(isF true JB (Sv Tl (yj.length+1) RV)<|yj++[(n:Int)])::(isF false KI (Sv MP ((jX ai (ad[yj.length]!) (-n)).length) MH)<|jX ai (ad[yj.length]!) (-n))::(isF true KI (Sv MP ((jX ai (ad[yj.length]!) (-n)).length) MH)<|jX ai (ad[yj.length]!) (-n))::(isF false Yz (Sv MT ((ad[yj.length]!).length) Mz)<|ad[yj.length]!)::(atF GO (Ls+(yj.length:Int).toNat*1) [Sv MT ((ad[yj.length]!).length) Mz])::(isF false dy (Sv bB ai.length bz) ai)::(isF false aD (Sv (aa GO Ls) ad.length zT) ad)::(isF false kY (Sv fB yj.length fX) yj)::Γ):=by(rw[←afY]);exact H.vU 5 10 [3,4,0,1,2] (2::7::0::9::zR 0 9) qo qo
  have N1:Fresh _ (y8::JB::KI::Ns):=(N.vU 3 [2,0,1] qo)
  have K1:Kept (Ns) ((isF false JB (Sv Tl (yj.length+1) RV)<|yj++[(n:Int)])::(isF true JB (Sv Tl (yj.length+1) RV)<|yj++[(n:Int)])::(sF false KI MP MH<|jX ai (ad[yj.length]!) (-n))::(sF true KI MP MH<|jX ai (ad[yj.length]!) (-n))::(sF false Yz MT Mz<|ad[yj.length]!)::(atF GO (Ls+(yj.length:Int).toNat*1) [Sv MT ((ad[yj.length]!).length) Mz])::(sF false dy bB bz ai)::(sF false aD (aa GO Ls) zT ad)::(sF false kY fB fX yj)::Γ):=K0.behind 9 rfl
  replace K1:=K1.cons (F:=KI) 2 rfl rfl
  replace K1:=K1.cons (F:=JB) 0 rfl rfl
  refine sw<|ve #[Sv MP ((jX ai (ad[yj.length]!) (-n)).length) MH,Sv (aa GO Ls) ad.length zT,Sv Tl (yj.length+1) RV,pp pr 0] rfl rfl call213 (Qu (by rw[afY])<|IH (f-1) qf (jX ai (ad[yj.length]!) (-n)) ad (yj++[(n:Int)]) (gath out<|begins yj<|yZ ad (f-1) yj.length ai n) MP MH KI (aa GO Ls) zT aD Tl RV JB pr jZ vV jQ Xf y8 H1 N1 K1 (by simp only[List.length_append,List.length_cons,List.length_nil];omega) (by assumption)<|by omega) ?_
  clear H H1 N1 K1
  rintro _ Lu ⟨arQ,Zo,aqh,atD,aq1,rfl,N,H⟩
  obtain rfl:=H.xQ (α:=yLI) 1 rfl 3 rfl qj
  refine xZ<|b_n<|t_n<|xX<|sp (yI n)<|sw<|zC n 1 rfl rfl qf<|sq 1<|xZ<|xh (m':=(jd (ad[yj.length]!) ai+1-((n+1):Int)).toNat) qf ⟨_,n+1,_,_,_,_,_,_,uE6,?_,?_,rfl,(N.vU 3 [0] qo),H.vU 5 13 [0,1] [10,11,12,3] qo qo⟩
  ·exact pack_step p0 qf qf
  ·omega
 refine VR<|t_x<|t_x<|b_x<|ret0 rfl ⟨_,rfl,?_⟩
 rw[pack_end p0 qf qf qf<|by(right;omega)]
 exact⟨jZ,vV,jQ,Xf,y8,rfl,N,H.vU 2 6 [0,1] (zR 2 4) qo qo⟩
theorem l01Pack_ok(f:Nat):l01Pack_ok_S f:=Nat.strongRecOn (motive:=l01Pack_ok_S) f fun f IH=>by unfold l01Pack_ok_S;intros;apply l01Pack_ok_step f IH <;> assumption
theorem l01All_ok(w:World)(b:yLI)(ad:yLL)(hb:zP w Fb ab cb b)(bR:zP w aD vw zT ad)(p0:VV ad b):Calls Tryz.prog 190 #[Sv ab b.length cb,Sv vw ad.length zT] w (Ret (fun v w'=>∃(iI:yOA) (pJ:Nat) (iB:Nat) (re:List Value) (iP:yLN),v=.tuple #[Sv iI pJ iB,yI ((y5 b ad).2)]/\Fresh w.heap.size [iP]/\St w w' [rr iI pJ iB 24 1 re] [xG true iP re ((y5 b ad).1)]) w):=by
 refine en func190 ntmps190 ?_
 have H:=((St.start w).arg bR).arg hb
 have nu:=qR bR
 clear hb bR
 have N:=Fresh.nil w.heap.size
 have p3:=p0.small
 have p4:=p0.smallB
 refine zcr<|sq 1<|sp (yI 0)<|zjcc<|sq 1<|sw<|oq (Vz _ b (H.get 0 rfl).1<|by assumption) H fun w1 H=>sp (Bv<|decide ((Xr b:Int)>16))<|zjn<|cD rfl (fun h3=>?_)<|fun h3=>?_
 ·refine zcr (sw<|ja H underlying29 ti24 fun b4 w5 H=>sq 1<|sp (yI 3)<|zjr<|t_r ?_)
  replace H:=H.boxRow 0 rfl 1 0 rfl qj
  replace H:=H.vP (α:=yLI)
  refine ret2 (Sv (aa b4 0) 0 0) (yI 3) rfl rfl rfl ⟨_,rfl,?_,H.base⟩
  rw[all_a ql]
  exact⟨(aa b4 0),0,0,[],[],rfl,N.emp,H.pick [0] [0]⟩
 refine qZ<|t_n<|zcr<|sw<|ja H underlying29 ti24 fun b6 w7 H=>sw<|xg H ti29 [yN] fun b8 w9 H=>sw<|xn H 0 [Sv (aa b6 0) 0 0] sizeOf29 fun ov H=>zjc<|sq 2<|sw<|ja H underlying24 ti2 fun oO we H=>?_
 replace H:=H.boxRowI 0 [] 0
 obtain⟨NF,N,azS,H⟩:=H.zQ 0 rfl N<|H.vX []
 replace H:=H.unfreeI 0 rfl
 have acC:=H.isLen 0 rfl
 replace H:=H.boxRow 2 rfl 1 0 rfl qj
 replace H:=H.vP (α:=yLI)
 have H1:St w we [.box b8 [Sv (aa b6 0) 0 0] 29,.row (Sv (aa b6 0) 0 0) 24 1 0 [],.row yN 0 1 0 []] [isF false Fb (Sv ab b.length cb) b,isF false aD (Sv vw ad.length zT) ad,isF false NF (Sv (aa oO 0) (([]:yLI).length) 0) ([]:yLI),xG true [] [] ([]:yLL),isF false NF (Sv (aa oO 0) 0 0) ([]:yLI),isF true NF (Sv (aa oO 0) 0 0) ([]:yLI),isF false Fb (Sv ab b.length cb) b,isF false aD (Sv vw ad.length zT) ad]:=by(rw[←acC]);exact H.pick [1,2,0] [3,4,1,0,1,2,3,4]
 have N1:Fresh _ [[],NF]:=N.emp
 have K1:Kept [] [isF false NF (Sv (aa oO 0) 0 0) ([]:yLI),isF true NF (Sv (aa oO 0) 0 0) ([]:yLI),sF false Fb ab cb b,sF false aD vw zT ad]:=Kept.nil _
 replace K1:=K1.cons (F:=NF) 0 rfl rfl
 refine sw<|ve #[Sv ab b.length cb,Sv vw ad.length zT,Sv (aa oO 0) 0 0,pp b8 0] rfl rfl call213 (Qu (by rfl)<|l01Pack_ok (ad.length-([]:yLI).length) b ad ([]:yLI) ([]:yLL) ab cb Fb vw zT aD (aa oO 0) 0 NF b8 (aa b6 0) 0 0 [] [] H1 N1 K1 (by simp only[List.length_append,List.length_cons,List.length_nil];omega) (by assumption)<|by(simp only[List.length_nil];omega)) ?_
 clear H H1 N1 K1
 rintro _ KX ⟨xL,amX,YV,ap2,amM,rfl,N,H⟩
 obtain rfl:=H.xQ (α:=yLI) 1 rfl 3 rfl qj
 refine zjcc<|oL rfl (H.cell 0 rfl rfl)<|oN rfl<|sp (Bv<|decide (((gath ([]:yLL)<|begins ([]:yLI)<|packs ad (ad.length-([]:yLI).length) ([]:yLI).length b).length:Int)>2000))<|zjn<|cD rfl (fun g8=>?_)<|fun g8=>?_
 ·refine zcr (sw<|ja H underlying29 ti24 fun gO tr H=>sq 1<|sp (yI 3)<|zjr<|t_r ?_)
  replace H:=H.boxRow 0 rfl 1 0 rfl qj
  replace H:=H.vP (α:=yLI)
  refine ret2 (Sv (aa gO 0) 0 0) (yI 3) rfl rfl rfl ⟨_,rfl,?_,H.base⟩
  rw[all_b ql ql]
  exact⟨(aa gO 0),0,0,[],[],rfl,(N.emp.pick [0]),H.pick [0] [0]⟩
 refine qZ<|t_n<|zcr<|oL rfl (H.cell 0 rfl rfl)<|sq 1<|sp (yI 0)<|zjr<|ret2 (Sv xL ((gath ([]:yLL)<|begins ([]:yLI)<|packs ad (ad.length-([]:yLI).length) ([]:yLI).length b).length) YV) (yI 0) rfl rfl rfl ⟨_,rfl,?_,H.base⟩
 rw[all_0 ql ql]
 exact⟨xL,(gath ([]:yLL)<|begins ([]:yLI)<|packs ad (ad.length-([]:yLI).length) ([]:yLI).length b).length,YV,ap2,amM,rfl,(N.pick [0]),H.pick [1] [3]⟩
end
section
def ahead(a b:yLI):Prop:=∃i,i<a.length/\(∀j,j<i->a[j]! =b[j]!)/\a[i]!<b[i]!
def SameTo(a b:yLI)(k:Nat):Prop:=∀j,j<k->a[j]! =b[j]!
theorem SameTo.succ{b:yLI}(h:SameTo a b k)(h1:a[k]! =b[k]!):SameTo a b (k+1):=fun j hj=>by
 by_cases e:j=k
 ·subst e;exact h1
 ·exact h j qf
theorem ahead_yes{b:yLI}(h:SameTo a b k)(hk:k<a.length)(h1:a[k]!<b[k]!):ahead a b:=⟨k,hk,h,h1⟩
theorem ahead_no{b:yLI}(h:SameTo a b k)(h1:¬a[k]!<b[k]!)(h2:a[k]! ≠b[k]!):¬ahead a b:=by
 rintro⟨i,hi,hs,hl⟩
 rcases Nat.lt_or_ge i k with hik|hik
 ·rw[h i hik] at hl;omega
 ·rcases Nat.lt_or_eq_of_le hik with Zf|Zf
  ·exact h2<|hs k Zf
  ·subst Zf;exact h1 hl
theorem ahead_same{b:yLI}(h:SameTo a b a.length):¬ahead a b:=by
 rintro⟨i,hi,_,hl⟩
 rw[h i hi] at hl;omega
theorem ahead_irr(a:yLI):¬ahead a a:=ahead_same fun _ _=>rfl
theorem ahead_trans{b c:yLI}(Ij:a.length=b.length)(h1:ahead a b)(h2:ahead b c):ahead a c:=by
 obtain⟨i,hi,hs,hl⟩:=h1
 obtain⟨k,hk,ht,hm⟩:=h2
 rcases Nat.lt_or_ge i k with h|h
 ·exact⟨i,hi,fun j hj=>(hs j hj).trans<|ht j qf,by rw[←ht i h];exact hl⟩
 ·rcases Nat.lt_or_eq_of_le h with h'|h'
  ·exact⟨k,by omega,fun j hj=>(hs j qf).trans<|ht j hj,by rw[hs k h'];exact hm⟩
  ·subst h'
   exact⟨k,hi,fun j hj=>(hs j hj).trans<|ht j hj,by omega⟩
theorem ahead_tri{b:yLI}(hl:a.length=b.length)(h1:¬ahead a b)(h2:¬ahead b a):a=b:=by
 have D3:∀k,k<=a.length->SameTo a b k:=by
  intro k
  induction k with
  |zero=>intro _ j hj;omega
  |succ k ih=>
   intro hk
   have hs:=ih qf
   refine hs.succ ?_
   apply Classical.byContradiction
   intro iQ
   rcases Int.lt_or_gt_of_ne iQ with h|h
   ·exact h1 ⟨k,by omega,hs,h⟩
   ·exact h2 ⟨k,by omega,fun j hj=>(hs j hj).symm,h⟩
 exact ext_get hl fun k hk=>D3 _ (Nat.le_refl _) k hk
def InOrder(l:yLL):Prop:=l.Pairwise fun a b=>¬ahead b a
theorem order_one{n:Nat}:∀ {l m:yLL},(∀x∈l,x.length=n)->l.Perm m->InOrder l->InOrder m->l=m
 | [],m,_,hp,_,_=>(List.Perm.nil_eq hp)
 |x::l,m,hn,hp,hl,hm=>by
  cases m with
  |nil=>exact absurd hp.length_eq qm
  |cons y m=>
   have KL :=List.pairwise_cons.1 hl
   have IOz :=List.pairwise_cons.1 hm
   have hy:y∈x::l:=hp.symm.subset<|List.mem_cons_self ..
   have hx:x∈y::m:=hp.subset<|List.mem_cons_self ..
   have e:x=y:=by
    rcases List.mem_cons.1 hx with h|h
    ·exact h
    ·rcases List.mem_cons.1 hy with h'|h'
     ·exact h'.symm
     ·exact ahead_tri ((hn x<|List.mem_cons_self ..).trans (hn y<|List.mem_cons_of_mem _ h').symm) (IOz.1 x h)<|KL.1 y h'
   subst e
   rw[order_one (fun z hz=>hn z<|List.mem_cons_of_mem _ hz) (List.Perm.cons_inv hp) KL.2 IOz.2]
def swapAt(l:yLL)(k:Nat):yLL:=(l.set k<|l[k-1]!).set (k-1)<|l[k]!
def OrderTo(l:yLL)(k:Nat):Prop:=InOrder<|l.take k
theorem orderTo_iff{l:yLL}(hk:k<=l.length):OrderTo l k<->∀i j,i<j->j<k->¬ahead (l[j]!) (l[i]!):=by
 unfold OrderTo InOrder
 rw[List.pairwise_iff_getElem]
 constructor
 ·intro h i j Kr hj
  have:=h i j (by rw[List.length_take];omega) (by rw[List.length_take];omega) Kr
  rw[List.getElem_take,List.getElem_take] at this
  rwa [getElem!_pos l i qf,getElem!_pos l j qf]
 ·intro h i j hi hj Kr
  rw[List.length_take] at hi hj
  rw[List.getElem_take,List.getElem_take,←getElem!_pos l i qf,←getElem!_pos l j qf]
  exact h i j Kr qf
theorem swap_len(l:yLL)(k:Nat):(swapAt l k).length=l.length:=by simp[swapAt]
theorem swap_get{l:yLL}(hk:0<k)(hl:k<l.length):(swapAt l k)[p]! =if p=k-1 then l[k]! else if p=k then l[k-1]! else l[p]! :=by
 unfold swapAt
 rw[getset<|by rw[List.length_set];omega,getset hl]
theorem swap_perm{l:yLL}(hk:0<k)(hl:k<l.length):(swapAt l k).Perm l:=by
 obtain⟨j,rfl⟩:∃j,k=j+1:=⟨k-1,by omega⟩
 have e1:l=l.take j++(l[j]! :: l[j+1]! :: l.drop (j+2)):=by
  rw[getElem!_pos l j qf,getElem!_pos l (j+1) hl]
  conv=>lhs;rw[←List.take_append_drop j l]
  rw[List.drop_eq_getElem_cons<|show j<l.length by omega,List.drop_eq_getElem_cons hl]
 have e2:swapAt l (j+1)=l.take j++(l[j+1]! :: l[j]! :: l.drop (j+2)):=by
  have jj:(l.take j).length=j:=List.length_take_of_le qf
  refine ext_get (by rw[swap_len];simp;omega) fun p hp=>?_
  rw[swap_len] at hp
  rw[swap_get hk hl]
  have hp':p<(l.take j++(l[j+1]! :: l[j]! :: l.drop (j+2))).length:=by simp;omega
  rw[getElem!_pos (l.take j++(l[j+1]! :: l[j]! :: l.drop (j+2))) p hp']
  by_cases h1:p<j
  ·rw[if_neg qf,if_neg qf,List.getElem_append_left qf,List.getElem_take,getElem!_pos l p hp]
  ·rw[List.getElem_append_right qf]
   simp only[jj]
   by_cases h2:p=j
   ·subst h2;simp
   ·by_cases h3:p=j+1
    ·subst h3;simp
    ·rw[if_neg qf,if_neg qf]
     obtain⟨q,rfl⟩:∃q,p=j+2+q:=⟨p-(j+2),by omega⟩
     rw[getElem!_pos l _ hp]
     have:j+2+q-j=q+1+1:=by omega
     simp only[this,List.getElem_cons_succ,List.getElem_drop]
 rw[e2]
 conv=>rhs;rw[e1]
 exact List.Perm.append_left _<|List.Perm.swap ..
def InsTo(l:yLL)(i k:Nat):Prop:=∀a b,a<b->b<=i->b≠k->¬ahead (l[b]!) (l[a]!)
theorem InsTo.start{l:yLL}(h:∀a b,a<b->b<i->¬ahead (l[b]!) (l[a]!)):InsTo l i i:=fun a b Ij hb iQ=>h a b Ij qf
theorem InsTo.down{l:yLL}(h:InsTo l i k)(hn:∀j,j<l.length->(l[j]!).length=n)(hk:0<k)(Zf:k<=i)(hi:i<l.length)(h1:ahead (l[k]!) (l[k-1]!)):InsTo (swapAt l k) i (k-1):=by
 intro a b Ij hb iQ
 have hlk:=hn k qf
 have avu:=hn (k-1) qf
 rw[swap_get hk qf,swap_get hk qf,if_neg iQ]
 by_cases Bx:b=k
 ·subst Bx
  rw[if_pos rfl]
  by_cases ha:a=b-1
  ·rw[if_pos ha]
   intro h2
   exact ahead_irr _<|ahead_trans qf h1 h2
  ·rw[if_neg ha,if_neg qf]
   exact h a (b-1) qf qf qf
 ·rw[if_neg Bx]
  by_cases ha:a=k-1
  ·rw[if_pos ha];exact h k b qf hb Bx
  ·rw[if_neg ha]
   by_cases KW:a=k
   ·rw[if_pos KW];exact h (k-1) b qf hb Bx
   ·rw[if_neg KW];exact h a b Ij hb Bx
theorem InsTo.stop{l:yLL}(h:InsTo l i k)(hn:∀j,j<l.length->(l[j]!).length=n)(Zf:k<=i)(hi:i<l.length)(h1:k=0\/¬ahead (l[k]!) (l[k-1]!)):∀a b,a<b->b<i+1->¬ahead (l[b]!) (l[a]!):=by
 intro a b Ij hb
 by_cases Bx:b=k
 ·subst Bx
  have h1:¬ahead (l[b]!) (l[b-1]!):=h1.resolve_left qf
  by_cases ha:a=b-1
  ·subst ha;exact h1
  ·intro h2
   have h3:=h a (b-1) qf qf qf
   have hla:=hn a qf
   have hlb:=hn b qf
   have aAB:=hn (b-1) qf
   by_cases h4:ahead (l[a]!) (l[b-1]!)
   ·exact h1<|ahead_trans qf h2 h4
   ·have e:=ahead_tri qf h4 h3
    rw[e] at h2;exact h1 h2
 ·exact h a b Ij qf Bx
noncomputable def cellT(s:qH)(t:qG)(k c:Nat):yLI:=(Yb s t k).filter fun x=>decide ((s.qB[x.toNat]!).qY=(c:Int))
theorem cellT_yes(h:Appl s t k)(hc:(s.qB[k]!).qY=(c:Int)):cellT s t k c++[(k:Int)]=cellT s t (k+1) c:=by
 unfold cellT;rw[←VT h,List.filter_append,List.filter_cons_of_pos<|by rw[Int.toNat_natCast];exact decide_eq_true hc,List.filter_nil]
theorem XQ(h:¬Appl s t k):cellT s t k c=cellT s t (k+1) c:=by
 unfold cellT;rw[←applL_no h]
theorem Xl(h:¬(s.qB[k]!).qY=(c:Int)):cellT s t k c=cellT s t (k+1) c:=by
 by_cases ha:Appl s t k
 ·unfold cellT;rw[←VT ha,List.filter_append,List.filter_cons_of_neg<|by rw[Int.toNat_natCast];simpa only[decide_eq_true_eq] using h,List.filter_nil,List.append_nil]
 ·exact XQ ha
def vY(s:qH)(l:yLI):yLL:=l.map fun x=>(s.qB[x.toNat]!).zJ
theorem Q7(s:qH)(l:yLI):(vY s l).length=l.length:=by simp[vY]
theorem needs_snoc(s:qH)(l:yLI)(x:Int):vY s l++[(s.qB[x.toNat]!).zJ]=vY s (l++[x]):=by simp[vY]
theorem needs_yes(h:Appl s t k)(hc:(s.qB[k]!).qY=(c:Int)):vY s (cellT s t k c)++[(s.qB[k]!).zJ]=vY s (cellT s t (k+1) c):=by
 rw[←cellT_yes h hc];exact needs_snoc s _ (k:Int)
theorem needs_take(h:k<l.length):vY s (l.take k)++[(s.qB[(l[k]!).toNat]!).zJ]=vY s (l.take<|k+1):=by rw[needs_snoc,take_snoc h]
theorem needs_get(h:k<l.length):(vY s l)[k]! =(s.qB[(l[k]!).toNat]!).zJ:=by
 rw[getElem!_pos (vY s l) k<|by rw[Q7];exact h];simp[vY,getElem!_pos l k h]
noncomputable def vW(s:qH)(t:qG)(c:Nat):yLI:=cellT s t s.qB.length c
noncomputable def cellP(s:qH)(t:qG)(c:Nat):yLL×Int:=y5 (t.qQ[c]!)<|vY s<|vW s t c
theorem mem_cellT{x:Int}(h:x∈cellT s t k c):0<=x/\x.toNat<k/\Appl s t x.toNat/\(s.qB[x.toNat]!).qY=(c:Int):=by
 unfold cellT at h
 obtain⟨h1,h2⟩:=List.mem_filter.1 h
 obtain⟨a,b,d⟩:=mem_applL.1 h1
 exact⟨a,b,d,by simpa using h2⟩
theorem cellT_at(h:j<(cellT s t k c).length):0<=(cellT s t k c)[j]! /\((cellT s t k c)[j]!).toNat<k/\Appl s t ((cellT s t k c)[j]!).toNat/\(s.qB[((cellT s t k c)[j]!).toNat]!).qY=(c:Int):=
 mem_cellT (by rw[getElem!_pos _ j h];exact List.getElem_mem h)
theorem cellR_at(h:j<(vW s t c).length):0<=(vW s t c)[j]! /\((vW s t c)[j]!).toNat<s.qB.length/\Appl s t ((vW s t c)[j]!).toNat/\(s.qB[((vW s t c)[j]!).toNat]!).qY=(c:Int):=cellT_at h
theorem ofCell_all{s:qH}(hs:vz s)(c:Int):∀k,k<=s.qB.length->VJ s.qB c k<=8
 |0,_=>by simp[VJ]
 |k+1,hk=>by
  have h:=ofCell_all hs c k qf
  by_cases e:(s.qB[k]!).qY=c
  ·have:=(hs.2.2 k qf).2;rw[e] at this;exact this
  ·rw[VJ,if_neg e];omega
theorem cellT_len{s:qH}{t:qG}{c:Nat}:∀k,((cellT s t k c).length:Int)<=VJ s.qB (c:Int) k
 |0=>by simp[cellT,Yb,VJ]
 |k+1=>by
  have h:=cellT_len (s:=s) (t:=t) (c:=c) k
  rw[VJ]
  by_cases e:(s.qB[k]!).qY=(c:Int)
  ·rw[if_pos e]
   by_cases ha:Appl s t k
   ·rw[←cellT_yes ha e,List.length_append,List.length_singleton];omega
   ·rw[←XQ ha];omega
  ·rw[if_neg e,←Xl e];omega
theorem cellT_le(s:qH)(t:qG)(k c:Nat):(cellT s t k c).length<=k:=Nat.le_trans (List.length_filter_le _ _)<|applL_le s t k
theorem cellR_len(hs:vz s)(c:Nat):(vW s t c).length<=8:=by
 have:=cellT_len (s:=s) (t:=t) (c:=c) s.qB.length
 have:=ofCell_all hs (c:Int) s.qB.length<|Nat.le_refl _
 unfold vW;omega
theorem cell_parts(hs:vz s)(c:Nat):Yc (yE s) (vY s<|vW s t c):=by
 intro i hi
 rw[Q7] at hi
 obtain⟨a1,a2,a3,a4⟩:=cellR_at hi
 rw[needs_get hi]
 have q:=hs.rule a2
 have b:=q.2.2.2.2.1
 have hl:=b.len
 have anJ:=q.2.2.2.2.2.2.2.2.2.1
 obtain⟨j,hj,hp⟩:=sum_pos b.1 anJ
 exact⟨hl,fun q' PT =>b.get qf,j,by omega,hp⟩
theorem cell_rest(ht:xK s t)(hc:c<t.qQ.length):RestOk (yE s) (t.qQ[c]!):=by
 have b:=(ht.2.2.2.2 c hc).1
 exact⟨b.len,fun q hq=>b.get (by have:=b.len;omega)⟩
theorem cell_pack(hs:vz s)(ht:xK s t)(hc:c<t.qQ.length):VV (vY s<|vW s t c) (t.qQ[c]!):=
 ⟨yE s,kinds_le hs,cell_parts hs c,cell_rest ht hc,by rw[Q7];exact cellR_len hs c⟩
theorem all_cases{b:yLI}:(y5 b ad=([],3))\/(Xr b<=16/\y5 b ad=(packs ad ad.length 0 b,0)/\(packs ad ad.length 0 b).length<=2000):=by
 unfold y5
 split
 ·exact .inl rfl
 ·split
  ·exact .inl rfl
  ·exact .inr ⟨by omega,rfl,by omega⟩
theorem all_len(b:yLI)(ad:yLL):(y5 b ad).1.length<=2000:=by
 rcases all_cases (b:=b) (ad:=ad) with h|⟨_,h,h1⟩ <;> rw[h]
 ·simp
 ·exact h1
theorem all_at{b:yLI}(h:x<(y5 b ad).1.length):((y5 b ad).1[x]!).length=ad.length:=by
 rcases all_cases (b:=b) (ad:=ad) with h1|⟨_,h1,_⟩
 ·rw[h1] at h;simp at h
 ·rw[h1] at h ⊢
  exact packs_len<|by rw[getElem!_pos _ x h];exact List.getElem_mem h
theorem all_code{b:yLI}(h:(y5 b ad).2≠0):(y5 b ad).2=3:=by
 rcases all_cases (b:=b) (ad:=ad) with h1|⟨_,h1,_⟩
 ·rw[h1]
 ·rw[h1] at h;exact absurd rfl h
def FewTo(s:qH)(t:qG)(k:Nat):Prop:=∀c,c<k->(vW s t c).length=0\/¬Xr (t.qQ[c]!)>16
theorem FewTo.succ(h:FewTo s t k)(h1:(vW s t k).length=0\/¬Xr (t.qQ[k]!)>16):FewTo s t (k+1):=fun j hj=>by
 by_cases e:j=k
 ·subst e;exact h1
 ·exact h j qf
def GoodP(s:qH)(t:qG)(k:Nat):Prop:=∀c,c<k->(vW s t c).length=0\/(cellP s t c).2=0
theorem GoodP.succ(h:GoodP s t k)(h1:(vW s t k).length=0\/(cellP s t k).2=0):GoodP s t (k+1):=fun j hj=>by
 by_cases e:j=k
 ·subst e;exact h1
 ·exact h j qf
theorem bad_sum(hc:c<n)(h:¬(vW s t c).length=0)(h1:Xr (t.qQ[c]!)>16):¬GoodP s t n:=fun hg=>by
 rcases hg c hc with h2|h2
 ·exact h h2
 ·unfold cellP at h2;rw[all_a h1] at h2;simp at h2
theorem bad_code(hc:c<n)(h:¬(vW s t c).length=0)(h1:¬(cellP s t c).2=0):¬GoodP s t n:=fun hg=>(hg c hc).elim h h1
noncomputable def VK(s:qH)(t:qG)(k:Nat):yLN:=(List.range k).filter fun c=>decide ((vW s t c).length≠0)
noncomputable def xP(s:qH)(t:qG)(k:Nat):yLL:=(VK s t k).map<|vW s t
noncomputable def zI(s:qH)(t:qG)(k:Nat):List yLL:=(VK s t k).map fun c=>(cellP s t c).1
theorem live_yes(h:¬(vW s t k).length=0):VK s t (k+1)=VK s t k++[k]:=by unfold VK;rw[List.range_succ,List.filter_append,List.filter_cons_of_pos (a:=k)<|by simpa only[decide_eq_true_eq] using h,List.filter_nil]
theorem live_no(h:(vW s t k).length=0):VK s t (k+1)=VK s t k:=by unfold VK;rw[List.range_succ,List.filter_append,List.filter_cons_of_neg<|by simp only[decide_eq_true_eq];exact fun x=>x h,List.filter_nil,List.append_nil]
theorem rules_yes(h:¬(vW s t k).length=0):xP s t k++[vW s t k]=xP s t (k+1):=by simp[xP,live_yes h]
theorem rules_no(h:(vW s t k).length=0):xP s t k=xP s t (k+1):=by simp[xP,live_no h]
theorem packsL_yes(h:¬(vW s t k).length=0):zI s t k++[(cellP s t k).1]=zI s t (k+1):=by simp[zI,live_yes h]
theorem packsL_no(h:(vW s t k).length=0):zI s t k=zI s t (k+1):=by simp[zI,live_no h]
theorem live_le(s:qH)(t:qG)(k:Nat):(VK s t k).length<=k:=by
 have:=List.length_filter_le (fun c=>decide ((vW s t c).length≠0))<|List.range k
 simpa [VK] using this
theorem rules_le(s:qH)(t:qG)(k:Nat):(xP s t k).length<=k:=by simpa [xP] using live_le s t k
theorem packsL_le(s:qH)(t:qG)(k:Nat):(zI s t k).length=(xP s t k).length:=by simp[zI,xP]
theorem live_at(h:i<(xP s t k).length):∃c,c<k/\¬(vW s t c).length=0/\(xP s t k)[i]! =vW s t c/\(zI s t k)[i]! =(cellP s t c).1:=by
 have hl:i<(VK s t k).length:=by simpa [xP] using h
 have hm:=List.mem_filter.1<|show (VK s t k)[i]∈VK s t k from List.getElem_mem hl
 refine⟨(VK s t k)[i],by simpa using hm.1,by simpa using hm.2,?_,?_⟩
 ·rw[getElem!_pos _ i h];simp[xP]
 ·rw[getElem!_pos _ i<|by rw[packsL_le];exact h];simp[zI]
def XK(all:List yLL):Nat->Nat
 |0=>1
 |k+1=>XK all k*(all[k]!).length
theorem prod_mul(all:List yLL)(k:Nat):((XK all k:Nat):Int)*((all[k]!).length:Int)=((XK all (k+1):Nat):Int):=by rw[XK,Int.natCast_mul]
theorem prod_mono{all:List yLL}{n:Nat}(h:∀j,j<n->all[j]! ≠[]):∀ {j i:Nat},i<=j->j<=n->XK all i<=XK all j
  | 0, i, hi, _ => by obtain rfl : i = 0 := by omega
                      exact Nat.le_refl _
  | j+1,i,hi,hj=>by
    by_cases e:i=j+1
    · subst e;exact Nat.le_refl _
    · have h1:=prod_mono h (show i<=j by omega) qf
      have h2:0<(all[j]!).length:=List.length_pos_iff.2<|h j qf
      rw[XK]
      exact Nat.le_trans h1<|Nat.le_mul_of_pos_right _ h2
theorem prod_pre{l:List yLL}{x:yLL}:∀ {k:Nat},k<=l.length->XK (l++[x]) k=XK l k
 |0,_=>rfl
 |k+1,h=>by
  rw[XK,XK,prod_pre qf]
  congr 1
  rw[getElem!_pos (l++[x]) k qy,getElem!_pos l k qf,List.getElem_append_left]
theorem prod_snoc(l:List yLL)(x:yLL):XK (l++[x]) (l++[x]).length=XK l l.length*x.length:=by
 rw[List.length_append,List.length_singleton,XK,prod_pre<|Nat.le_refl _]
 congr 1
 rw[getElem!_pos (l++[x]) l.length qm];simp
theorem cellP_ne(hs:vz s)(ht:xK s t)(hc:c<t.qQ.length)(h:(cellP s t c).2=0):(cellP s t c).1≠[]:=by
 unfold cellP at h ⊢
 rcases all_cases (b:=t.qQ[c]!) (ad:=vY s<|vW s t c) with h1|⟨h0,h1,_⟩
 ·rw[h1] at h;simp at h
 ·rw[h1]
  exact packs_ne (cell_parts hs c) _ 0 _ (Nat.zero_add _) (cell_rest ht hc) (sum_few (cell_rest ht hc) h0) fun i hi=>by omega
theorem cellP_few(hs:vz s)(ht:xK s t)(hc:c<t.qQ.length)(hr:¬(vW s t c).length=0):(cellP s t c).1.length<=17 ^ ((vW s t c).length-1):=by
 unfold cellP
 rcases all_cases (b:=t.qQ[c]!) (ad:=vY s<|vW s t c) with h1|⟨h0,h1,_⟩
 ·rw[h1];simp
 ·rw[h1]
  have:=packs_few (cell_parts (t:=t) hs c) ((vW s t c).length-1) 0 _ (by rw[Q7];omega) (cell_rest ht hc)<|sum_few (cell_rest ht hc) h0
  rw[Q7,show (vW s t c).length=(vW s t c).length-1+1 by omega]
  exact this
noncomputable def sumR(s:qH)(t:qG):Nat->Nat
 |0=>0
 |k+1=>sumR s t k+(vW s t k).length
theorem filter_two(f:Int->Int)(k:Int):∀(l:yLI),(l.filter fun x=>decide<|f x<k+1).length=(l.filter fun x=>decide<|f x<k).length+(l.filter fun x=>decide<|f x=k).length
 | []=>rfl
 |x::l=>by
  have h:=filter_two f k l
  simp only[List.filter_cons]
  by_cases h1:f x<k
  ·rw[if_pos qy,if_pos<|by simpa using h1,if_neg qy];simp only[List.length_cons];omega
  ·by_cases h2:f x=k
   ·rw[if_pos qy,if_neg<|by simpa using h1,if_pos<|by simpa using h2];simp only[List.length_cons];omega
   ·rw[if_neg qy,if_neg<|by simpa using h1,if_neg<|by simpa using h2];exact h
theorem sumR_eq(s:qH)(t:qG):∀k,sumR s t k<=((appls s t).filter fun x=>decide ((s.qB[x.toNat]!).qY<(k:Int))).length
 |0=>Nat.zero_le _
 |k+1=>by
  have h:=sumR_eq s t k
  have h2:=filter_two (fun x=>(s.qB[x.toNat]!).qY) (k:Int)<|appls s t
  rw[sumR,show ((k+1:Nat):Int)=(k:Int)+1 by omega,h2]
  exact Nat.add_le_add h<|Nat.le_refl _
theorem sumR_le(hs:vz s)(k:Nat):sumR s t k<=16:=
 Nat.le_trans (sumR_eq s t k) (Nat.le_trans (List.length_filter_le _ _)<|Nat.le_trans (applL_le s t _) hs.2.1)
theorem prod_few{s:qH}{t:qG}(hs:vz s)(ht:xK s t):∀k,k<=t.qQ.length->XK (zI s t k) (zI s t k).length<=17 ^ (sumR s t k-1)
 |0,_=>by show XK [] 0<=_;rw[XK];exact Nat.one_le_pow _ _ qj
 |k+1,hk=>by
  have h:=prod_few hs ht k qf
  rw[sumR]
  by_cases e:(vW s t k).length=0
  ·rw[←packsL_no e,e];exact h
  ·rw[←packsL_yes e,prod_snoc]
   refine Nat.le_trans (Nat.mul_le_mul h<|cellP_few hs ht qf e) ?_
   rw[←Nat.pow_add]
   exact Nat.pow_le_pow_right qj qf
theorem packsL_ne(hs:vz s)(ht:xK s t)(hk:k<=t.qQ.length)(hg:GoodP s t k):∀j,j<(zI s t k).length->(zI s t k)[j]! ≠[]:=fun j hj=>by
 obtain⟨c,hc,hr,_,h2⟩:=live_at (s:=s) (t:=t) (k:=k) (i:=j)<|by rw[←packsL_le];exact hj
 rw[h2]
 exact cellP_ne hs ht qf ((hg c hc).resolve_left hr)
theorem prod_bd(hs:vz s)(ht:xK s t)(hk:k<=t.qQ.length)(hg:GoodP s t k):∀j,j<=(zI s t k).length->((XK (zI s t k) j:Nat):Int)<=2862423051509815793:=fun j hj=>by
 have h1:=prod_mono (packsL_ne hs ht hk hg) hj<|Nat.le_refl _
 have h2:=prod_few hs ht k hk
 have h3:17 ^ (sumR s t k-1)<=17 ^ 15:=Nat.pow_le_pow_right qj (by have:=sumR_le (t:=t) hs k;omega)
 omega
def setTo(o r x:yLI):Nat->yLI
 |0=>o
 |k+1=>(setTo o r x k).set (r[k]!).toNat<|x[k]!
theorem setTo_len(o r x:yLI):∀k,(setTo o r x k).length=o.length
 |0=>rfl
 |k+1=>by rw[setTo,List.length_set,setTo_len o r x k]
def setAll(o r x:yLI):yLI:=setTo o r x r.length
theorem setAll_len(o r x:yLI):(setAll o r x).length=o.length:=setTo_len o r x _
def nextK(G:yLL)(r:yLI)(P:yLL)(k:Nat):yLL:=(G.take k).flatMap fun o=>P.map<|setAll o r
def nextX(G:yLL)(r:yLI)(P:yLL)(k x:Nat):yLL:=nextK G r P k++(P.take x).map (setAll (G[k]!) r)
theorem nextX_zero(G:yLL)(r:yLI)(P:yLL)(k:Nat):nextK G r P k=nextX G r P k 0:=by simp[nextX]
theorem nextX_succ{r:yLI}(h:x<P.length)(hv:v=setAll (G[k]!) r (P[x]!)):nextX G r P k x++[v]=nextX G r P k (x+1):=by
 subst hv;unfold nextX;rw[List.append_assoc,←take_snoc h,List.map_append];rfl
theorem nextX_end{r:yLI}(hk:k<G.length)(h:x=P.length):nextX G r P k x=nextK G r P (k+1):=by
 subst h;unfold nextX nextK;rw[List.take_length,←take_snoc hk,List.flatMap_append];simp
theorem nextK_len{G:yLL}{r:yLI}{P:yLL}:∀ {k:Nat},k<=G.length->(nextK G r P k).length=k*P.length
 |0,_=>by simp[nextK]
 |k+1,h=>by
  rw[←nextX_end (show k<G.length by omega) rfl,nextX,List.length_append,nextK_len qf,List.take_length,List.length_map,Nat.add_mul,Nat.one_mul]
theorem nextX_len{r:yLI}(hk:k<G.length)(hx:x<=P.length):(nextX G r P k x).length=k*P.length+x:=by
 rw[nextX,List.length_append,nextK_len qf,List.length_map,List.length_take];omega
theorem nextX_le{r:yLI}(hk:k<G.length)(hx:x<=P.length):(nextX G r P k x).length<=G.length*P.length:=by
 rw[nextX_len hk hx]
 have:=Nat.mul_le_mul_right P.length<|show k+1<=G.length from hk
 rw[Nat.add_mul,Nat.one_mul] at this
 omega
def Qm(n:Nat)(rs:yLL)(all:List yLL):Nat->yLL
 |0=>[List.replicate n 0]
 |i+1=>nextK (Qm n rs all i) (rs[i]!) (all[i]!) (Qm n rs all i).length
theorem XF{n:Nat}{rs:yLL}{all:List yLL}:∀i,(Qm n rs all i).length=XK all i
 |0=>rfl
 |i+1=>by rw[Qm,nextK_len<|Nat.le_refl _,XF i,XK]
theorem mem_at_L{l:yLL}(h:k<l.length):l[k]! ∈l:=by rw[getElem!_pos l k h];exact List.getElem_mem h
theorem prodG_row{n:Nat}{rs:yLL}{all:List yLL}:∀i,∀x∈Qm n rs all i,x.length=n
 |0,x,h=>by obtain rfl:=List.mem_singleton.1 h;simp
 |i+1,x,h=>by
  rw[Qm,nextK,List.mem_flatMap] at h
  obtain⟨o,ho,h⟩:=h
  obtain⟨y,_,rfl⟩:=List.mem_map.1 h
  rw[setAll_len]
  exact prodG_row i o<|List.mem_of_mem_take ho
theorem prodG_at(h:k<(Qm n rs all i).length):((Qm n rs all i)[k]!).length=n:=prodG_row i _<|mem_at_L h
open Classical in
noncomputable def inOrder(l:yLL):yLL:=if h:∃m,l.Perm m/\InOrder m then Classical.choose h else l
theorem inOrder_eq{l m:yLL}(hn:∀x∈l,x.length=n)(hp:l.Perm m)(ho:InOrder m):inOrder l=m:=by
 have h:∃m,l.Perm m/\InOrder m:=⟨m,hp,ho⟩
 unfold inOrder
 rw[dif_pos h]
 have hc:=Classical.choose_spec h
 exact order_one (n:=n) (fun x hx=>hn x<|hc.1.symm.subset hx) (hc.1.symm.trans hp) hc.2 ho
open Classical in
noncomputable def zK(s:qH)(t:qG):yLL×Int:=
 if ¬GoodP s t s.qA.length then ([],3) else if XK (zI s t s.qA.length) (zI s t s.qA.length).length>300 then ([],3)
 else (inOrder<|Qm s.qB.length (xP s t s.qA.length) (zI s t s.qA.length) (zI s t s.qA.length).length,0)
theorem cho_3(h:¬GoodP s t s.qA.length\/XK (zI s t s.qA.length) (zI s t s.qA.length).length>300):zK s t=([],3):=by
 unfold zK
 by_cases h1:GoodP s t s.qA.length
 ·rw[if_neg<|by simpa using h1,if_pos<|h.resolve_left<|by simpa using h1]
 ·rw[if_pos h1]
theorem cho_0{m:yLL}(h:GoodP s t s.qA.length)(h1:¬XK (zI s t s.qA.length) (zI s t s.qA.length).length>300)
 (hp:(Qm s.qB.length (xP s t s.qA.length) (zI s t s.qA.length) (zI s t s.qA.length).length).Perm m) (ho:InOrder m):zK s t=(m,0):=by
 unfold zK
 rw[if_neg<|by simpa using h,if_neg h1,inOrder_eq (prodG_row _) hp ho]
theorem in_order{l:yLL}(hi:l.length<=i)(h:∀a b,a<b->b<i->¬ahead (l[b]!) (l[a]!)):InOrder l:=by
 have:=(orderTo_iff (l:=l) (k:=l.length)<|Nat.le_refl _).2 fun a b Ij hb=>h a b Ij qf
 unfold OrderTo at this
 rwa [List.take_length] at this
theorem cho_code{b:yLI}{p:yLL}(h:¬GoodP s t s.qA.length)(h1:¬(y5 b p).2=0):zK s t=([],(y5 b p).2):=by rw[cho_3<|.inl h,all_code h1]
theorem next_le(h:∀j,j<all.length->all[j]! ≠[])(h1:¬XK all all.length>300)(hi:i<all.length)(hk:k<(Qm n rs all i).length)(hx:x<=(all[i]!).length):(nextX (Qm n rs all i) (rs[i]!) (all[i]!) k x).length<=300:=by
 have h2:=nextX_le (r:=rs[i]!) hk hx
 have h3:=prod_mono h (show i+1<=all.length from hi)<|Nat.le_refl _
 rw[XK,←XF (n:=n) (rs:=rs) i] at h3
 omega
theorem G_le(h:∀j,j<all.length->all[j]! ≠[])(h1:¬XK all all.length>300)(hi:i<=all.length):(Qm n rs all i).length<=300:=by
 have h3:=prod_mono h hi<|Nat.le_refl _
 rw[XF];omega
theorem cell_few(hs:vz s)(hi:i<(xP s t n).length):((xP s t n)[i]!).length<=8/\((zI s t n)[i]!).length<=2000:=by
 obtain⟨c,_,_,e,e1⟩:=live_at hi
 rw[e,e1]
 exact⟨cellR_len hs c,all_len _ _⟩
theorem choice_at{r:Nat}(hi:i<(xP s t n).length)(hr:r<((xP s t n)[i]!).length):0<=((xP s t n)[i]!)[r]! /\(((xP s t n)[i]!)[r]!).toNat<s.qB.length:=by
 obtain⟨c,_,_,e,_⟩:=live_at hi
 rw[e] at hr ⊢
 have:=cellR_at hr
 exact⟨this.1,this.2.1⟩
theorem pack_at(hi:i<(xP s t n).length)(hx:x<((zI s t n)[i]!).length):(((zI s t n)[i]!)[x]!).length=((xP s t n)[i]!).length:=by
 obtain⟨c,_,_,e,e1⟩:=live_at hi
 rw[e1] at hx ⊢
 rw[e]
 exact(all_at hx).trans<|Q7 _ _
theorem perm_rows{m:Nat}{l:yLL}(h:(Qm n rs all m).Perm l):∀j,j<l.length->(l[j]!).length=n:=fun j hj=>prodG_row m _<|h.symm.subset<|mem_at_L hj
theorem perm_swap{l m:yLL}(h:l.Perm m)(hk:0<k)(hl:k<m.length):l.Perm (swapAt m k):=h.trans (swap_perm hk hl).symm
theorem cho_len(s:qH)(t:qG):(zK s t).1.length<=300:=by
 unfold zK
 split
 ·simp
 ·split
  ·simp
  ·next h1 h2=>
   show (inOrder _).length<=300
   unfold inOrder
   split
   ·next h=>rw[←(Classical.choose_spec h).1.length_eq,XF];omega
   ·rw[XF];omega
end
section
section
variable{α : Type}[qX α]
theorem reps_perm(h1:qX.size α=1):∀ {z z':List (Value×α)},z.Perm z' ->∀ {F:yLN},reps w F (z.map Prod.fst) (z.map Prod.snd)->∃F',F'.Perm F/\reps w F' (z'.map Prod.fst) (z'.map Prod.snd):=by
 intro z z' hp
 have one:∀ {c:List Value} {G:yLN} {x:α},qX.rep w G c x->∃v,c=[v]:=fun h=>List.length_eq_one_iff.1 ((qX.len h).trans h1)
 induction hp with
 |nil=>intro F h;exact⟨F,.refl _,h⟩
 |cons x _ ih=>
  rintro F ⟨F1,F2,c1,c2,rfl,hv,hx,hr⟩
  obtain⟨v,rfl⟩:=one hx
  obtain⟨rfl,rfl⟩:=List.cons.inj hv
  obtain⟨F',hF,IC⟩:=ih hr
  exact⟨F1++F',hF.append_left F1,F1,F',[x.1],_,rfl,rfl,hx,IC⟩
 |swap x y l=>
  rintro F ⟨F1,F2,c1,c2,rfl,hv,hx,F3,F4,c3,c4,rfl,hv2,hy,hr⟩
  obtain⟨v,rfl⟩:=one hx
  obtain⟨u,rfl⟩:=one hy
  subst hv2
  obtain⟨e1,e2⟩:=List.cons.inj hv
  obtain⟨e3,e4⟩:=List.cons.inj e2
  subst e1 e3 e4
  refine⟨F3++(F1++F4),?_,F3,F1++F4,[x.1],y.1::_,rfl,rfl,hy,F1,F4,[y.1],_,rfl,rfl,hx,hr⟩
  rw[←List.append_assoc,←List.append_assoc]
  exact List.perm_append_comm.append_right F4
 |trans _ _ ih1 ih2=>
  intro F h
  obtain⟨F1,h1,h2⟩:=ih1 h
  obtain⟨F2,h3,h4⟩:=ih2 h2
  exact⟨F2,h3.trans h1,h4⟩
end
theorem swapZ{α:Type}:∀ {l:List α} {i:Nat} {a b:α},l[i]? =some a->l[i+1]? =some b->l.Perm ((l.set (i+1) a).set i b)
 | [],_,_,_,h,_=>by simp at h
 |x::l,0,a,b,h,h1=>by
  cases l with
  |nil=>simp at h1
  |cons y l=>
   simp only[List.getElem?_cons_zero,Option.some.injEq] at h
   simp only[List.getElem?_cons_succ,List.getElem?_cons_zero,Option.some.injEq,Nat.zero_add] at h1
   subst h h1
   exact List.Perm.swap ..
 |x::l,i+1,a,b,h,h1=>by
  simp only[List.getElem?_cons_succ] at h h1
  exact(swapZ h h1).cons x
theorem zip_at{α β:Type}:∀ {xs:List α} {l:List β} {i:Nat} {a:α} {b:β},xs[i]? =some a->l[i]? =some b->(xs.zip l)[i]? =some (a,b):=by
 intro xs l i a b h h1
 rw[List.getElem?_zip_eq_some]
 exact⟨h,h1⟩
theorem zip_fst{α β:Type}:∀ {xs:List α} {l:List β},xs.length=l.length->(xs.zip l).map Prod.fst=xs:=by
 intro xs l h;exact List.map_fst_zip qf
theorem zip_snd{α β:Type}:∀ {xs:List α} {l:List β},xs.length=l.length->(xs.zip l).map Prod.snd=l:=by
 intro xs l h;exact List.map_snd_zip qf
section
variable{W0 w : World}{ps : List Prv}{Γ : List Fact}
theorem St.rowElemX{α:Type}[qX α](H:St W0 w ps Γ)(k:Nat){b:Nat}{e:TypeId}{nn:Nat}(hp:ps[k]? =some (.row (Sv (some ⟨b,0,none⟩) nn c) e 1 nn xs))(j:Nat){l:List (List α)}
 (hf:Γ[j]? =some (xG fr F xs l)) {iv:Int} (i:Nat) (h:iv.toNat=i) (h1:i<nn):
 ∃(a:yOA) (c':Nat) (G:yLN),(∀x∈G,x∈F)/\w.cell? ⟨b,0+iv.toNat*1,none⟩=some (Sv a (l[i]!).length c')/\xs[0+iv.toNat*1]? =some (Sv a (l[i]!).length c')/\xs[iv.toNat]? =some (Sv a (l[i]!).length c')/\St W0 w ps (isF fr G (Sv a (l[i]!).length c') (l[i]!)::Γ):=by
 obtain⟨cs,G,hc,hr,aJ,dq,v1,v2,hx,hv⟩:=H.rowElem k hp j hf Nat.one_pos h h1
 obtain⟨a,c',rfl,hx'⟩:=id hr
 have hxi:xs[i]? =some (Sv a (l[i]!).length c'):=by
  have Me:v1.length=i:=by rw[hv];exact Nat.mul_one _
  rw[hx,List.append_assoc,List.getElem?_append_right qf]
  simp[Me]
 exact⟨a,c',G,aJ,by simpa [qX.size] using hc 0 _ rfl,by rw[show 0+iv.toNat*1=i by omega];exact hxi,by rw[h];exact hxi,H.jO j hf _ ⟨hr,dq⟩ aJ⟩
theorem St.swapR(H:St W0 w ps Γ)(j:Nat){l:yLL}(hf:Γ[j]? =some (xG fr F xs l))(hk:0<k)(hkl:k<l.length)(hi:i=k-1){v0 v1:Value}(h0:xs[i]? =some v0)(h1:xs[k]? =some v1):
 ∃F',F'.Perm F/\St W0 w ps (xG fr F' ((xs.set k v0).set i v1) (swapAt l k)::Γ):=by
 obtain⟨hr,dq⟩:=H.get j hf
 obtain⟨i,rfl⟩:∃i,k=i+1:=⟨k-1,by omega⟩
 rw[show i+1-1=i from rfl] at hi
 subst hi
 have hl:xs.length=l.length:=by have:=X7 hr;simpa [qX.size] using this
 have e0:l[i]? =some (l[i]!):=by rw[getElem!_pos l i qf];exact List.getElem?_eq_getElem qf
 have e1:l[i+1]? =some (l[i+1]!):=by rw[getElem!_pos l (i+1) hkl];exact List.getElem?_eq_getElem hkl
 have hp:=swapZ (zip_at h0 e0)<|zip_at h1 e1
 have IC :reps w F ((xs.zip l).map Prod.fst) ((xs.zip l).map Prod.snd):=by
  rw[zip_fst hl,zip_snd hl]
  exact hr
 obtain⟨F',hF,h2⟩:=reps_perm rfl hp IC
 refine⟨F',hF,H.jO j hf _ ⟨?_,fun e x hx=>dq e x<|hF.subset hx⟩ fun x hx=>hF.subset hx⟩
 rw[List.map_set,List.map_set,List.map_set,List.map_set,zip_fst hl,zip_snd hl] at h2
 exact h2
theorem Fresh.perm{B:Nat}{F':yLN}(N:Fresh B (F::L))(h:F'.Perm F):Fresh B (F'::L):=N.less (fun b hb=>h.subset hb) fun hn=>h.nodup_iff.2 hn
end
section
variable{P : Program}{n : Nat}{ρ : Env}{w : World}
theorem ret3{fn:Func}{R:Ending->World->Prop}{t u z:Nat}(v x y:Value)(hr:fn.results=#[.tmp t,.tmp u,.tmp z])(hv:ev n ρ (.tmp t)=v)(hx:ev n ρ (.tmp u)=x)(hy:ev n ρ (.tmp z)=y)(h:R (.returned<|.tuple #[v,x,y]) w):bodyPost P fn R .ret (mk n ρ) w:=by
 refine bodyPost_ret (results_tmp3 hr _ _ _) rfl ?_
 have e:=congrFun (Xc n ρ)<|.tmp t
 have e':=congrFun (Xc n ρ)<|.tmp u
 have U2 :=congrFun (Xc n ρ)<|.tmp z
 simp only[Act.eval] at e e' U2
 rw[e,hv,e',hx,U2,hy]
 exact h
end
end
end Go.Proofs.YtdhklgjmiamiaaaGreat
