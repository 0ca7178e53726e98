/- Walks and laws, printed by program and by hand: what each function comes to, for all arguments, part 2. -/
import Derived.Test.YtghikkinnchndaaGreatA1
namespace Go.Proofs.YtghikkinnchndaaGreat
open Go.Proofs.Tryz
set_option linter.unusedVariables false
set_option linter.unusedSimpArgs false
set_option maxRecDepth 100000
set_option maxHeartbeats 4000000
open Go.RowKit
open Go.Proofs.Tryz
open Go.Proofs.YtghikkinnchndaaGreat.Tot (tot)
open Go.Proofs.YtghikkinnchndaaGreat.Mark (dc mrk mkd mkd_mark cnt_mark)
variable{B D f8 c fF cX x z:Int}{Fl Fm Be B4 BM BO CB Ip jM vV xN zN zZ:yLN}{K V3 br cl fD fH fI fM j0 f i j k m n or p q:Nat}{V5 al am gt gi gy gc lI qM xC xK xm zB:yOA}{a l:yLI}{b:yLL}{r:yz}{s:qJ}{t u:qV}
section
variable{bs os qL xh bt ot xI zq xy : Nat}
theorem l01Bag_ok(w:World)(l:yLI)(hl:zP w Fl al cl l):Calls Tryz.prog 132 #[Sv al l.length cl] w (Ret (fun v w'=>v=Bv (dec<|Yj l)) w):=by
 refine en func132 ntmps132 ?_
 have H:=(St.start w).arg hl
 have Cr:=qN hl
 clear hl
 refine zcr<|sp (Bv false)<|zjcc<|sp (yI 0)<|zjn<|xg<|vk ((fun Z0=>fun m' ρ w1=>∃(xR:Env) (k:Nat),ρ=upd (upd xR 0<|Sv al l.length cl) 3 (yI k)/\(k<=l.length)/\(Counts l k)/\m'=l.length-k/\St w w1 [] [Z0]) _) (l.length-0) ⟨_,0,uE2,qf,(by exact Counts.zero l),J,H⟩ ?_
 clear H
 rintro m' ρ w2 ⟨xR,k,rfl,i0,i1,rfl,H⟩
 refine zcc<|sp (yI k)<|sq 1<|oN J<|sq 1<|zjn<|cD J (fun h3=>?_)<|fun h3=>?_
 ·refine xe (t_n<|xO<|xg<|zcr<|sq 1<|sp (yI k) ?_)
  obtain⟨b4,o5,rfl⟩:=H.addr 0 rfl qf
  refine oI J J<|oL J (H.vM 0 J k qf)<|sw<|oq (VN w2 l[k]! 0 1000) H fun w6 H=>sq 1<|zjn<|vP _ J (fun h8=>?_)<|fun h8=>?_
  ·replace h8:=xF h8
   replace h8:=Xl h8
   refine zcr<|sp (Bv false)<|zjr<|zr5<|rH1 (Bv false) H ?_
   rw[xH<|fun h=>‹¬(0<=l[k]! /\l[k]! <=1000)› (h.1 k qf)]
  replace h8:=xw h8
  replace h8:=QW.1 h8
  refine xe<|b_n<|t_n<|zf<|sp (yI k)<|sw<|zY k 1 J J qf<|sq 1<|xX<|xu (m':=l.length-(k+1)) qf ⟨_,k+1,uE2,?_,?_,J,H⟩
  ·omega
  ·exact i1.succ ‹_›
 refine zx4<|zcr<|sq 1<|oN J<|sw<|oq (VN w2 l.length 1 8) H fun w9 H=>sq 1<|zjr<|rH1 (Bv<|inR l.length 1 8) H ?_
 obtain rfl:k=l.length:=by omega
 refine congrArg Value.bool<|dec_eq ?_
 rw[QW]
 exact⟨fun h=>⟨i1,by omega,by omega⟩,fun h=>by have:=h.2;omega⟩
theorem XA(w:World)(s:qJ)(b:yLI){ab:yOA}{cb:Nat}{Fb:yLN}(hs:jO w bs os (yS s qM qL xm xh))(qZ:zP w xN qM qL s.qA)(xM:zP w zN xm xh s.qB)(hb:zP w Fb ab cb b):Calls Tryz.prog 89 #[pp bs os,Sv ab b.length cb] w (Ret (fun v w'=>v=Bv (dec<|jd s.qQ b)) w):=by
 refine en func89 ntmps89 ?_
 have H:=((((St.start w).arg hb).arg xM).arg qZ).argAt hs
 have vT:=qN qZ
 have jP:=qN xM
 have nhb:=qN hb
 clear hs qZ xM hb
 refine zcr<|sp (Bv false)<|zjc<|sq 1<|sw<|oq (l01Bag_ok _ b (H.get 3 J).1) H fun w1 H=>sp (Bv<|dec<|Yj b) ?_
 cases h3:(dec (Yj b))
 ·replace h3:=vS h3
  refine zk (zR 8 7)<|sp (Bv false)<|sp (Bv false)<|zjr<|rH1 (Bv false) H ?_
  rw[xH<|fun h=>‹¬Yj b› h.1]
 replace h3:=Qy h3
 refine qP 7 J J<|sq 1<|qP 7 J J<|oN J<|qP 7 J J<|sq 1<|qP 7 J J<|sq 1<|qP 7 J J<|oF J<|qP 7 J J<|oL J (H.zU 0 J 0 J)<|qP 7 J J<|sq 3<|zjr<|rH1 (Bv ((b.length:Int) == s.qQ)) H<|congrArg Value.bool<|dec_eq ?_
 rw[beq_iff_eq]
 exact⟨fun h=>⟨‹_›,h⟩,fun h=>h.2⟩
theorem l02Frame_ok(w:World)(s:qJ)(hs:jO w bs os (yS s qM qL xm xh))(qZ:zP w xN qM qL s.qA)(xM:zP w zN xm xh s.qB):Calls Tryz.prog 87 #[pp bs os] w (Ret (fun v w'=>v=Bv (dec<|yf s)) w):=by
 refine en func87 ntmps87 ?_
 have H:=(((St.start w).arg xM).arg qZ).argAt hs
 have vT:=qN qZ
 have jP:=qN xM
 clear hs qZ xM
 refine zcr<|sp (Bv false)<|zjcc<|sq 2<|oF J<|oL J (H.zU 0 J 0 J)<|sw<|oq (VN w s.qQ 1 8) H fun w1 H=>sp (Bv (!(inR s.qQ 1 8)))<|sp (Bv (!(inR s.qQ 1 8))) ?_
 cases h3:(!(inR s.qQ 1 8))
 ·replace h3:=xw h3
  replace h3:=QW.1 h3
  refine qP 10 J J<|sq 1<|qP 10 J J<|sq 1<|qP 10 J J<|oF J<|qP 10 J J<|oL J (H.zU 0 J 1 J)<|qP 10 J J<|oN J<|qP 10 J J<|sw<|oq (VN w1 s.qA.length 1 6) H fun w4 H=>qP 10 J J<|sp (Bv (!(inR s.qA.length 1 6)))<|sp (Bv (!(inR s.qA.length 1 6)))<|sp (Bv (!(inR s.qA.length 1 6))) ?_
  cases h6:(!(inR s.qA.length 1 6))
  ·replace h6:=xw h6
   replace h6:=QW.1 h6
   refine qP 19 J J<|sq 1<|qP 19 J J<|sq 1<|qP 19 J J<|oF J<|qP 19 J J<|oL J (H.zU 0 J 1 J)<|qP 19 J J ?_
   obtain⟨b7,o8,rfl⟩:=H.addr 1 rfl qf
   refine oI J J<|qP 19 J J<|oL J (H.vM 1 J 0 qf)<|qP 19 J J<|sp (Bv ((s.qA[0]! :Int) != (-1)))<|sp (Bv ((s.qA[0]! :Int) != (-1)))<|zjn<|vP ((s.qA[0]! :Int) != (-1)) J (fun h9=>?_)<|fun h9=>?_
   ·replace h9:=bne_iff_ne.1 h9
    refine zcr<|sp (Bv false)<|zjr<|t_r<|rH1 (Bv false) H ?_
    rw[xH (fun h=>by obtain⟨h1,h2,h3,h4⟩:=h;omega)]
   replace h9:=zo h9
   refine xe<|t_n<|zcc<|sp (yI 1)<|zjn<|xg<|vk ((fun Z0 Z1 Z2=>fun m' ρ sr=>∃(xR:Env) (k:Nat),ρ=upd (upd xR 0<|pp bs os) 3 (yI k)/\(k<=s.qA.length)/\(1<=k)/\(FrameTo s k)/\m'=s.qA.length-k/\St w sr [] [Z0,Z1,Z2]) _ _ _) (s.qA.length-1) ⟨_,1,uE2,qf,qf,(by exact FrameTo.one s),J,H⟩ ?_
   clear H
   rintro m' ρ z7 ⟨xR,k,rfl,i0,i2,i1,rfl,H⟩
   refine zcc<|sp (yI k)<|sq 2<|oF J<|oL J (H.zU 0 J 1 J)<|oN J<|sq 1<|zjn<|cD J (fun iz=>?_)<|fun iz=>?_
   ·refine xe (t_n<|xO<|xg<|zcr<|sq 2<|oF J<|oL J (H.zU 0 J 1 J)<|sp (yI k)<|oI J J<|oL J (H.vM 1 J k qf)<|sp (yI k)<|sw<|o_sub k 1 J J qf<|sw<|oq (VN z7 s.qA[k]! 0<|k-1) H fun D9 H=>sq 1<|zjn<|vP _ J (fun oA=>?_)<|fun oA=>?_)
    ·replace oA:=xF oA
     replace oA:=Xl oA
     refine zcr<|sp (Bv false)<|zjr<|zr5<|rH1 (Bv false) H ?_
     rw[xH (fun h=>by obtain⟨h1,h2,h3,h4⟩:=h;(have:=h4 k qf qf;omega))]
    replace oA:=xw oA
    replace oA:=QW.1 oA
    refine xe<|b_n<|t_n<|zf<|sp (yI k)<|sw<|zY k 1 J J qf<|sq 1<|xX<|xu (m':=s.qA.length-(k+1)) qf ⟨_,k+1,uE2,?_,?_,?_,J,H⟩
    ·omega
    ·omega
    ·exact i1.succ ‹_›
   refine zx4<|zcr<|sp (Bv true)<|zjr<|rH1 (Bv true) H ?_
   obtain rfl:k=s.qA.length:=by omega
   rw[QD ⟨by omega,by omega,by omega,i1⟩]
  replace h6:=xF h6
  replace h6:=Xl h6
  refine zk (zR 20 7)<|sp (Bv true)<|zjn<|cTr J<|zcr<|sp (Bv false)<|zjr<|t_r<|rH1 (Bv false) H ?_
  rw[xH (fun h=>by obtain⟨h1,h2,h3,h4⟩:=h;omega)]
 replace h3:=xF h3
 replace h3:=Xl h3
 refine zk (zR 11 7)<|sp (Bv true)<|sp (Bv true)<|zk (zR 20 7)<|sp (Bv true)<|zjn<|cTr J<|zcr<|sp (Bv false)<|zjr<|t_r<|rH1 (Bv false) H ?_
 rw[xH (fun h=>by obtain⟨h1,h2,h3,h4⟩:=h;omega)]
theorem l02In_ok(w:World)(s:qJ)(c:Int)(sO:Int)(hs:jO w bs os (yS s qM qL xm xh))(qZ:zP w xN qM qL s.qA)(xM:zP w zN xm xh s.qB)(p0:yf s)(p1:CellIn s c):Calls Tryz.prog 131 #[pp bs os,yI c,yI sO] w (Ret (fun v w'=>v=Bv (dec<|Lies s.qA sO c)) w):=by
 refine en func131 ntmps131 ?_
 have H:=(((St.start w).arg xM).arg qZ).argAt hs
 have vT:=qN qZ
 have jP:=qN xM
 clear hs qZ xM
 refine zcr<|sp (Bv false)<|zjn<|xO<|xg<|vk ((fun Z0 Z1 Z2=>fun m' ρ w1=>∃(xR:Env) (y:Int),ρ=upd (upd (upd xR 0<|pp bs os) 1<|yI y) 2 (yI sO)/\(0<=y/\y<=(s.qA.length:Int)-1)/\(Lies s.qA sO c<->Lies s.qA sO y)/\m'=y.toNat/\St w w1 [] [Z0,Z1,Z2]) _ _ _) (c.toNat) ⟨_,c,uE3,(by exact p1),(by exact Iff.rfl),J,H⟩ ?_
 clear H
 rintro m' ρ w2 ⟨xR,y,rfl,i0,i1,rfl,H⟩
 have up:=fun h=>p0.up (c:=y) h i0.2
 refine zcc<|sp (yI y)<|sp (Bv<|decide ((y:Int)>0))<|zjn<|cD J (fun h3=>?_)<|fun h3=>?_
 ·refine xe (t_n<|xg<|zcr<|sq 2<|oF J<|oL J (H.zU 0 J 1 J)<|sp (yI y) ?_)
  obtain⟨b4,o5,rfl⟩:=H.addr 1 rfl qf
  refine oI J J<|oL J (H.elemInt 1 J y qf qf)<|sq 1<|zjc<|sq 3<|zjn<|cE J (fun h6=>?_)<|fun h6=>?_
  ·refine zcr (sp (Bv true)<|zjr<|b_r<|t_r<|b_r<|t_r<|rH1 (Bv true) H ?_)
   rw[QD<|i1.2<|.here qf ‹_›]
  refine xe<|b_n ?_
  have up1:=up qf
  refine xu (m':=s.qA[y.toNat]!.toNat) qf ⟨_,s.qA[y.toNat]!,uE3,?_,?_,J,H⟩
  ·have:=up qf;omega
  ·exact i1.trans<|lies_iff.trans ⟨fun h=>h.2.resolve_left ‹_›,fun h=>⟨by omega,.inr h⟩⟩
 refine zx4<|zcr<|sp (Bv false)<|zjr<|rH1 (Bv false) H ?_
 rw[xH (fun h=>by have:=(lies_iff.1<|i1.1 h).1;omega)]
theorem l02Rule_ok(w:World)(s:qJ)(r:yz)(hs:jO w bs os (yS s qM qL xm xh))(qZ:zP w xN qM qL s.qA)(xM:zP w zN xm xh s.qB)(hr:jO w br or [yI r.qW,yI r.yH,Sv gc r.vg.length fM,Sv gt r.jI.length fD,Sv gy r.jK.length fI,Sv gi r.jq.length fH,Sv lI r.Qz.length j0,Sv V5 r.xn.length V3,Bv r.je])(gb:zP w CB gc fM r.vg)(gW:zP w Be gt fD r.jI)(gT:zP w BO gy fI r.jK)(g8:zP w B4 gi fH r.jq)(nh:zP w Ip lI j0 r.Qz)(eW:zP w BM V5 V3 r.xn)(p0:yf s):Calls Tryz.prog 88 #[pp bs os,pp br or] w (Ret (fun v w'=>v=Bv (dec<|RuleOk s r)) w):=by
 refine en func88 ntmps88 ?_
 have H:=((((((((((St.start w).arg eW).arg nh).arg g8).arg gT).arg gW).arg gb).argAt hr).arg xM).arg qZ).argAt hs
 have vT:=qN qZ
 have jP:=qN xM
 have BY:=qN eW
 clear hs qZ xM hr gb gW gT g8 nh eW
 refine zcr<|sp (Bv false)<|zjn<|xO<|xO<|QY J H fun H=>rtl 0 H ?_
 refine rtl 1 H ?_
 refine tF 2 J J H ?_
 refine tL 3 J J (fun _ h=>h.zU 3 J 0 J) H ?_
 refine rtl 4 H ?_
 refine rtl 5 H ?_
 refine tF 6 J J H ?_
 refine tL 7 J J (fun _ h=>h.zU 0 J 1 J) H ?_
 refine tN 8 J J H ?_
 refine rt 9 _ (y_sub s.qA.length 1 J J qf) H ?_
 refine ro 10 J<|oq (VN w.drew r.qW 0<|s.qA.length-1) H fun w2 H=>⟨H,(rtp 11 (Bv (!(inR r.qW 0<|s.qA.length-1))) H ?_)⟩
 refine rtp 12 (Bv (!(inR r.qW 0<|s.qA.length-1))) H ?_
 cases h4:(!(inR r.qW 0 (s.qA.length-1)))
 ·replace h4:=xw h4
  replace h4:=QW.1 h4
  refine rgl 13 19 H ?_
  refine rgl 14 19 H ?_
  refine gF 15 J J H ?_
  refine gL 16 J J (fun _ h=>h.zU 3 J 1 J) H ?_
  refine jw [17] qh qm<|Vu J (e:=19) J J (oq (VN w2 r.yH 0 9) H fun w5 H=>⟨H,(rgp 18 (Bv (!(inR r.yH 0 9))) 19 H ?_)⟩) jy
  refine rtp 19 (Bv (!(inR r.yH 0 9))) H ?_
  refine rtp 20 (Bv (!(inR r.yH 0 9))) H ?_
  cases h7:(!(inR r.yH 0 9))
  ·replace h7:=xw h7
   replace h7:=QW.1 h7
   refine rgl 21 27 H ?_
   refine rgl 22 27 H ?_
   refine gF 23 J J H ?_
   refine gL 24 J J (fun _ h=>h.zU 3 J 8 J) H ?_
   refine rgp 25 (Bv r.je) 27 H ?_
   cases h8:(r.je)
   ·rw[h8] at H
    refine vC (zR 26 5) 5 (H)<|rgp 31 (Bv false) 27 H ?_
    refine rtp 32 (Bv false) H ?_
    refine rtp 33 (Bv false) H ?_
    refine rgl 34 40 H ?_
    refine rgl 35 40 H ?_
    refine gF 36 J J H ?_
    refine gL 37 J J (fun _ h=>h.zU 3 J 7 J) H ?_
    refine gN 38 J J H ?_
    refine rgp 39 (Bv<|decide ((r.xn.length:Int)>3)) 40 H ?_
    refine rtp 40 (Bv<|decide ((r.xn.length:Int)>3)) H ?_
    refine xx qh<|t_n<|cD J (fun h9=>?_)<|fun h9=>?_
    ·refine zcr (sp (Bv false)<|zjr<|t_r<|rH1 (Bv false) H ?_)
     rw[xH (fun h=>by obtain⟨h1,h2,h3,h4,h5,h6,h7,h8,h9,cK,cf⟩:=h;omega)]
    refine xe<|t_n<|zcc<|sq 3<|oF J<|oL J (H.zU 3 J 2 J)<|sw<|oq (XA _ s r.vg (qH (H.get 0 J) 0 3) (H.get 1 J).1 (H.get 2 J).1 (H.get 4 J).1) H fun sr H=>sp (Bv (!(dec<|jd s.qQ r.vg)))<|sp (Bv (!(dec<|jd s.qQ r.vg))) ?_
    cases iz:(!(dec (jd s.qQ r.vg)))
    ·replace iz:=xw iz
     replace iz:=Qy iz
     refine qP 55 J J<|sq 1<|qP 55 J J<|sq 1<|qP 55 J J<|sq 1<|qP 55 J J<|oF J<|qP 55 J J<|oL J (H.zU 3 J 3 J)<|qP 55 J J<|sw<|oq (XA _ s r.jI (qH (H.get 0 J) 0 3) (H.get 1 J).1 (H.get 2 J).1 (H.get 5 J).1) H fun D9 H=>qP 55 J J<|sp (Bv (!(dec<|jd s.qQ r.jI)))<|sp (Bv (!(dec<|jd s.qQ r.jI)))<|sp (Bv (!(dec<|jd s.qQ r.jI))) ?_
     cases oA:(!(dec (jd s.qQ r.jI)))
     ·replace oA:=xw oA
      replace oA:=Qy oA
      refine qP 64 J J<|sq 1<|qP 64 J J<|sq 1<|qP 64 J J<|sq 1<|qP 64 J J<|oF J<|qP 64 J J<|oL J (H.zU 3 J 4 J)<|qP 64 J J<|sw<|oq (XA _ s r.jK (qH (H.get 0 J) 0 3) (H.get 1 J).1 (H.get 2 J).1 (H.get 6 J).1) H fun Kj H=>qP 64 J J<|sp (Bv (!(dec<|jd s.qQ r.jK)))<|sp (Bv (!(dec<|jd s.qQ r.jK)))<|sp (Bv (!(dec<|jd s.qQ r.jK))) ?_
      cases i7:(!(dec (jd s.qQ r.jK)))
      ·replace i7:=xw i7
       replace i7:=Qy i7
       refine qP 73 J J<|sq 1<|qP 73 J J<|sq 1<|qP 73 J J<|sq 1<|qP 73 J J<|oF J<|qP 73 J J<|oL J (H.zU 3 J 5 J)<|qP 73 J J<|sw<|oq (XA _ s r.jq (qH (H.get 0 J) 0 3) (H.get 1 J).1 (H.get 2 J).1 (H.get 7 J).1) H fun LP H=>qP 73 J J<|sp (Bv (!(dec<|jd s.qQ r.jq)))<|sp (Bv (!(dec<|jd s.qQ r.jq)))<|sp (Bv (!(dec<|jd s.qQ r.jq))) ?_
       cases ua:(!(dec (jd s.qQ r.jq)))
       ·replace ua:=xw ua
        replace ua:=Qy ua
        refine qP 82 J J<|sq 1<|qP 82 J J<|sq 1<|qP 82 J J<|sq 1<|qP 82 J J<|oF J<|qP 82 J J<|oL J (H.zU 3 J 6 J)<|qP 82 J J<|sw<|oq (XA _ s r.Qz (qH (H.get 0 J) 0 3) (H.get 1 J).1 (H.get 2 J).1 (H.get 8 J).1) H fun MJ H=>qP 82 J J<|sp (Bv (!(dec<|jd s.qQ r.Qz)))<|sp (Bv (!(dec<|jd s.qQ r.Qz)))<|sp (Bv (!(dec<|jd s.qQ r.Qz))) ?_
        cases CW:(!(dec (jd s.qQ r.Qz)))
        ·replace CW:=xw CW
         replace CW:=Qy CW
         refine qP 91 J J<|sq 1<|qP 91 J J<|sq 1<|qP 91 J J<|oF J<|qP 91 J J<|oL J (H.zU 3 J 2 J)<|qP 91 J J<|sw<|oq (l01Size_ok _ r.vg (H.get 4 J).1<|by exact ja ql) H fun E4 H=>qP 91 J J<|sp (Bv ((Yk r.vg:Int) == 0))<|sp (Bv ((Yk r.vg:Int) == 0))<|zjn<|cE J (fun nY=>?_)<|fun nY=>?_
         ·refine zcr (sp (Bv false)<|zjr<|t_r<|rH1 (Bv false) H ?_)
          rw[xH (fun h=>by obtain⟨h1,h2,h3,h4,h5,h6,h7,h8,h9,cK,cf⟩:=h;contradiction)]
         refine xe<|t_n<|zcc<|sp (yI 0)<|zjn<|xg<|vk ((fun Z0 Z1 Z2 Z3 Z4 Z5 Z6 Z7 Z8 Z9=>fun m' ρ LE=>∃(xR:Env) (k:Nat),ρ=upd (upd (upd xR 0<|pp bs os) 1<|pp br or) 5 (yI k)/\(k<=r.xn.length)/\(IntosTo s r k)/\m'=r.xn.length-k/\St w LE [] [Z0,Z1,Z2,Z3,Z4,Z5,Z6,Z7,Z8,Z9]) _ _ _ _ _ _ _ _ _ _) (r.xn.length-0) ⟨_,0,uE3,qf,qx,J,H⟩ ?_
         clear H
         rintro m' ρ Iu ⟨xR,k,rfl,i0,i1,rfl,H⟩
         refine zcc<|sp (yI k)<|sq 2<|oF J<|oL J (H.zU 3 J 7 J)<|oN J<|sq 1<|zjn<|cD J (fun Gp=>?_)<|fun Gp=>?_
         ·refine xe (t_n<|xO<|xg<|zcr<|sq 2<|oF J<|oL J (H.zU 3 J 7 J)<|sp (yI k) ?_)
          obtain⟨b31,o32,rfl⟩:=H.addr 9 rfl qf
          obtain⟨BX,BF,Sm,H⟩:=H.Qr 9 rfl k k qf qf qf
          refine oI J J<|sq 1<|zjn<|xO<|xO<|QY J H fun H=>rtl 0 H ?_
          refine rtl 1 H ?_
          refine tF 2 J J H ?_
          refine tL 3 J J (fun _ h=>h.zU 1 J 0 J) H ?_
          refine rtl 4 H ?_
          refine rtl 5 H ?_
          refine tF 6 J J H ?_
          refine tL 7 J J (fun _ h=>h.zU 2 J 1 J) H ?_
          refine tN 8 J J H ?_
          refine rt 9 _ (y_sub s.qA.length 1 J J qf) H ?_
          refine ro 10 J<|oq (VN Iu.drew r.xn[k]!.qW 0<|s.qA.length-1) H fun KW H=>⟨H,(rtp 11 (Bv (!(inR r.xn[k]!.qW 0<|s.qA.length-1))) H ?_)⟩
          refine rtp 12 (Bv (!(inR r.xn[k]!.qW 0<|s.qA.length-1))) H ?_
          cases Cj:(!(inR r.xn[k]!.qW 0 (s.qA.length-1)))
          ·replace Cj:=xw Cj
           replace Cj:=QW.1 Cj
           refine rgl 13 126 H ?_
           refine rgl 14 126 H ?_
           refine rgl 15 126 H ?_
           refine gF 16 J J H ?_
           refine gL 17 J J (fun _ h=>h.zU 1 J 0 J) H ?_
           refine rgl 18 126 H ?_
           refine rgl 19 126 H ?_
           refine gF 20 J J H ?_
           refine gL 21 J J (fun _ h=>h.zU 5 J 0 J) H ?_
           refine jw [22] qh qm<|Vu J (e:=126) J J (oq (l02In_ok _ s r.xn[k]!.qW r.qW (qH (H.get 2 J) 0 3) (H.get 3 J).1 (H.get 4 J).1 ql ql) H fun Qt H=>⟨H,(rgp 23 (Bv (!(dec<|Lies s.qA r.qW r.xn[k]!.qW))) 126 H ?_)⟩) jy
           refine rtp 24 (Bv (!(dec<|Lies s.qA r.qW r.xn[k]!.qW))) H ?_
           refine rtp 25 (Bv (!(dec<|Lies s.qA r.qW r.xn[k]!.qW))) H ?_
           cases rP:(!(dec (Lies s.qA r.qW r.xn[k]!.qW)))
           ·replace rP:=xw rP
            replace rP:=Qy rP
            refine rgl 26 139 H ?_
            refine rgl 27 139 H ?_
            refine rgl 28 139 H ?_
            refine gF 29 J J H ?_
            refine gL 30 J J (fun _ h=>h.zU 1 J 1 J) H ?_
            refine jw [31] qh qm<|Vu J (e:=139) J J (oq (XA _ s r.xn[k]!.Xc (qH (H.get 2 J) 0 3) (H.get 3 J).1 (H.get 4 J).1 (H.get 0 J).1) H fun w41 H=>⟨H,(rgp 32 (Bv (!(dec<|jd s.qQ r.xn[k]!.Xc))) 139 H ?_)⟩) jy
            refine rtp 33 (Bv (!(dec<|jd s.qQ r.xn[k]!.Xc))) H ?_
            refine rtp 34 (Bv (!(dec<|jd s.qQ r.xn[k]!.Xc))) H ?_
            cases K2:(!(dec (jd s.qQ r.xn[k]!.Xc)))
            ·replace K2:=xw K2
             replace K2:=Qy K2
             refine rgl 35 148 H ?_
             refine rgl 36 148 H ?_
             refine gF 37 J J H ?_
             refine gL 38 J J (fun _ h=>h.zU 1 J 1 J) H ?_
             refine jw [39] qh qm<|Vu J (e:=148) J J (oq (l01Size_ok _ r.xn[k]!.Xc (H.get 0 J).1<|by exact ja ql) H fun L7 H=>⟨H,(rgp 40 (Bv ((Yk (r.xn[k]!.Xc):Int) == 0)) 148 H ?_)⟩) jy
             refine rtp 41 (Bv ((Yk (r.xn[k]!.Xc):Int) == 0)) H ?_
             refine xx qh<|t_n<|cE J (fun Th=>?_)<|fun Th=>?_
             ·refine zcr (sp (Bv false)<|zjr<|t_r<|zr5<|rH1 (Bv false) H ?_)
              rw[xH (fun h=>by obtain⟨h1,h2,h3,h4,h5,h6,h7,h8,h9,cK,cf⟩:=h;(obtain⟨q1,q2,q3,q4,q5⟩:=cf k qf;contradiction))]
             refine xe<|t_n<|xO<|QY J H fun H=>rtp 0 (yI k) H ?_
             refine rtp 1 (Bv<|decide ((k:Int)>0)) H ?_
             refine rtp 2 (Bv<|decide ((k:Int)>0)) H ?_
             cases Fv:(decide ((k:Int)>0))
             ·replace Fv:=of_decide_eq_false Fv
              refine vC (zR 3 14) 14 (H)<|rtp 17 (Bv false) H ?_
              refine xx qh<|t_n<|cFr J<|xe<|b_n<|t_n<|zf<|sp (yI k)<|sw<|zY k 1 J J qf<|sq 1<|xX<|xu (m':=r.xn.length-(k+1)) qf ⟨_,k+1,uE3,?_,?_,J,H.sel _ (.refl _) _ qm⟩
              ·omega
              ·exact i1.succ ⟨‹_›,‹_›,‹_›,‹_›,fun hk=>by omega⟩
             replace Fv:=of_decide_eq_true Fv
             refine rgl 3 158 H ?_
             refine rgl 4 158 H ?_
             refine gF 5 J J H ?_
             refine gL 6 J J (fun _ h=>h.zU 5 J 7 J) H ?_
             refine rgp 7 (yI k) 158 H ?_
             refine rg 8 _ 158 (y_sub k 1 J J qf) H ?_
             obtain⟨avk,auy,atx,H⟩:=H.Qr 11 rfl (k-1) (k-1) qf qf qf
             refine gI 9 J J J (H.sel _ (.refl _) _<|fun _ h=>List.mem_cons_of_mem _<|List.mem_cons_of_mem _<|h) ?_
             refine gF 10 J J (H.sel _ (.refl _) _<|fun _ h=>List.mem_cons_of_mem _<|List.mem_cons_of_mem _<|h) ?_
             refine rgl 12 158 (H.sel _ (.refl _) _<|fun _ h=>List.mem_cons_of_mem _<|List.mem_cons_of_mem _<|h) ?_
             refine rgl 13 158 (H.sel _ (.refl _) _<|fun _ h=>List.mem_cons_of_mem _<|List.mem_cons_of_mem _<|h) ?_
             refine gF 14 J J (H.sel _ (.refl _) _<|fun _ h=>List.mem_cons_of_mem _<|List.mem_cons_of_mem _<|h) ?_
             refine gL 15 J J (fun _ h=>h.zU 1 J 0 J) (H.sel _ (.refl _) _<|fun _ h=>List.mem_cons_of_mem _<|List.mem_cons_of_mem _<|h) ?_
             refine jw [11] qh qm<|Vu rfl (e:=158) rfl rfl (zx (yI r.xn[k-1]!.qW) isAgg2 rfl (H.zU 1 rfl 0 rfl)<|⟨H.dF 2,(rgl 16 158 (H.sel _ (.refl _) _<|fun _ h=>List.mem_cons_of_mem _<|List.mem_cons_of_mem _<|h) ?_)⟩) jy
             refine rtl 17 (H.sel _ (.refl _) _<|fun _ h=>List.mem_cons_of_mem _<|List.mem_cons_of_mem _<|h) ?_
             refine xx qh<|t_n<|cD J (fun h50=>?_)<|fun h50=>?_
             ·refine zcr (sp (Bv false)<|zjr<|zr5<|rH1 (Bv false) H ?_)
              rw[xH (fun h=>by obtain⟨h1,h2,h3,h4,h5,h6,h7,h8,h9,cK,cf⟩:=h;(obtain⟨q1,q2,q3,q4,q5⟩:=cf k qf;omega))]
             refine xe<|b_n<|t_n<|zf<|sp (yI k)<|sw<|zY k 1 J J qf<|sq 1<|xX<|xu (m':=r.xn.length-(k+1)) qf ⟨_,k+1,uE3,?_,?_,J,H.sel _ (.refl _) _ qm⟩
             ·omega
             ·exact i1.succ ⟨‹_›,‹_›,‹_›,‹_›,fun hk=>by omega⟩
            replace K2:=xF K2
            replace K2:=vS K2
            refine vC (zR 35 6) 6 (H)<|rtp 41 (Bv true) H ?_
            refine xx qh<|t_n<|cTr J<|zcr<|sp (Bv false)<|zjr<|t_r<|zr5<|rH1 (Bv false) H ?_
            rw[xH (fun h=>by obtain⟨h1,h2,h3,h4,h5,h6,h7,h8,h9,cK,cf⟩:=h;(obtain⟨q1,q2,q3,q4,q5⟩:=cf k qf;contradiction))]
           replace rP:=xF rP
           replace rP:=vS rP
           refine vC (zR 26 7) 7 (H)<|rtp 33 (Bv true) H ?_
           refine rtp 34 (Bv true) H ?_
           refine vC (zR 35 6) 6 (H)<|rtp 41 (Bv true) H ?_
           refine xx qh<|t_n<|cTr J<|zcr<|sp (Bv false)<|zjr<|t_r<|zr5<|rH1 (Bv false) H ?_
           rw[xH (fun h=>by obtain⟨h1,h2,h3,h4,h5,h6,h7,h8,h9,cK,cf⟩:=h;(obtain⟨q1,q2,q3,q4,q5⟩:=cf k qf;contradiction))]
          replace Cj:=xF Cj
          replace Cj:=Xl Cj
          refine vC (zR 13 11) 11 (H)<|rtp 24 (Bv true) H ?_
          refine rtp 25 (Bv true) H ?_
          refine vC (zR 26 7) 7 (H)<|rtp 33 (Bv true) H ?_
          refine rtp 34 (Bv true) H ?_
          refine vC (zR 35 6) 6 (H)<|rtp 41 (Bv true) H ?_
          refine xx qh<|t_n<|cTr J<|zcr<|sp (Bv false)<|zjr<|t_r<|zr5<|rH1 (Bv false) H ?_
          rw[xH (fun h=>by obtain⟨h1,h2,h3,h4,h5,h6,h7,h8,h9,cK,cf⟩:=h;(obtain⟨q1,q2,q3,q4,q5⟩:=cf k qf;contradiction))]
         refine zx4<|zcr<|sp (Bv true)<|zjr<|rH1 (Bv true) H ?_
         obtain rfl:k=r.xn.length:=by omega
         rw[QD ⟨by assumption,by omega,by simp_all,by omega,by assumption,by assumption,by assumption,by assumption,by assumption,by assumption,i1⟩]
        replace CW:=xF CW
        replace CW:=vS CW
        refine zk (zR 92 6)<|sp (Bv true)<|zjn<|cTr J<|zcr<|sp (Bv false)<|zjr<|t_r<|rH1 (Bv false) H ?_
        rw[xH (fun h=>by obtain⟨h1,h2,h3,h4,h5,h6,h7,h8,h9,cK,cf⟩:=h;contradiction)]
       replace ua:=xF ua
       replace ua:=vS ua
       refine zk (zR 83 7)<|sp (Bv true)<|sp (Bv true)<|zk (zR 92 6)<|sp (Bv true)<|zjn<|cTr J<|zcr<|sp (Bv false)<|zjr<|t_r<|rH1 (Bv false) H ?_
       rw[xH (fun h=>by obtain⟨h1,h2,h3,h4,h5,h6,h7,h8,h9,cK,cf⟩:=h;contradiction)]
      replace i7:=xF i7
      replace i7:=vS i7
      refine zk (zR 74 7)<|sp (Bv true)<|sp (Bv true)<|zk (zR 83 7)<|sp (Bv true)<|sp (Bv true)<|zk (zR 92 6)<|sp (Bv true)<|zjn<|cTr J<|zcr<|sp (Bv false)<|zjr<|t_r<|rH1 (Bv false) H ?_
      rw[xH (fun h=>by obtain⟨h1,h2,h3,h4,h5,h6,h7,h8,h9,cK,cf⟩:=h;contradiction)]
     replace oA:=xF oA
     replace oA:=vS oA
     refine zk (zR 65 7)<|sp (Bv true)<|sp (Bv true)<|zk (zR 74 7)<|sp (Bv true)<|sp (Bv true)<|zk (zR 83 7)<|sp (Bv true)<|sp (Bv true)<|zk (zR 92 6)<|sp (Bv true)<|zjn<|cTr J<|zcr<|sp (Bv false)<|zjr<|t_r<|rH1 (Bv false) H ?_
     rw[xH (fun h=>by obtain⟨h1,h2,h3,h4,h5,h6,h7,h8,h9,cK,cf⟩:=h;contradiction)]
    replace iz:=xF iz
    replace iz:=vS iz
    refine zk (zR 56 7)<|sp (Bv true)<|sp (Bv true)<|zk (zR 65 7)<|sp (Bv true)<|sp (Bv true)<|zk (zR 74 7)<|sp (Bv true)<|sp (Bv true)<|zk (zR 83 7)<|sp (Bv true)<|sp (Bv true)<|zk (zR 92 6)<|sp (Bv true)<|zjn<|cTr J<|zcr<|sp (Bv false)<|zjr<|t_r<|rH1 (Bv false) H ?_
    rw[xH (fun h=>by obtain⟨h1,h2,h3,h4,h5,h6,h7,h8,h9,cK,cf⟩:=h;contradiction)]
   rw[h8] at H
   refine rgl 26 32 H ?_
   refine rgl 27 32 H ?_
   refine gF 28 J J H ?_
   refine gL 29 J J (fun _ h=>h.zU 3 J 0 J) H ?_
   refine rgp 30 (Bv ((r.qW:Int) == 0)) 32 H ?_
   refine rgp 31 (Bv ((r.qW:Int) == 0)) 27 H ?_
   refine rtp 32 (Bv ((r.qW:Int) == 0)) H ?_
   refine rtp 33 (Bv ((r.qW:Int) == 0)) H ?_
   cases Sq:((r.qW:Int) == 0)
   ·replace Sq:=ne_of_beq_false Sq
    refine rgl 34 40 H ?_
    refine rgl 35 40 H ?_
    refine gF 36 J J H ?_
    refine gL 37 J J (fun _ h=>h.zU 3 J 7 J) H ?_
    refine gN 38 J J H ?_
    refine rgp 39 (Bv<|decide ((r.xn.length:Int)>3)) 40 H ?_
    refine rtp 40 (Bv<|decide ((r.xn.length:Int)>3)) H ?_
    refine xx qh<|t_n<|cD J (fun J4=>?_)<|fun J4=>?_
    ·refine zcr (sp (Bv false)<|zjr<|t_r<|rH1 (Bv false) H ?_)
     rw[xH (fun h=>by obtain⟨h1,h2,h3,h4,h5,h6,h7,h8,h9,cK,cf⟩:=h;omega)]
    refine xe<|t_n<|zcc<|sq 3<|oF J<|oL J (H.zU 3 J 2 J)<|sw<|oq (XA _ s r.vg (qH (H.get 0 J) 0 3) (H.get 1 J).1 (H.get 2 J).1 (H.get 4 J).1) H fun w53 H=>sp (Bv (!(dec<|jd s.qQ r.vg)))<|sp (Bv (!(dec<|jd s.qQ r.vg))) ?_
    cases Yq:(!(dec (jd s.qQ r.vg)))
    ·replace Yq:=xw Yq
     replace Yq:=Qy Yq
     refine qP 55 J J<|sq 1<|qP 55 J J<|sq 1<|qP 55 J J<|sq 1<|qP 55 J J<|oF J<|qP 55 J J<|oL J (H.zU 3 J 3 J)<|qP 55 J J<|sw<|oq (XA _ s r.jI (qH (H.get 0 J) 0 3) (H.get 1 J).1 (H.get 2 J).1 (H.get 5 J).1) H fun R7 H=>qP 55 J J<|sp (Bv (!(dec<|jd s.qQ r.jI)))<|sp (Bv (!(dec<|jd s.qQ r.jI)))<|sp (Bv (!(dec<|jd s.qQ r.jI))) ?_
     cases LW:(!(dec (jd s.qQ r.jI)))
     ·replace LW:=xw LW
      replace LW:=Qy LW
      refine qP 64 J J<|sq 1<|qP 64 J J<|sq 1<|qP 64 J J<|sq 1<|qP 64 J J<|oF J<|qP 64 J J<|oL J (H.zU 3 J 4 J)<|qP 64 J J<|sw<|oq (XA _ s r.jK (qH (H.get 0 J) 0 3) (H.get 1 J).1 (H.get 2 J).1 (H.get 6 J).1) H fun w59 H=>qP 64 J J<|sp (Bv (!(dec<|jd s.qQ r.jK)))<|sp (Bv (!(dec<|jd s.qQ r.jK)))<|sp (Bv (!(dec<|jd s.qQ r.jK))) ?_
      cases E1:(!(dec (jd s.qQ r.jK)))
      ·replace E1:=xw E1
       replace E1:=Qy E1
       refine qP 73 J J<|sq 1<|qP 73 J J<|sq 1<|qP 73 J J<|sq 1<|qP 73 J J<|oF J<|qP 73 J J<|oL J (H.zU 3 J 5 J)<|qP 73 J J<|sw<|oq (XA _ s r.jq (qH (H.get 0 J) 0 3) (H.get 1 J).1 (H.get 2 J).1 (H.get 7 J).1) H fun w62 H=>qP 73 J J<|sp (Bv (!(dec<|jd s.qQ r.jq)))<|sp (Bv (!(dec<|jd s.qQ r.jq)))<|sp (Bv (!(dec<|jd s.qQ r.jq))) ?_
       cases h64:(!(dec (jd s.qQ r.jq)))
       ·replace h64:=xw h64
        replace h64:=Qy h64
        refine qP 82 J J<|sq 1<|qP 82 J J<|sq 1<|qP 82 J J<|sq 1<|qP 82 J J<|oF J<|qP 82 J J<|oL J (H.zU 3 J 6 J)<|qP 82 J J<|sw<|oq (XA _ s r.Qz (qH (H.get 0 J) 0 3) (H.get 1 J).1 (H.get 2 J).1 (H.get 8 J).1) H fun w65 H=>qP 82 J J<|sp (Bv (!(dec<|jd s.qQ r.Qz)))<|sp (Bv (!(dec<|jd s.qQ r.Qz)))<|sp (Bv (!(dec<|jd s.qQ r.Qz))) ?_
        cases UT:(!(dec (jd s.qQ r.Qz)))
        ·replace UT:=xw UT
         replace UT:=Qy UT
         refine qP 91 J J<|sq 1<|qP 91 J J<|sq 1<|qP 91 J J<|oF J<|qP 91 J J<|oL J (H.zU 3 J 2 J)<|qP 91 J J<|sw<|oq (l01Size_ok _ r.vg (H.get 4 J).1<|by exact ja ql) H fun w68 H=>qP 91 J J<|sp (Bv ((Yk r.vg:Int) == 0))<|sp (Bv ((Yk r.vg:Int) == 0))<|zjn<|cE J (fun h70=>?_)<|fun h70=>?_
         ·refine zcr (sp (Bv false)<|zjr<|t_r<|rH1 (Bv false) H ?_)
          rw[xH (fun h=>by obtain⟨h1,h2,h3,h4,h5,h6,h7,h8,h9,cK,cf⟩:=h;contradiction)]
         refine xe<|t_n<|zcc<|sp (yI 0)<|zjn<|xg<|vk ((fun Z0 Z1 Z2 Z3 Z4 Z5 Z6 Z7 Z8 Z9=>fun m' ρ w71=>∃(xR:Env) (k:Nat),ρ=upd (upd (upd xR 0<|pp bs os) 1<|pp br or) 5 (yI k)/\(k<=r.xn.length)/\(IntosTo s r k)/\m'=r.xn.length-k/\St w w71 [] [Z0,Z1,Z2,Z3,Z4,Z5,Z6,Z7,Z8,Z9]) _ _ _ _ _ _ _ _ _ _) (r.xn.length-0) ⟨_,0,uE3,qf,qx,J,H⟩ ?_
         clear H
         rintro m' ρ LT ⟨xR,k,rfl,i0,i1,rfl,H⟩
         refine zcc<|sp (yI k)<|sq 2<|oF J<|oL J (H.zU 3 J 7 J)<|oN J<|sq 1<|zjn<|cD J (fun h73=>?_)<|fun h73=>?_
         ·refine xe (t_n<|xO<|xg<|zcr<|sq 2<|oF J<|oL J (H.zU 3 J 7 J)<|sp (yI k) ?_)
          obtain⟨b74,o75,rfl⟩:=H.addr 9 rfl qf
          obtain⟨atQ,auw,aty,H⟩:=H.Qr 9 rfl k k qf qf qf
          refine oI J J<|sq 1<|zjn<|xO<|xO<|QY J H fun H=>rtl 0 H ?_
          refine rtl 1 H ?_
          refine tF 2 J J H ?_
          refine tL 3 J J (fun _ h=>h.zU 1 J 0 J) H ?_
          refine rtl 4 H ?_
          refine rtl 5 H ?_
          refine tF 6 J J H ?_
          refine tL 7 J J (fun _ h=>h.zU 2 J 1 J) H ?_
          refine tN 8 J J H ?_
          refine rt 9 _ (y_sub s.qA.length 1 J J qf) H ?_
          refine ro 10 J<|oq (VN LT.drew r.xn[k]!.qW 0<|s.qA.length-1) H fun w78 H=>⟨H,(rtp 11 (Bv (!(inR r.xn[k]!.qW 0<|s.qA.length-1))) H ?_)⟩
          refine rtp 12 (Bv (!(inR r.xn[k]!.qW 0<|s.qA.length-1))) H ?_
          cases Yu:(!(inR r.xn[k]!.qW 0 (s.qA.length-1)))
          ·replace Yu:=xw Yu
           replace Yu:=QW.1 Yu
           refine rgl 13 126 H ?_
           refine rgl 14 126 H ?_
           refine rgl 15 126 H ?_
           refine gF 16 J J H ?_
           refine gL 17 J J (fun _ h=>h.zU 1 J 0 J) H ?_
           refine rgl 18 126 H ?_
           refine rgl 19 126 H ?_
           refine gF 20 J J H ?_
           refine gL 21 J J (fun _ h=>h.zU 5 J 0 J) H ?_
           refine jw [22] qh qm<|Vu J (e:=126) J J (oq (l02In_ok _ s r.xn[k]!.qW r.qW (qH (H.get 2 J) 0 3) (H.get 3 J).1 (H.get 4 J).1 ql ql) H fun w81 H=>⟨H,(rgp 23 (Bv (!(dec<|Lies s.qA r.qW r.xn[k]!.qW))) 126 H ?_)⟩) jy
           refine rtp 24 (Bv (!(dec<|Lies s.qA r.qW r.xn[k]!.qW))) H ?_
           refine rtp 25 (Bv (!(dec<|Lies s.qA r.qW r.xn[k]!.qW))) H ?_
           cases zw:(!(dec (Lies s.qA r.qW r.xn[k]!.qW)))
           ·replace zw:=xw zw
            replace zw:=Qy zw
            refine rgl 26 139 H ?_
            refine rgl 27 139 H ?_
            refine rgl 28 139 H ?_
            refine gF 29 J J H ?_
            refine gL 30 J J (fun _ h=>h.zU 1 J 1 J) H ?_
            refine jw [31] qh qm<|Vu J (e:=139) J J (oq (XA _ s r.xn[k]!.Xc (qH (H.get 2 J) 0 3) (H.get 3 J).1 (H.get 4 J).1 (H.get 0 J).1) H fun w84 H=>⟨H,(rgp 32 (Bv (!(dec<|jd s.qQ r.xn[k]!.Xc))) 139 H ?_)⟩) jy
            refine rtp 33 (Bv (!(dec<|jd s.qQ r.xn[k]!.Xc))) H ?_
            refine rtp 34 (Bv (!(dec<|jd s.qQ r.xn[k]!.Xc))) H ?_
            cases Ec:(!(dec (jd s.qQ r.xn[k]!.Xc)))
            ·replace Ec:=xw Ec
             replace Ec:=Qy Ec
             refine rgl 35 148 H ?_
             refine rgl 36 148 H ?_
             refine gF 37 J J H ?_
             refine gL 38 J J (fun _ h=>h.zU 1 J 1 J) H ?_
             refine jw [39] qh qm<|Vu J (e:=148) J J (oq (l01Size_ok _ r.xn[k]!.Xc (H.get 0 J).1<|by exact ja ql) H fun w87 H=>⟨H,(rgp 40 (Bv ((Yk (r.xn[k]!.Xc):Int) == 0)) 148 H ?_)⟩) jy
             refine rtp 41 (Bv ((Yk (r.xn[k]!.Xc):Int) == 0)) H ?_
             refine xx qh<|t_n<|cE J (fun h89=>?_)<|fun h89=>?_
             ·refine zcr (sp (Bv false)<|zjr<|t_r<|zr5<|rH1 (Bv false) H ?_)
              rw[xH (fun h=>by obtain⟨h1,h2,h3,h4,h5,h6,h7,h8,h9,cK,cf⟩:=h;(obtain⟨q1,q2,q3,q4,q5⟩:=cf k qf;contradiction))]
             refine xe<|t_n<|xO<|QY J H fun H=>rtp 0 (yI k) H ?_
             refine rtp 1 (Bv<|decide ((k:Int)>0)) H ?_
             refine rtp 2 (Bv<|decide ((k:Int)>0)) H ?_
             cases h91:(decide ((k:Int)>0))
             ·replace h91:=of_decide_eq_false h91
              refine vC (zR 3 14) 14 (H)<|rtp 17 (Bv false) H ?_
              refine xx qh<|t_n<|cFr J<|xe<|b_n<|t_n<|zf<|sp (yI k)<|sw<|zY k 1 J J qf<|sq 1<|xX<|xu (m':=r.xn.length-(k+1)) qf ⟨_,k+1,uE3,?_,?_,J,H.sel _ (.refl _) _ qm⟩
              ·omega
              ·exact i1.succ ⟨‹_›,‹_›,‹_›,‹_›,fun hk=>by omega⟩
             replace h91:=of_decide_eq_true h91
             refine rgl 3 158 H ?_
             refine rgl 4 158 H ?_
             refine gF 5 J J H ?_
             refine gL 6 J J (fun _ h=>h.zU 5 J 7 J) H ?_
             refine rgp 7 (yI k) 158 H ?_
             refine rg 8 _ 158 (y_sub k 1 J J qf) H ?_
             obtain⟨tY,t0,TP,H⟩:=H.Qr 11 rfl (k-1) (k-1) qf qf qf
             refine gI 9 J J J (H.sel _ (.refl _) _<|fun _ h=>List.mem_cons_of_mem _<|List.mem_cons_of_mem _<|h) ?_
             refine gF 10 J J (H.sel _ (.refl _) _<|fun _ h=>List.mem_cons_of_mem _<|List.mem_cons_of_mem _<|h) ?_
             refine rgl 12 158 (H.sel _ (.refl _) _<|fun _ h=>List.mem_cons_of_mem _<|List.mem_cons_of_mem _<|h) ?_
             refine rgl 13 158 (H.sel _ (.refl _) _<|fun _ h=>List.mem_cons_of_mem _<|List.mem_cons_of_mem _<|h) ?_
             refine gF 14 J J (H.sel _ (.refl _) _<|fun _ h=>List.mem_cons_of_mem _<|List.mem_cons_of_mem _<|h) ?_
             refine gL 15 J J (fun _ h=>h.zU 1 J 0 J) (H.sel _ (.refl _) _<|fun _ h=>List.mem_cons_of_mem _<|List.mem_cons_of_mem _<|h) ?_
             refine jw [11] qh qm<|Vu rfl (e:=158) rfl rfl (zx (yI r.xn[k-1]!.qW) isAgg2 rfl (H.zU 1 rfl 0 rfl)<|⟨H.dF 2,(rgl 16 158 (H.sel _ (.refl _) _<|fun _ h=>List.mem_cons_of_mem _<|List.mem_cons_of_mem _<|h) ?_)⟩) jy
             refine rtl 17 (H.sel _ (.refl _) _<|fun _ h=>List.mem_cons_of_mem _<|List.mem_cons_of_mem _<|h) ?_
             refine xx qh<|t_n<|cD J (fun LS=>?_)<|fun LS=>?_
             ·refine zcr (sp (Bv false)<|zjr<|zr5<|rH1 (Bv false) H ?_)
              rw[xH (fun h=>by obtain⟨h1,h2,h3,h4,h5,h6,h7,h8,h9,cK,cf⟩:=h;(obtain⟨q1,q2,q3,q4,q5⟩:=cf k qf;omega))]
             refine xe<|b_n<|t_n<|zf<|sp (yI k)<|sw<|zY k 1 J J qf<|sq 1<|xX<|xu (m':=r.xn.length-(k+1)) qf ⟨_,k+1,uE3,?_,?_,J,H.sel _ (.refl _) _ qm⟩
             ·omega
             ·exact i1.succ ⟨‹_›,‹_›,‹_›,‹_›,fun hk=>by omega⟩
            replace Ec:=xF Ec
            replace Ec:=vS Ec
            refine vC (zR 35 6) 6 (H)<|rtp 41 (Bv true) H ?_
            refine xx qh<|t_n<|cTr J<|zcr<|sp (Bv false)<|zjr<|t_r<|zr5<|rH1 (Bv false) H ?_
            rw[xH (fun h=>by obtain⟨h1,h2,h3,h4,h5,h6,h7,h8,h9,cK,cf⟩:=h;(obtain⟨q1,q2,q3,q4,q5⟩:=cf k qf;contradiction))]
           replace zw:=xF zw
           replace zw:=vS zw
           refine vC (zR 26 7) 7 (H)<|rtp 33 (Bv true) H ?_
           refine rtp 34 (Bv true) H ?_
           refine vC (zR 35 6) 6 (H)<|rtp 41 (Bv true) H ?_
           refine xx qh<|t_n<|cTr J<|zcr<|sp (Bv false)<|zjr<|t_r<|zr5<|rH1 (Bv false) H ?_
           rw[xH (fun h=>by obtain⟨h1,h2,h3,h4,h5,h6,h7,h8,h9,cK,cf⟩:=h;(obtain⟨q1,q2,q3,q4,q5⟩:=cf k qf;contradiction))]
          replace Yu:=xF Yu
          replace Yu:=Xl Yu
          refine vC (zR 13 11) 11 (H)<|rtp 24 (Bv true) H ?_
          refine rtp 25 (Bv true) H ?_
          refine vC (zR 26 7) 7 (H)<|rtp 33 (Bv true) H ?_
          refine rtp 34 (Bv true) H ?_
          refine vC (zR 35 6) 6 (H)<|rtp 41 (Bv true) H ?_
          refine xx qh<|t_n<|cTr J<|zcr<|sp (Bv false)<|zjr<|t_r<|zr5<|rH1 (Bv false) H ?_
          rw[xH (fun h=>by obtain⟨h1,h2,h3,h4,h5,h6,h7,h8,h9,cK,cf⟩:=h;(obtain⟨q1,q2,q3,q4,q5⟩:=cf k qf;contradiction))]
         refine zx4<|zcr<|sp (Bv true)<|zjr<|rH1 (Bv true) H ?_
         obtain rfl:k=r.xn.length:=by omega
         rw[QD ⟨by assumption,by omega,by simp_all,by omega,by assumption,by assumption,by assumption,by assumption,by assumption,by assumption,i1⟩]
        replace UT:=xF UT
        replace UT:=vS UT
        refine zk (zR 92 6)<|sp (Bv true)<|zjn<|cTr J<|zcr<|sp (Bv false)<|zjr<|t_r<|rH1 (Bv false) H ?_
        rw[xH (fun h=>by obtain⟨h1,h2,h3,h4,h5,h6,h7,h8,h9,cK,cf⟩:=h;contradiction)]
       replace h64:=xF h64
       replace h64:=vS h64
       refine zk (zR 83 7)<|sp (Bv true)<|sp (Bv true)<|zk (zR 92 6)<|sp (Bv true)<|zjn<|cTr J<|zcr<|sp (Bv false)<|zjr<|t_r<|rH1 (Bv false) H ?_
       rw[xH (fun h=>by obtain⟨h1,h2,h3,h4,h5,h6,h7,h8,h9,cK,cf⟩:=h;contradiction)]
      replace E1:=xF E1
      replace E1:=vS E1
      refine zk (zR 74 7)<|sp (Bv true)<|sp (Bv true)<|zk (zR 83 7)<|sp (Bv true)<|sp (Bv true)<|zk (zR 92 6)<|sp (Bv true)<|zjn<|cTr J<|zcr<|sp (Bv false)<|zjr<|t_r<|rH1 (Bv false) H ?_
      rw[xH (fun h=>by obtain⟨h1,h2,h3,h4,h5,h6,h7,h8,h9,cK,cf⟩:=h;contradiction)]
     replace LW:=xF LW
     replace LW:=vS LW
     refine zk (zR 65 7)<|sp (Bv true)<|sp (Bv true)<|zk (zR 74 7)<|sp (Bv true)<|sp (Bv true)<|zk (zR 83 7)<|sp (Bv true)<|sp (Bv true)<|zk (zR 92 6)<|sp (Bv true)<|zjn<|cTr J<|zcr<|sp (Bv false)<|zjr<|t_r<|rH1 (Bv false) H ?_
     rw[xH (fun h=>by obtain⟨h1,h2,h3,h4,h5,h6,h7,h8,h9,cK,cf⟩:=h;contradiction)]
    replace Yq:=xF Yq
    replace Yq:=vS Yq
    refine zk (zR 56 7)<|sp (Bv true)<|sp (Bv true)<|zk (zR 65 7)<|sp (Bv true)<|sp (Bv true)<|zk (zR 74 7)<|sp (Bv true)<|sp (Bv true)<|zk (zR 83 7)<|sp (Bv true)<|sp (Bv true)<|zk (zR 92 6)<|sp (Bv true)<|zjn<|cTr J<|zcr<|sp (Bv false)<|zjr<|t_r<|rH1 (Bv false) H ?_
    rw[xH (fun h=>by obtain⟨h1,h2,h3,h4,h5,h6,h7,h8,h9,cK,cf⟩:=h;contradiction)]
   replace Sq:=eq_of_beq Sq
   refine vC (zR 34 6) 6 (H)<|rtp 40 (Bv true) H ?_
   refine xx qh<|t_n<|cTr J<|zcr<|sp (Bv false)<|zjr<|t_r<|rH1 (Bv false) H ?_
   rw[xH (fun h=>by obtain⟨h1,h2,h3,h4,h5,h6,h7,h8,h9,cK,cf⟩:=h;exact h3 ⟨‹_›,‹_›⟩)]
  replace h7:=xF h7
  replace h7:=Xl h7
  refine vC (zR 21 11) 11 (H)<|rtp 32 (Bv true) H ?_
  refine rtp 33 (Bv true) H ?_
  refine vC (zR 34 6) 6 (H)<|rtp 40 (Bv true) H ?_
  refine xx qh<|t_n<|cTr J<|zcr<|sp (Bv false)<|zjr<|t_r<|rH1 (Bv false) H ?_
  rw[xH (fun h=>by obtain⟨h1,h2,h3,h4,h5,h6,h7,h8,h9,cK,cf⟩:=h;contradiction)]
 replace h4:=xF h4
 replace h4:=Xl h4
 refine vC (zR 13 6) 6 (H)<|rtp 19 (Bv true) H ?_
 refine rtp 20 (Bv true) H ?_
 refine vC (zR 21 11) 11 (H)<|rtp 32 (Bv true) H ?_
 refine rtp 33 (Bv true) H ?_
 refine vC (zR 34 6) 6 (H)<|rtp 40 (Bv true) H ?_
 refine xx qh<|t_n<|cTr J<|zcr<|sp (Bv false)<|zjr<|t_r<|rH1 (Bv false) H ?_
 rw[xH (fun h=>by obtain⟨h1,h2,h3,h4,h5,h6,h7,h8,h9,cK,cf⟩:=h;contradiction)]
theorem l02State_ok(w:World)(s:qJ)(t:qV)(hs:jO w bs os (yS s qM qL xm xh))(qZ:zP w xN qM qL s.qA)(xM:zP w zN xm xh s.qB)(ht:jO w bt ot (yT t xK xI zB zq xC xy))(zS:zP w vV xK xI t.qO)(vK:zP w jM zB zq t.qG)(zi:zP w zZ xC xy t.qF)(p0:yf s):Calls Tryz.prog 43 #[pp bs os,pp bt ot] w (Ret (fun v w'=>v=Bv (dec<|zA s t)) w):=by
 refine en func43 ntmps43 ?_
 have H:=(((((((St.start w).arg zi).arg vK).arg zS).argAt ht).arg xM).arg qZ).argAt hs
 have vT:=qN qZ
 have jP:=qN xM
 have QM:=qN zS
 have Xt:=qN vK
 have Qe:=qN zi
 clear hs qZ xM ht zS vK zi
 have p1:=p0.2.1
 refine zcr<|sp (Bv false)<|zjn<|xO<|xO<|QY J H fun H=>rtl 0 H ?_
 refine rtl 1 H ?_
 refine tF 2 J J H ?_
 refine tL 3 J J (fun _ h=>h.zU 3 J 0 J) H ?_
 refine tN 4 J J H ?_
 refine rtl 5 H ?_
 refine rtl 6 H ?_
 refine tF 7 J J H ?_
 refine tL 8 J J (fun _ h=>h.zU 0 J 1 J) H ?_
 refine tN 9 J J H ?_
 refine rtp 10 (Bv ((t.qO.length:Int) != s.qA.length)) H ?_
 refine rtp 11 (Bv ((t.qO.length:Int) != s.qA.length)) H ?_
 cases h2:((t.qO.length:Int) != s.qA.length)
 ·replace h2:=zo h2
  refine rgl 12 17 H ?_
  refine rgl 13 17 H ?_
  refine gF 14 J J H ?_
  refine gL 15 J J (fun _ h=>h.zU 3 J 1 J) H ?_
  refine gN 16 J J H ?_
  refine rgl 17 17 H ?_
  refine rgl 18 17 H ?_
  refine gF 19 J J H ?_
  refine gL 20 J J (fun _ h=>h.zU 0 J 1 J) H ?_
  refine gN 21 J J H ?_
  refine rgp 22 (Bv ((t.qG.length:Int) != s.qA.length)) 17 H ?_
  refine rtp 23 (Bv ((t.qG.length:Int) != s.qA.length)) H ?_
  refine rtp 24 (Bv ((t.qG.length:Int) != s.qA.length)) H ?_
  cases h3:((t.qG.length:Int) != s.qA.length)
  ·replace h3:=zo h3
   refine rgl 25 30 H ?_
   refine rgl 26 30 H ?_
   refine gF 27 J J H ?_
   refine gL 28 J J (fun _ h=>h.zU 3 J 0 J) H ?_
   obtain⟨b4,o5,rfl⟩:=H.addr 4 rfl qf
   refine gI 29 J J J H ?_
   refine gL 30 J J (fun _ h=>h.elemBoolN 4 J 0 qf) H ?_
   refine rgp 31 (Bv (!(t.qO[0]!))) 30 H ?_
   refine rtp 32 (Bv (!(t.qO[0]!))) H ?_
   refine rtp 33 (Bv (!(t.qO[0]!))) H ?_
   cases h6:(!(t.qO[0]!))
   ·replace h6:=xw h6
    refine rgl 34 39 H ?_
    refine rgl 35 39 H ?_
    refine rgl 36 39 H ?_
    refine gF 37 J J H ?_
    refine gL 38 J J (fun _ h=>h.zU 3 J 2 J) H ?_
    refine jw [39] qh qm<|Vu J (e:=39) J J (oq (XA _ s t.qF (qH (H.get 0 J) 0 3) (H.get 1 J).1 (H.get 2 J).1 (H.get 6 J).1) H fun w7 H=>⟨H,(rgl 40 39 H ?_)⟩) jy
    refine rtl 41 H ?_
    refine xx qh<|t_n<|cQ J (fun h9=>?_)<|fun h9=>?_
    ·refine zcr (sp (Bv false)<|zjr<|t_r<|rH1 (Bv false) H ?_)
     rw[xH (fun h=>by obtain⟨h1,h2,h3,h4,h5⟩:=h;contradiction)]
    refine xe<|t_n<|zcc<|sp (yI 0)<|zjn<|xg<|vk ((fun Z0 Z1 Z2 Z3 Z4 Z5 Z6=>fun m' ρ sr=>∃(xR:Env) (k:Nat),ρ=upd (upd (upd xR 0<|pp bs os) 1<|pp bt ot) 5 (yI k)/\(k<=t.qG.length)/\(BagsTo s t k)/\m'=t.qG.length-k/\St w sr [] [Z0,Z1,Z2,Z3,Z4,Z5,Z6]) _ _ _ _ _ _ _) (t.qG.length-0) ⟨_,0,uE3,qf,qx,J,H⟩ ?_
    clear H
    rintro m' ρ z7 ⟨xR,k,rfl,i0,i1,rfl,H⟩
    refine zcc<|sp (yI k)<|sq 2<|oF J<|oL J (H.zU 3 J 1 J)<|oN J<|sq 1<|zjn<|cD J (fun iz=>?_)<|fun iz=>?_
    ·refine xe (t_n<|xO<|xg<|zcr<|sq 3<|oF J<|oL J (H.zU 3 J 1 J)<|sp (yI k) ?_)
     obtain⟨Ab,o14,rfl⟩:=H.addr 5 rfl qf
     obtain⟨axT,aAI,azN,H⟩:=H.yg 5 rfl k k qf qf qf
     refine oI J J<|oL J (H.zU 1 J 0 J)<|sw<|oq (XA _ s t.qG[k]! (qH (H.get 2 J) 0 3) (H.get 3 J).1 (H.get 4 J).1 (H.get 0 J).1) H fun Kj H=>sp (Bv (!(dec<|jd s.qQ<|t.qG[k]!)))<|sp (Bv (!(dec<|jd s.qQ<|t.qG[k]!))) ?_
     cases i7:(!(dec (jd s.qQ t.qG[k]!)))
     ·replace i7:=xw i7
      replace i7:=Qy i7
      refine qP 67 J J<|sq 1<|qP 67 J J<|sq 1<|qP 67 J J<|oF J<|qP 67 J J<|oL J (H.zU 5 J 0 J)<|qP 67 J J<|sp (yI k)<|qP 67 J J<|oI J J<|qP 67 J J<|oL J (H.elemBoolN 6 J k qf)<|qP 67 J J<|sp (Bv (!(t.qO[k]!)))<|qP 67 J J<|sp (Bv (!(t.qO[k]!))) ?_
      cases pj:(!(t.qO[k]!))
      ·replace pj:=xw pj
       refine zk (zR 77 9)<|qP 67 J J<|sp (Bv false)<|sp (Bv false)<|zjn<|cFr J<|xe<|b_n<|t_n<|zf<|sp (yI k)<|sw<|zY k 1 J J qf<|sq 1<|xX<|xu (m':=t.qG.length-(k+1)) qf ⟨_,k+1,uE3,?_,?_,J,H.sel _ (.refl _) _ qm⟩
       ·omega
       ·exact i1.succ ‹_› (fun hk=>by simp_all)
      replace pj:=xF pj
      refine qP 76 J J<|sq 1<|qP 76 J J<|sq 1<|qP 76 J J<|oF J<|qP 76 J J<|oL J (H.zU 5 J 1 J)<|qP 76 J J<|sp (yI k)<|qP 76 J J<|oI J J<|qP 76 J J<|oL J (H.zU 1 J 0 J)<|qP 76 J J<|sw<|oq (l01Size_ok _ t.qG[k]! (H.get 0 J).1<|by exact ja ql) H fun Pa H=>qP 76 J J<|sp (Bv<|decide ((Yk (t.qG[k]!):Int)>0))<|qP 67 J J<|sp (Bv<|decide ((Yk (t.qG[k]!):Int)>0))<|sp (Bv<|decide ((Yk (t.qG[k]!):Int)>0))<|zjn<|cD J (fun CY=>?_)<|fun CY=>?_
      ·refine zcr (sp (Bv false)<|zjr<|zr5<|rH1 (Bv false) H ?_)
       rw[xH (fun h=>by obtain⟨h1,h2,h3,h4,h5⟩:=h;(obtain⟨q1,q2⟩:=h5 k qf;(have:=q2 ql;omega)))]
      refine xe<|b_n<|t_n<|zf<|sp (yI k)<|sw<|zY k 1 J J qf<|sq 1<|xX<|xu (m':=t.qG.length-(k+1)) qf ⟨_,k+1,uE3,?_,?_,J,H.sel _ (.refl _) _ qm⟩
      ·omega
      ·exact i1.succ ‹_› (fun hk=>by omega)
     replace i7:=xF i7
     replace i7:=vS i7
     refine zk (zR 68 19)<|sp (Bv true)<|zjn<|cTr J<|zcr<|sp (Bv false)<|zjr<|zr5<|rH1 (Bv false) H ?_
     rw[xH (fun h=>by obtain⟨h1,h2,h3,h4,h5⟩:=h;(obtain⟨q1,q2⟩:=h5 k qf;contradiction))]
    refine zx4<|zcr<|sp (Bv true)<|zjr<|rH1 (Bv true) H ?_
    obtain rfl:k=t.qG.length:=by omega
    rw[QD ⟨by omega,by omega,by assumption,by assumption,i1⟩]
   replace h6:=xF h6
   refine vC (zR 34 7) 7 (H)<|rtp 41 (Bv true) H ?_
   refine xx qh<|t_n<|cTr J<|zcr<|sp (Bv false)<|zjr<|t_r<|rH1 (Bv false) H ?_
   rw[xH (fun h=>by obtain⟨h1,h2,h3,h4,h5⟩:=h;(simp_all;done))]
  replace h3:=bne_iff_ne.1 h3
  refine vC (zR 25 7) 7 (H)<|rtp 32 (Bv true) H ?_
  refine rtp 33 (Bv true) H ?_
  refine vC (zR 34 7) 7 (H)<|rtp 41 (Bv true) H ?_
  refine xx qh<|t_n<|cTr J<|zcr<|sp (Bv false)<|zjr<|t_r<|rH1 (Bv false) H ?_
  rw[xH (fun h=>by obtain⟨h1,h2,h3,h4,h5⟩:=h;omega)]
 replace h2:=bne_iff_ne.1 h2
 refine vC (zR 12 11) 11 (H)<|rtp 23 (Bv true) H ?_
 refine rtp 24 (Bv true) H ?_
 refine vC (zR 25 7) 7 (H)<|rtp 32 (Bv true) H ?_
 refine rtp 33 (Bv true) H ?_
 refine vC (zR 34 7) 7 (H)<|rtp 41 (Bv true) H ?_
 refine xx qh<|t_n<|cTr J<|zcr<|sp (Bv false)<|zjr<|t_r<|rH1 (Bv false) H ?_
 rw[xH (fun h=>by obtain⟨h1,h2,h3,h4,h5⟩:=h;omega)]
theorem l02Parent_ok(w:World)(s:qJ)(t:qV)(c:Int)(hs:jO w bs os (yS s qM qL xm xh))(qZ:zP w xN qM qL s.qA)(xM:zP w zN xm xh s.qB)(ht:jO w bt ot (yT t xK xI zB zq xC xy))(zS:zP w vV xK xI t.qO)(vK:zP w jM zB zq t.qG)(zi:zP w zZ xC xy t.qF)(p0:yf s)(p1:CellIn s c)(p2:t.qO.length=s.qA.length):Calls Tryz.prog 182 #[pp bs os,pp bt ot,yI c] w (Ret (fun v w'=>v=yI (xY s t c)) w):=by
 refine en func182 ntmps182 ?_
 have H:=(((((((St.start w).arg zi).arg vK).arg zS).argAt ht).arg xM).arg qZ).argAt hs
 have vT:=qN qZ
 have jP:=qN xM
 have QM:=qN zS
 have Xt:=qN vK
 have Qe:=qN zi
 clear hs qZ xM ht zS vK zi
 have p3:=p0.step p1.1 p1.2
 refine zcr<|sp (yI 0)<|zjc<|sq 2<|oF J<|oL J (H.zU 0 J 1 J)<|sp (yI c) ?_
 obtain⟨b1,o2,rfl⟩:=H.addr 1 rfl qf
 refine oI J J<|oL J (H.elemInt 1 J c qf qf)<|sq 1<|zjn<|xO<|xg<|vk ((fun Z0 Z1 Z2 Z3 Z4 Z5 Z6=>fun m' ρ w3=>∃(xR:Env) (y:Int) (n:Nat),ρ=upd (upd (upd (upd xR 0<|pp bs os) 1<|pp bt ot) 6<|yI 0) 7 (yI y)/\(-1<=y/\y<=(s.qA.length:Int)-1)/\(y<n)/\(xY s t c=climb s.qA t.qO n y)/\m'=(y+1).toNat/\St w w3 [] [Z0,Z1,Z2,Z3,Z4,Z5,Z6]) _ _ _ _ _ _ _) ((s.qA[c.toNat]!+1).toNat) ⟨_,s.qA[c.toNat]!,s.qA.length,uE4,qf,qf,(by rfl),J,H⟩ ?_
 clear H
 rintro m' ρ w4 ⟨xR,y,n,rfl,i0,i1,i2,rfl,H⟩
 have up:=fun h=>p0.step (c:=y) h i0.2
 refine zcc<|sp (yI y)<|sp (Bv<|decide ((y:Int)>=0))<|sp (Bv<|decide ((y:Int)>=0)) ?_
 cases h5:(decide ((y:Int)>=0))
 ·replace h5:=of_decide_eq_false h5
  refine zk (zR 18 8)<|sp (Bv false)<|zjn<|cFr J<|zx4<|zcr<|sp (yI y)<|sp (yI y)<|zjr<|rH1 (yI y) H ?_
  rw[i2,climb_end<|by omega]
 replace h5:=of_decide_eq_true h5
 refine qP 17 J J<|sq 1<|qP 17 J J<|sq 1<|qP 17 J J<|oF J<|qP 17 J J<|oL J (H.zU 3 J 0 J)<|qP 17 J J<|sp (yI y)<|qP 17 J J ?_
 obtain⟨b6,o7,rfl⟩:=H.addr 4 rfl qf
 refine oI J J<|qP 17 J J<|oL J (H.elemBool 4 J y qf qf)<|qP 17 J J<|sq 2<|zjn<|vP _ J (fun h8=>?_)<|fun h8=>?_
 ·replace h8:=xF h8
  refine xe<|t_n<|xg<|zf<|sq 2<|oF J<|oL J (H.zU 0 J 1 J)<|sp (yI y)<|oI J J<|oL J (H.elemInt 1 J y qf qf)<|sq 1<|xX<|b_n ?_
  have up1:=up qf
  refine xu (m':=(s.qA[y.toNat]!+1).toNat) qf ⟨_,s.qA[y.toNat]!,n-1,uE4,?_,?_,?_,J,H⟩
  ·omega
  ·omega
  ·exact i2.trans<|climb_go qf qf ‹_›
 replace h8:=xw h8
 refine zx4<|zcr<|sp (yI y)<|sp (yI y)<|zjr<|rH1 (yI y) H ?_
 rw[i2,climb_end<|by simp_all]
theorem l02Ok_ok(w:World)(s:qJ)(hs:jO w bs os (yS s qM qL xm xh))(qZ:zP w xN qM qL s.qA)(xM:zP w zN xm xh s.qB):Calls Tryz.prog 42 #[pp bs os] w (Ret (fun v w'=>v=Bv (dec<|jW s)) w):=by
 refine en func42 ntmps42 ?_
 have H:=(((St.start w).arg xM).arg qZ).argAt hs
 have vT:=qN qZ
 have jP:=qN xM
 clear hs qZ xM
 have p1:=fun h:yf s=>h.2.1
 refine zcr<|sp (Bv false)<|zjcc<|sq 1<|sw<|oq (l02Frame_ok _ s (qH (H.get 0 J) 0 3) (H.get 1 J).1 (H.get 2 J).1) H fun w1 H=>sp (Bv (!(dec<|yf s)))<|sp (Bv (!(dec<|yf s))) ?_
 cases h3:(!(dec (yf s)))
 ·replace h3:=xw h3
  replace h3:=Qy h3
  refine qP 8 J J<|sq 1<|qP 8 J J<|sq 1<|qP 8 J J<|oF J<|qP 8 J J<|oL J (H.zU 0 J 2 J)<|qP 8 J J<|oN J<|qP 8 J J<|sp (Bv<|decide ((s.qB.length:Int)>16))<|sp (Bv<|decide ((s.qB.length:Int)>16))<|zjn<|cD J (fun h4=>?_)<|fun h4=>?_
  ·refine zcr (sp (Bv false)<|zjr<|t_r<|rH1 (Bv false) H ?_)
   rw[xH (fun h=>by obtain⟨h1,h2,h3⟩:=h;omega)]
  have p2:=p1 ql
  refine xe<|t_n<|zcr<|sq 2<|oF J<|oL J (H.zU 0 J 1 J)<|oN J<|sw<|o_make1 H underlying24 ti2 J s.qA.length J J qf qf fun b5 w6 H=>?_
  replace H:St _ _ [.box b5 (List.replicate s.qA.length<|yI 0) 2] _:=H
  refine sq 1<|zjcc<|sp (yI 0)<|zjn<|xg ?_
  rw[ints_zero,counts_zero] at H
  refine vk ((fun Z0 Z1 Z2=>fun m' ρ w7=>∃(xR:Env) (k:Nat),ρ=upd (upd (upd xR 0<|pp bs os) 3<|Sv (aa b5 0) s.qA.length s.qA.length) 4 (yI k)/\(k<=s.qB.length)/\(RulesTo s k)/\m'=s.qB.length-k/\St w w7 [.box b5 ((counts s k).map<|Value.int .i64) 2] [Z0,Z1,Z2]) _ _ _) (s.qB.length-0) ⟨_,0,uE3,qf,qx,J,H⟩ ?_
  clear H
  rintro m' ρ w8 ⟨xR,k,rfl,i0,i1,rfl,H⟩
  refine zcc<|sp (yI k)<|sq 2<|oF J<|oL J (H.zU 0 J 2 J)<|oN J<|sq 1<|zjn<|cD J (fun h9=>?_)<|fun h9=>?_
  ·refine xe (t_n<|xO<|xg<|zcc<|sq 3<|oF J<|oL J (H.zU 0 J 2 J)<|sp (yI k) ?_)
   obtain⟨z8,o11,rfl⟩:=H.addr 2 rfl qf
   obtain⟨ari,aqi,aq0,akZ,ami,alx,aiK,akQ,aq4,atr,agR,arf,at7,au2,auN,asT,akA,akj,H⟩:=H.Xd 2 rfl k k qf qf qf
   refine oI J J<|sw<|oq (l02Rule_ok _ s s.qB[k]! (qH (H.get 7 J) 0 3) (H.get 8 J).1 (H.get 9 J).1 (qH (H.get 6 J) 0 9) (H.get 0 J).1 (H.get 1 J).1 (H.get 2 J).1 (H.get 3 J).1 (H.get 4 J).1 (H.get 5 J).1 ql) H fun D9 H=>sq 1<|zjn<|cQ J (fun oA=>?_)<|fun oA=>?_
   ·refine zcr (sp (Bv false)<|zjr<|t_r<|zr5<|rH1 (Bv false) H ?_)
    rw[xH (fun h=>by obtain⟨h1,h2,h3⟩:=h;(obtain⟨q1,q2⟩:=h3 k qf;contradiction))]
   have q:=(oA).1
   refine xe<|t_n<|zcr<|sq 3<|oF J<|oL J (H.zU 7 J 2 J)<|sp (yI k)<|oI J J<|oF J<|oL J (H.zU 6 J 0 J)<|oI J J<|oL J (H.cell 0 J<|ints_get<|by rw[counts_len];omega)<|sw<|zY ((counts s k)[(s.qB[k]!.qW:Int).toNat]!) 1 J J (by((rw[Yh q];have:=ofCell_bd s.qB s.qB[k]!.qW k;omega)))<|oI J J<|sw<|o_store1 H 0 J (yI (((counts s k)[(s.qB[k]!.qW:Int).toNat]!)+1)) sizeOf2 J J J (ints_lt<|by rw[counts_len];omega) fun Kj H=>?_
   rw[ints_set] at H
   rw[counts_succ q] at H
   replace H:St _ _ [.box b5 ((counts s<|k+1).map<|Value.int .i64) 2] _:=H
   refine zjc<|sq 3<|oF J<|oL J (H.zU 7 J 2 J)<|sp (yI k)<|oI J J<|oF J<|oL J (H.zU 6 J 0 J)<|oI J J<|oL J (H.cell 0 J<|ints_get<|by rw[counts_len];omega)<|sp (Bv<|decide (((counts s<|k+1)[(s.qB[k]!.qW:Int).toNat]! :Int)>8))<|zjn<|cD J (fun CV=>?_)<|fun CV=>?_
   ·refine zcr (sp (Bv false)<|zjr<|zr5<|rH1 (Bv false) H ?_)
    rw[xH (fun h=>by obtain⟨h1,h2,h3⟩:=h;(obtain⟨q1,q2⟩:=h3 k qf;(have:=Yh (k:=k+1) q;omega)))]
   refine xe<|b_n<|t_n<|zf<|sp (yI k)<|sw<|zY k 1 J J (by(omega))<|sq 1<|xX<|xu (m':=s.qB.length-(k+1)) qf ⟨_,k+1,uE3,?_,?_,J,H.sel _ (.refl _) _ qm⟩
   ·omega
   ·exact i1.succ ‹_› (by have:=Yh (k:=k+1) q;omega)
  refine zx4<|zcr<|sp (Bv true)<|zjr<|rH1 (Bv true) H ?_
  obtain rfl:k=s.qB.length:=by omega
  rw[QD ⟨by assumption,by omega,i1⟩]
 replace h3:=xF h3
 replace h3:=vS h3
 refine zk (zR 9 6)<|sp (Bv true)<|zjn<|cTr J<|zcr<|sp (Bv false)<|zjr<|t_r<|rH1 (Bv false) H ?_
 rw[xH (fun h=>by obtain⟨h1,h2,h3⟩:=h;contradiction)]
end
section
theorem climb_in{s:qJ}{t:qV}(hs:yf s)(h0:t.qO[0]! =true):∀(n:Nat) (c:Int),0<=c->c<n->c<=(s.qA.length:Int)-1→
 0<=climb s.qA t.qO n c/\climb s.qA t.qO n c<=c/\t.qO[(climb s.qA t.qO n c).toNat]! =true
 |0,c,h1,h2,h3=>by omega
 |n+1,c,h1,h2,h3=>by
  rw[climb]
  by_cases ha:0<=c/\t.qO[c.toNat]! =false
  ·rw[if_pos ha]
   have hc:0<c:=by
    rcases Int.lt_or_eq_of_le h1 with h|h
    ·exact h
    ·rw[←h] at ha;simp[h0] at ha
   have hu:=hs.up hc h3
   have:=climb_in hs h0 n s.qA[c.toNat]! hu.1 qf qf
   exact⟨this.1,by omega,this.2.2⟩
  ·rw[if_neg ha]
   refine⟨h1,Int.le_refl _,?_⟩
   cases hx:t.qO[c.toNat]! with
   |true=>rfl
   |false=>exact absurd ⟨h1,hx⟩ ha
theorem parentNow_in(hs:yf s)(h0:t.qO[0]! =true)(h1:0<c)(h2:c<=(s.qA.length:Int)-1):0<=xY s t c/\xY s t c<c/\t.qO[(xY s t c).toNat]! =true:=by
 have hu:=hs.up h1 h2
 have:=climb_in hs h0 s.qA.length s.qA[c.toNat]! hu.1 qf qf
 exact⟨this.1,by have:=this.2.1;unfold xY;omega,this.2.2⟩
def melted(s:qJ)(t:qV)(c:Int):qV:=
 ⟨t.qO.set c.toNat false,(t.qG.set (xY s t c).toNat<|vX (t.qG[(xY s t c).toNat]!) t.qG[c.toNat]! 1).set c.toNat<|List.replicate s.qQ.toNat 0,t.qF⟩
open Classical in
noncomputable def told(s:qJ)(t:qV):qV×Int:=if zA s t then (t,0) else (default,3)
theorem told_yes(h:zA s t):told s t=(t,0):=by rw[told,if_pos h]
theorem told_no(h:¬zA s t):told s t=(default,3):=by rw[told,if_neg h]
open Classical in
noncomputable def meltRes(s:qJ)(t:qV)(c:Int):qV×Int:=
 if cellCodeOf s t c≠0 then (default,cellCodeOf s t c) else if c=0 then (default,4) else told s (melted s t c)
theorem zA.bagLen(h:zA s t)(hk:k<t.qG.length):jd s.qQ (t.qG[k]!):=(h.2.2.2.2 k hk).1
theorem bagOk_smallT{n:Int}(h:jd n l){t:Int}(ht: -1000000<=t/\t<=1000000):XG l t:=fun k hk=>by
 have:=h.1.1 k hk
 constructor
 ·have h1: -(1000000*1000)<=t*l[k]! :=by
   rcases Int.le_total 0 t with h0|h0
   ·have:=Int.mul_nonneg h0 this.1;omega
   ·have h2:=Int.mul_le_mul_of_nonneg_left this.2 (show 0<= -t by omega)
    have h3: -t*l[k]! = -(t*l[k]!):=Int.neg_mul ..
    omega
  omega
 ·have h1:t*l[k]! <=1000000*1000:=by
   rcases Int.le_total 0 t with h0|h0
   ·have h2:=Int.mul_le_mul_of_nonneg_left this.2 h0
    omega
   ·have h2:=Int.mul_nonneg (show 0<= -t by omega) this.1
    have h3: -t*l[k]! = -(t*l[k]!):=Int.neg_mul ..
    omega
  omega
theorem zA.sizes(hs:yf s)(h:zA s t):t.qO.length<=6/\t.qF.length<=8/\t.qG.length<=6/\∀k,k<t.qG.length->t.qG[k]!.length<=8:=
 ⟨by have:=h.1;have:=hs.2.1;omega,h.2.2.2.1.1.2.2,by have:=h.2.1;have:=hs.2.1;omega,fun k hk=>(h.bagLen hk).1.2.2⟩
theorem zA.add(h:zA s t)(hj:j<t.qG.length)(hk:k<t.qG.length):t.qG[j]!.length<=t.qG[k]!.length/\Mid (t.qG[j]!)/\XG t.qG[k]! 1:=by
 have h1:=h.bagLen hj
 have h2:=h.bagLen hk
 exact⟨by have:=h1.2;have:=h2.2;omega,(ja h1).mid,bagOk_smallT h2 qf⟩
theorem drop_get(h:k+1<l.length):(l.drop 1)[k]! =l[k+1]! :=by
 rw[getElem!_pos (l.drop 1) k<|by rw[List.length_drop];omega,getElem!_pos l (k+1) h]
 simp[Nat.add_comm]
theorem lies_up(hs:yf s){o:Int}(hc:CellIn s c):Lies s.qA o c<->0<=s.qA[c.toNat]! /\(s.qA[c.toNat]! =o\/Lies s.qA o s.qA[c.toNat]!):=by
 rw[lies_iff]
 rcases Int.lt_or_eq_of_le hc.1 with h|h
 ·have:=hs.up h hc.2
  constructor
  ·rintro⟨_,h1⟩;exact⟨this.1,h1⟩
  ·rintro⟨_,h1⟩;exact⟨h,h1⟩
 ·subst h
  have:=hs.2.2.1
  simp only[Int.toNat_zero] at *
  constructor
  ·rintro⟨h1,_⟩;omega
  ·rintro⟨h1,_⟩;omega
def counts6(s:qJ)(k:Nat):yLI:=(List.range 6).map fun c:Nat=>ofCell s.qB (c:Int) k
theorem counts6_len(s:qJ)(k:Nat):(counts6 s k).length=6:=by simp[counts6]
theorem counts6_zero(s:qJ):([0,0,0,0,0,0]:yLI)=counts6 s 0:=by simp[counts6,List.range_succ,ofCell]
theorem Yf(h:0<=c)(h1:c<=5):(counts6 s k)[c.toNat]! =ofCell s.qB c k:=by
 rw[getElem!_pos _ _<|by rw[counts6_len];omega]
 simp only[counts6,List.getElem_map,List.getElem_range]
 rw[show ((c.toNat:Nat):Int)=c by omega]
theorem counts6_succ(h:0<=s.qB[k]!.qW)(h1:s.qB[k]!.qW<=5):
 (counts6 s k).set s.qB[k]!.qW.toNat ((counts6 s k)[s.qB[k]!.qW.toNat]! +1)=counts6 s (k+1):=by
 rw[Yf h h1]
 apply List.ext_getElem
 ·simp[counts6]
 ·intro i h1 h2
  rw[List.getElem_set]
  simp only[counts6,List.getElem_map,List.getElem_range,ofCell]
  by_cases e:s.qB[k]!.qW.toNat=i
  ·subst e
   rw[if_pos J,if_pos qf,show ((s.qB[k]!.qW.toNat:Nat):Int)=s.qB[k]!.qW by omega]
  ·rw[if_neg e,if_neg qf];omega
theorem sum_nonneg(h:Yj l):0<=Yk l:=by
 have:∀k,k<=l.length->0<=sumTo l k:=fun k=>by
  induction k with
  |zero=>intro _;exact Int.le_refl _
  |succ k ih=>intro hk;have:=ih qf;have:=h.1 k qf;simp only[sumTo];omega
 exact this _<|Nat.le_refl _
end
section
theorem cloneB_ok(w:World)(l:List Bool)(hl:zP w Fl al cl l)(p0:l.length<=1000000):Calls Tryz.prog 71 #[Sv al l.length cl] w (Ret (fun v w'=>∃(ra:yOA) (rn:Nat) (rc:Nat),v=Sv ra rn rc/\Fresh w.heap.size []/\St w w' [rr ra rn rc 4 1<|l.map<|Value.bool] []) w):=by
 refine en func71 ntmps71 ?_
 have H:=(St.start w).arg hl
 have Cr:=qN hl
 clear hl
 have N:=Fresh.nil w.heap.size
 refine zcr<|sq 1<|zjcc<|sq 1<|sw<|o_eqnil underlying28 al l.length cl J<|zjn<|vP _ J (fun h1=>?_)<|fun h1=>?_
 ·refine zcr (sq 1<|zjr<|t_r ?_)
  replace H:=H.nilRowB 4
  refine rH1 yN H ?_
  obtain rfl:=H.nilOf 0 rfl ‹_›
  exact⟨none,0,0,J,N,H.pick [0] []⟩
 refine xe<|t_n<|zcr<|sw<|jS H underlying28 ti4 fun b2 w3 H=>sq 1 ?_
 replace H:=H.boxRowB 0 [] 0
 refine sw<|o_appendFR H 0 J 0 J underlying28 ti4 J qj J J qp qf fun a4 c5 w6 us7 G8 H hG9=>?_
 obtain⟨_,rfl⟩:=reps_bools (H.get 0 rfl).1
 replace H:=H.sub _ fun f hf=>List.mem_cons_of_mem _ hf
 rw[catB] at H
 refine sq 1<|zjr<|rH1 (Sv a4 (0+l.length) c5) H<|⟨a4,0+l.length,c5,rfl,N,H.pick [0] []⟩
end
section
theorem ft{b:Bool}(h:b=true)(h':b=false):False:=by rw[h] at h';cases h'
theorem getset{α:Type}[Inhabited α]{l:List α}{c:Nat}{v:α}(hc:c<l.length):(l.set c v)[p]! =if p=c then v else l[p]! :=by
 by_cases hp:p<l.length
 ·rw[getElem!_pos _ _<|by simpa using hp,getElem!_pos l p hp,List.getElem_set]
  by_cases e:c=p
  ·rw[if_pos e,if_pos e.symm]
  ·rw[if_neg e,if_neg<|fun h=>e h.symm]
 ·rw[if_neg qf,getElem!_neg (l.set c v) p<|by simpa using hp,getElem!_neg l p hp]
theorem plus_get{m:yLI}{t:Int}(hk:k<l.length):(vX l m t)[k]! =l[k]! +t*m[k]! :=by
 rw[getElem!_pos (vX l m t) k<|by rw[QL];exact hk]
 simp[vX,plusTo]
theorem ext_get{α:Type}[Inhabited α]{l m:List α}(hl:l.length=m.length)(h:∀k,k<l.length->l[k]! =m[k]!):l=m:=by
 apply List.ext_getElem hl
 intro i h1 h2
 have:=h i h1
 rwa [getElem!_pos l i h1,getElem!_pos m i h2] at this
theorem set_self{α:Type}[Inhabited α]{l:List α}{c:Nat}{v:α}(hc:c<l.length)(h:v=l[c]!):l.set c v=l:=by
 refine ext_get qm fun k hk=>?_
 rw[getset hc]
 by_cases e:k=c
 ·rw[if_pos e,e,h]
 ·rw[if_neg e]
theorem plus_zero{m:yLI}{t:Int}(ht:t=0):vX l m t=l:=by
 refine ext_get (QL _ _ _) fun k hk=>?_
 rw[QL] at hk
 rw[plus_get hk,ht];omega
def Shape(n K:Nat)(B:Int)(b:yLL):Prop:=b.length=n/\∀p,p<n->b[p]!.length=K/\∀k,k<K-> -B<=(b[p]!)[k]! /\(b[p]!)[k]! <=B
structure Ent(n K:Nat)(f:Nat->Nat->Int)(B:Int)(b:yLL):Prop where
 sh:Shape n K B b
 eq:∀p k,p<n->k<K->(b[p]!)[k]! =f p k
def at'(p c:Nat)(x:Int):Int:=if p=c then x else 0
theorem Shape.set(h:Shape n K B b){c:Nat}{v:yLI}(hc:c<n)(hv:v.length=K)(hb:∀k,k<K-> -D<=v[k]! /\v[k]! <=D)(hD:B<=D):Shape n K D (b.set c v):=by
 refine⟨by simp[h.1],fun p hp=>?_⟩
 rw[getset<|by rw[h.1];exact hc]
 by_cases e:p=c
 ·rw[if_pos e];exact⟨hv,hb⟩
 ·rw[if_neg e]
  refine⟨(h.2 p hp).1,fun k hk=>?_⟩
  have:=(h.2 p hp).2 k hk
  omega
theorem Shape.plus(h:Shape n K B b){c:Nat}{m:yLI}{t:Int}(hc:c<n)(ht:∀k,k<K-> -D<=t*m[k]! /\t*m[k]! <=D)(hD:0<=D):
 Shape n K (B+D) (b.set c<|vX b[c]! m t):=by
 have h1:=h.2 c hc
 refine h.set hc (by rw[QL];exact h1.1) (fun k hk=>?_) qf
 rw[plus_get<|by rw[h1.1];exact hk]
 have:=h1.2 k hk
 have:=ht k hk
 omega
theorem Shape.row(h:Shape n K B b)(hB:B<=1000000000000000)(hK:K<=8){c:Nat}(hc:c<n):b[c]!.length=K/\Mid (b[c]!):=by
 have h1:=h.2 c hc
 refine⟨h1.1,by have:=h1.1;omega,fun k hk=>?_⟩
 have:=h1.2 k (by have:=h1.1;omega)
 omega
theorem Ent.add{f:Nat->Nat->Int}(h:Ent n K f B b){c:Nat}{m:yLI}{t:Int}{b':yLL}(e:b'=b.set c (vX b[c]! m t))(hc:c<n)(ht:∀k,k<K-> -D<=t*m[k]! /\t*m[k]! <=D)(hD:0<=D):
 Ent n K (fun p k=>f p k+at' p c (t*m[k]!)) (B+D) b':=by
 subst e
 refine⟨h.sh.plus hc ht hD,fun p k hp hk=>?_⟩
 rw[getset<|by rw[h.sh.1];exact hc]
 unfold at'
 by_cases e:p=c
 ·subst e
  rw[if_pos J,if_pos J,plus_get<|by rw[(h.sh.2 p hp).1];exact hk,h.eq p k hp hk]
 ·rw[if_neg e,if_neg e,h.eq p k hp hk];omega
theorem Shape.mono(h:Shape n K B b)(hD:B<=D):Shape n K D b:=⟨h.1,fun p hp=>⟨(h.2 p hp).1,fun k hk=>by have:=(h.2 p hp).2 k hk;omega⟩⟩
theorem Ent.to{f g:Nat->Nat->Int}(h:Ent n K f B b)(e:∀p k,f p k=g p k)(hD:B<=D):Ent n K g D b:=⟨h.sh.mono hD,fun p k hp hk=>(h.eq p k hp hk).trans<|e p k⟩
theorem Ent.same{f g:Nat->Nat->Int}{c:yLL}(h:Ent n K f B b)(h':Ent n K g D c)(e:∀p k,p<n->k<K->f p k=g p k):b=c:=by
 refine ext_get (by rw[h.sh.1,h'.sh.1]) fun p hp=>?_
 rw[h.sh.1] at hp
 refine ext_get (by rw[(h.sh.2 p hp).1,(h'.sh.2 p hp).1]) fun k hk=>?_
 rw[(h.sh.2 p hp).1] at hk
 rw[h.eq p k hp hk,h'.eq p k hp hk,e p k hp hk]
def tab2(n K:Nat)(f:Nat->Nat->Int):yLL:=(List.range n).map fun p=>(List.range K).map<|f p
theorem tab2_len(n K:Nat)(f:Nat->Nat->Int):(tab2 n K f).length=n:=by simp[tab2]
theorem tab2_row{f:Nat->Nat->Int}(hp:p<n):(tab2 n K f)[p]! =(List.range K).map (f p):=by
 rw[getElem!_pos (tab2 n K f) p<|by rw[tab2_len];exact hp];simp[tab2]
theorem Ent.tab{f:Nat->Nat->Int}(h:Ent n K f B b):b=tab2 n K f:=by
 refine ext_get (by rw[h.sh.1,tab2_len]) fun p hp=>?_
 rw[h.sh.1] at hp
 rw[tab2_row hp]
 refine ext_get (by rw[(h.sh.2 p hp).1];simp) fun k hk=>?_
 rw[(h.sh.2 p hp).1] at hk
 rw[h.eq p k hp hk,getElem!_pos ((List.range K).map<|f p) k<|by simpa using hk];simp
theorem Ent.snoc{f:Nat->Nat->Int}(h:Ent n K f B b)(ha:a.length=K)(hb:∀k,k<K-> -B<=a[k]! /\a[k]! <=B)(he:∀k,k<K->a[k]! =f n k):Ent (n+1) K f B (b++[a]):=by
 have hl:(b++[a]).length=n+1:=by simp[h.sh.1]
 have h1:∀p,p<n->(b++[a])[p]! =b[p]! :=fun p hp=>by
  rw[getElem!_pos (b++[a]) p qf,getElem!_pos b p<|by rw[h.sh.1];exact hp,List.getElem_append_left]
 have h2:(b++[a])[n]! =a:=by
  rw[getElem!_pos (b++[a]) n qf,List.getElem_append_right<|by rw[h.sh.1];exact Nat.le_refl _];simp
 refine⟨⟨hl,fun p hp=>?_⟩,fun p k hp hk=>?_⟩
 ·by_cases e:p=n
  ·subst e;rw[h2];exact⟨ha,hb⟩
  ·rw[h1 p qf];exact h.sh.2 p qf
 ·by_cases e:p=n
  ·subst e;rw[h2];exact he k hk
  ·rw[h1 p qf];exact h.eq p k qf hk
def vG(s:qJ):Nat:=s.qQ.toNat
abbrev xJ(s:qJ):Nat:=s.qA.length
def IntoUp(s:qJ)(t:qV)(r:yz)(k:Nat):Prop:=∀j,j<k->t.qO[r.xn[j]!.qW.toNat]! =true/\xY s t r.xn[j]!.qW=r.qW
theorem IntoUp.succ(h:IntoUp s t r k)(h1:t.qO[r.xn[k]!.qW.toNat]! =true)(h2:xY s t r.xn[k]!.qW=r.qW):IntoUp s t r (k+1):=fun j hj=>by
 by_cases e:j=k
 ·subst e;exact⟨h1,h2⟩
 ·exact h j qf
def EnOk(s:qJ)(t:qV)(r:yz):Prop:=
 t.qO[r.qW.toNat]! =true/\within r.vg t.qG[r.qW.toNat]! =true/\within r.jI t.qG[r.qW.toNat]! =true/\¬(0<Yk r.jK/\within r.jK t.qG[r.qW.toNat]! =true)/\IntoUp s t r r.xn.length
open Classical in
noncomputable def bestOf(s:qJ)(t:qV)(z:Int)(c:Nat):Nat->Int
 |0=>z
 |k+1=>if EnOk s t (s.qB[k]!)/\s.qB[k]!.qW.toNat=c then max (bestOf s t z c k) s.qB[k]!.yH else bestOf s t z c k
noncomputable def bests(s:qJ)(t:qV)(z:Int)(n k:Nat):yLI:=tabTo (fun c=>bestOf s t z c k) n
theorem Vf(s:qJ)(t:qV)(z:Int)(n k:Nat):(bests s t z n k).length=n:=tabTo_len _ _
theorem tab_get{g:Nat->Int}{c:Nat}(h:c<n):(tabTo g n)[c]! =g c:=by
 rw[getElem!_pos (tabTo g n) c<|by rw[tabTo_len];exact h];simp[tabTo]
theorem bests_zero(s:qJ)(t:qV)(z:Int)(n:Nat):List.replicate n z=bests s t z n 0:=by
 refine ext_get (by simp[Vf]) fun k hk=>?_
 rw[List.length_replicate] at hk
 rw[bests,tab_get hk,getElem!_pos (List.replicate n z) k<|by simpa using hk];simp[bestOf]
theorem bests_get{c:Nat}(h:c<n):(bests s t z n k)[c]! =bestOf s t z c k:=tab_get h
theorem bests_set(h:EnOk s t s.qB[k]!)(hc:s.qB[k]!.qW.toNat<n):
 (bests s t z n k).set s.qB[k]!.qW.toNat (max ((bests s t z n k)[s.qB[k]!.qW.toNat]!) s.qB[k]!.yH)=bests s t z n (k+1):=by
 refine ext_get (by simp[Vf]) fun p hp=>?_
 rw[List.length_set,Vf] at hp
 rw[getset<|by rw[Vf];exact hc,bests_get hc,bests_get hp,bests_get hp,bestOf]
 by_cases e:p=s.qB[k]!.qW.toNat
 ·rw[if_pos e,if_pos ⟨h,e.symm⟩,e]
 ·rw[if_neg e,if_neg fun x=>e x.2.symm]
theorem bests_skip(h:¬EnOk s t s.qB[k]!):bests s t z n k=bests s t z n (k+1):=by
 refine ext_get (by simp[Vf]) fun p hp=>?_
 rw[Vf] at hp
 rw[bests_get hp,bests_get hp,bestOf,if_neg fun x=>h x.1]
def Appl(s:qJ)(t:qV)(i:Nat):Prop:=
 EnOk s t (s.qB[i]!)/\∀j,j<s.qB.length->EnOk s t (s.qB[j]!)->s.qB[j]!.qW.toNat=s.qB[i]!.qW.toNat->s.qB[j]!.yH<=s.qB[i]!.yH
theorem best_ge{s:qJ}{t:qV}{z:Int}{c:Nat}:∀ {k j:Nat},j<k->EnOk s t (s.qB[j]!)->s.qB[j]!.qW.toNat=c->s.qB[j]!.yH<=bestOf s t z c k
 |k+1,j,h,h1,h2=>by
  rw[bestOf]
  by_cases e:j=k
  ·subst e;rw[if_pos ⟨h1,h2⟩];omega
  ·have:=best_ge (z:=z) (show j<k by omega) h1 h2
   split <;> omega
theorem best_le{s:qJ}{t:qV}{z:Int}{c:Nat}{x:Int}(hz:z<=x):∀ {k:Nat},(∀j,j<k->EnOk s t (s.qB[j]!)->s.qB[j]!.qW.toNat=c->s.qB[j]!.yH<=x)->bestOf s t z c k<=x
 |0,_=>hz
 |k+1,h=>by
  rw[bestOf]
  have h1:=best_le hz (k:=k) fun j hj=>h j qf
  split
  ·next h2=>have:=h k qf h2.1 h2.2;omega
  ·exact h1
theorem appl_iff(hi:i<s.qB.length)(hz:z<=s.qB[i]!.yH):
 Appl s t i<->EnOk s t (s.qB[i]!)/\s.qB[i]!.yH=bestOf s t z s.qB[i]!.qW.toNat s.qB.length:=by
 constructor
 ·rintro⟨h1,h2⟩
  refine⟨h1,?_⟩
  have h3:=best_ge (z:=z) hi h1 J
  have h4:=best_le (c:=s.qB[i]!.qW.toNat) hz (k:=s.qB.length) h2
  omega
 ·rintro⟨h1,h2⟩
  exact⟨h1,fun j hj h3 h4=>by rw[h2];exact best_ge hj h3 h4⟩
noncomputable def applB(s:qJ)(t:qV)(k m:Nat):List Bool:=(List.range m).map fun j=>if j<k then dec (Appl s t j) else dec (EnOk s t<|s.qB[j]!)
theorem applB_len(s:qJ)(t:qV)(k m:Nat):(applB s t k m).length=m:=by simp[applB]
theorem applB_get(h:j<m):(applB s t k m)[j]! =if j<k then dec (Appl s t j) else dec (EnOk s t<|s.qB[j]!):=by
 rw[getElem!_pos (applB s t k m) j<|by rw[applB_len];exact h];simp[applB]
theorem applB_snoc(s:qJ)(t:qV)(m:Nat):applB s t 0 m++[dec<|EnOk s t<|s.qB[m]!]=applB s t 0 (m+1):=by simp[applB,List.range_succ]
theorem applB_set{x:Bool}(hk:k<m)(hx:x=dec (Appl s t k)):(applB s t k m).set k x=applB s t (k+1) m:=by
 refine ext_get (by simp[applB_len]) fun p hp=>?_
 rw[List.length_set,applB_len] at hp
 rw[getset<|by rw[applB_len];exact hk,applB_get hp,applB_get hp]
 by_cases e:p=k
 ·subst e;rw[if_pos J,if_pos qf,hx]
 ·rw[if_neg e]
  by_cases e1:p<k
  ·rw[if_pos e1,if_pos qf]
  ·rw[if_neg e1,if_neg qf]
theorem applB_step0(hk:k<m)(h:(applB s t k m)[k]! =false):false=dec (Appl s t k):=by
 rw[applB_get hk,if_neg qf] at h
 exact(xH fun x=>vS h x.1).symm
theorem applB_step1(hk:k<m)(h:(applB s t k m)[k]! =true)(hm:m=s.qB.length)(hc:s.qB[k]!.qW.toNat<n)(hz:z<=s.qB[k]!.yH)(hi:i=s.qB.length):
 (s.qB[k]!.yH == (bests s t z n i)[s.qB[k]!.qW.toNat]!)=dec (Appl s t k):=by
 rw[applB_get hk,if_neg qf] at h
 refine dec_eq ?_
 rw[beq_iff_eq,bests_get hc,hi,appl_iff qf hz]
 exact⟨fun e=>⟨Qy h,e⟩,fun e=>e.2⟩
noncomputable def appl(s:qJ)(t:qV):List Bool:=applB s t s.qB.length s.qB.length
theorem appl_len(s:qJ)(t:qV):(appl s t).length=s.qB.length:=applB_len _ _ _ _
theorem appl_get(h:j<s.qB.length):(appl s t)[j]! =dec (Appl s t j):=by rw[appl,applB_get h,if_pos h]
theorem appl_true(h:j<s.qB.length)(h1:(appl s t)[j]! =true):Appl s t j:=Qy<|appl_get (s:=s) (t:=t) h▸h1
theorem appl_false(h:j<s.qB.length)(h1:(appl s t)[j]! =false):¬Appl s t j:=vS<|appl_get (s:=s) (t:=t) h▸h1
def HaltTo(s:qJ)(t:qV)(k:Nat):Prop:=∀j,j<k->¬Appl s t j
theorem HaltTo.succ(h:HaltTo s t k)(h1:¬Appl s t k):HaltTo s t (k+1):=fun j hj=>by
 by_cases e:j=k
 ·subst e;exact h1
 ·exact h j qf
abbrev Halted(s:qJ)(t:qV):Prop:=HaltTo s t s.qB.length
noncomputable def applL(s:qJ)(t:qV)(k:Nat):yLI:=((List.range k).filter fun j=>dec<|Appl s t j).map Int.ofNat
theorem applL_yes(h:Appl s t k):applL s t k++[(k:Int)]=applL s t (k+1):=by simp[applL,List.range_succ,List.filter_append,QD h]
theorem applL_no(h:¬Appl s t k):applL s t k=applL s t (k+1):=by simp[applL,List.range_succ,List.filter_append,xH h]
noncomputable def appls(s:qJ)(t:qV):yLI:=applL s t s.qB.length
theorem applL_le(s:qJ)(t:qV)(k:Nat):(applL s t k).length<=k:=by
 have:=List.length_filter_le (fun j=>dec<|Appl s t j)<|List.range k
 simpa [applL] using this
theorem mem_applL:x∈applL s t k<->0<=x/\x.toNat<k/\Appl s t x.toNat:=by
 simp only[applL,List.mem_map,List.mem_filter,List.mem_range]
 constructor
 ·rintro⟨j,⟨h1,h2⟩,rfl⟩
  exact⟨Int.natCast_nonneg j,h1,Qy h2⟩
 ·rintro⟨h0,h1,h2⟩
  exact⟨x.toNat,⟨h1,QD h2⟩,by show ((x.toNat:Nat):Int)=x;omega⟩
theorem appls_at(hm:(applL s t m).length=q)(hn:m<=s.qB.length)(hq:q<(appls s t).length):
    ∃i:Nat,(appls s t)[q]! =(i:Int)/\m<=i/\i<s.qB.length/\Appl s t i/\(∀j,m<=j->j<i->¬Appl s t j)/\(applL s t<|i+1).length=q+1:=by
  have key:∀d m,m+d=s.qB.length->(applL s t m).length=q->∃i:Nat,(appls s t)[q]! =(i:Int)/\m<=i/\i<s.qB.length/\Appl s t i/\(∀j,m<=j->j<i->¬Appl s t j)/\(applL s t<|i+1).length=q+1:=by
    intro d
    induction d with
    | zero => intro m hd hl; exfalso; have e : m = s.qB.length := by omega
              subst e;unfold appls at hq;omega
    | succ d ih=>
      intro m hd hl
      by_cases ha:Appl s t m
      · have aAV:∀d' k,m+1+d'=k->∃more,applL s t k=applL s t m++[(m:Int)]++more:=by
          intro d'
          induction d' with
          |zero=>intro k hk;subst hk;exact⟨[],by rw[Nat.add_zero,←applL_yes ha];simp⟩
          | succ d' ih' =>
            intro k hk
            obtain⟨more,mR⟩:=ih' (m+1+d') rfl
            subst hk
            by_cases hb:Appl s t (m+1+d')
            · exact⟨more++[((m+1+d':Nat):Int)],by rw[←Nat.add_assoc,←applL_yes hb,mR];simp⟩
            · exact⟨more,by rw[←Nat.add_assoc,←applL_no hb,mR]⟩
        obtain⟨more,mR⟩:=aAV d s.qB.length qf
        refine⟨m,?_,Nat.le_refl _,by omega,ha,fun j h1 h2=>by omega,by rw[←applL_yes ha];simp[hl]⟩
        rw[appls,mR,List.append_assoc,getElem!_pos (applL s t m++([(m:Int)]++more)) q<|by simp[hl],List.getElem_append_right qf]
        simp[hl]
      · obtain ⟨i,h1,h2,h3,h4,h5,h6⟩:=ih (m+1) qf (by rw [← applL_no ha];exact hl)
        exact⟨i,h1,by omega,h3,h4,fun j hj1 hj2=>by
          by_cases e:j=m
          · subst e;exact ha
          · exact h5 j qf hj2,h6⟩
  exact key (s.qB.length-m) m qf hm
theorem appls_end(hm:(applL s t m).length=q)(hn:m<=s.qB.length)(hq:(appls s t).length<=q):∀j,m<=j->j<s.qB.length->¬Appl s t j:=by
 have key:∀d,∀m,m+d=s.qB.length->(appls s t).length<=(applL s t m).length->∀j,m<=j->j<s.qB.length->¬Appl s t j:=by
  intro d
  induction d with
  |zero=>intro m hd _ j h1 h2;omega
  |succ d ih=>
   intro m hd hl j h1 h2
   have mono:∀d' k,m+1+d'=k->(applL s t<|m+1).length<=(applL s t k).length:=by
    intro d'
    induction d' with
    |zero=>intro k hk;subst hk;exact Nat.le_refl _
    |succ d' ih'=>
     intro k hk
     subst hk
     have:=ih' (m+1+d') J
     rw[←Nat.add_assoc]
     by_cases hb:Appl s t (m+1+d')
     ·rw[←applL_yes hb];simp;omega
     ·rw[←applL_no hb];exact this
   have Zm:=mono d s.qB.length qf
   by_cases ha:Appl s t m
   ·exfalso
    rw[←applL_yes ha] at Zm
    simp at Zm
    unfold appls at hl
    omega
   ·by_cases e:j=m
    ·subst e;exact ha
    ·exact ih (m+1) qf (by rw[←applL_no ha];exact hl) j qf h2
 exact key (s.qB.length-m) m qf qf
theorem jW.rule(h:jW s)(hi:i<s.qB.length):RuleOk s (s.qB[i]!):=(h.2.2 i hi).1
theorem RuleOk.cell(h:RuleOk s r):r.qW.toNat<xJ s:=by have:=h.1.1;have:=h.1.2;unfold xJ;omega
theorem jd.len(h:jd s.qQ l):l.length=vG s:=by have:=h.2;unfold vG;omega
theorem jd.get{n:Int}(h:jd n l)(hk:k<l.length):0<=l[k]! /\l[k]! <=1000:=h.1.1 k hk
theorem jd.mul{m:yLI}(h:jd s.qQ m){t:Int}(ht: -1000<=t/\t<=1000):∀k,k<vG s-> -1000000<=t*m[k]! /\t*m[k]! <=1000000:=fun k hk=>by
 have h1:=h.1.1 k<|by rw[h.len];exact hk
 rcases Int.le_total 0 t with h0|h0
 ·have h2:=Int.mul_nonneg h0 h1.1
  have h3:=Int.mul_le_mul_of_nonneg_left h1.2 h0
  omega
 ·have h2:=Int.mul_nonneg (show 0<= -t by omega) h1.1
  have h3:=Int.mul_le_mul_of_nonneg_left h1.2<|show 0<= -t by omega
  have h4: -t*m[k]! = -(t*m[k]!):=Int.neg_mul ..
  omega
theorem jd.jT{m:yLI}(h:jd s.qQ m){t:Int}(ht: -1000<=t/\t<=1000):XG m t:=bagOk_smallT h qf
theorem X8(h:jW s):vG s<=8:=by have:=h.1.1.2;unfold vG;omega
theorem zA.shape(h:zA s t):Shape (xJ s) (vG s) 1000 t.qG:=by
 refine⟨h.2.1,fun p hp=>?_⟩
 have hb:=h.bagLen (k:=p)<|by rw[h.2.1];exact hp
 refine⟨hb.len,fun k hk=>?_⟩
 have:=hb.get (k:=k)<|by rw[hb.len];exact hk
 omega
def CntOk(s:qJ)(counts:yLI):Prop:=counts.length=s.qB.length/\∀i,i<counts.length->0<=counts[i]! /\counts[i]! <=1000
theorem CntOk.bd{counts:yLI}(h:CntOk s counts)(hi:i<s.qB.length):0<=counts[i]! /\counts[i]! <=1000:=h.2 i<|by rw[h.1];exact hi
def restR(s:qJ)(t:qV)(counts:yLI):Nat->yLL
 |0=>t.qG
 |k+1=>(restR s t counts k).set s.qB[k]!.qW.toNat<|vX ((restR s t counts k)[s.qB[k]!.qW.toNat]!) s.qB[k]!.vg (-counts[k]!)
def needF(s:qJ)(counts:yLI)(i p k:Nat):Int:=at' p s.qB[i]!.qW.toNat (-counts[i]!*(s.qB[i]!.vg)[k]!)
def needS(s:qJ)(counts:yLI):Nat->Nat->Nat->Int
 |0,_,_=>0
 |i+1,p,k=>needS s counts i p k+needF s counts i p k
theorem restR_ent{s:qJ}{t:qV}{counts:yLI}(hs:jW s)(ht:zA s t)(hc:CntOk s counts):∀k,k<=s.qB.length→
 Ent (xJ s) (vG s) (fun p q=>(t.qG[p]!)[q]! +needS s counts k p q) (1000+1000000*k) (restR s t counts k)
 |0,_=>⟨by simpa [restR] using ht.shape,fun p k hp hk=>by simp[restR,needS]⟩
 |k+1,h=>by
  have hr:=hs.rule (i:=k) qf
  have hcb:=hc.bd (i:=k) qf
  refine((restR_ent hs ht hc k qf).add (D:=1000000) J hr.cell (hr.2.2.2.2.1.mul qf) qf).to (fun p q=>?_) qf
  show _=_+(needS s counts k p q+needF s counts k p q)
  unfold needF;omega
theorem restR_row{counts:yLI}(hs:jW s)(ht:zA s t)(hc:CntOk s counts){c:Nat}(hk:k<=s.qB.length)(h:c<xJ s):
 ((restR s t counts k)[c]!).length=vG s/\Mid ((restR s t counts k)[c]!):=(restR_ent hs ht hc k hk).sh.row (by have:=hs.2.1;omega) (X8 hs) h
theorem restR_len{s:qJ}{t:qV}{counts:yLI}:∀k,(restR s t counts k).length=t.qG.length
 |0=>rfl
 |k+1=>by rw[restR,List.length_set];exact restR_len k
theorem restR_skip{counts:yLI}(hs:jW s)(ht:zA s t)(hk:k<s.qB.length)(h:counts[k]! =0):restR s t counts (k+1)=restR s t counts k:=by
 rw[restR,plus_zero qf]
 exact set_self (by rw[restR_len,ht.2.1];exact(hs.rule hk).cell) J
def BadAt(s:qJ)(t:qV)(counts:yLI)(i:Nat):Prop:=0<counts[i]! /\¬Appl s t i
def GoodTo(s:qJ)(t:qV)(counts:yLI)(k:Nat):Prop:=∀i,i<k->¬BadAt s t counts i
theorem GoodTo.succ{counts:yLI}(h:GoodTo s t counts k)(h1:¬BadAt s t counts k):GoodTo s t counts (k+1):=fun j hj=>by
 by_cases e:j=k
 ·subst e;exact h1
 ·exact h j qf
def NonNeg(b:yLL)(n:Nat):Prop:=∀p,p<n->∀k,k<b[p]!.length->0<=(b[p]!)[k]!
theorem NonNeg.succ(h:NonNeg b n)(h1:∀k,k<b[n]!.length->0<=(b[n]!)[k]!):NonNeg b (n+1):=fun j hj=>by
 by_cases e:j=n
 ·subst e;exact h1
 ·exact h j qf
def IsCh(s:qJ)(t:qV)(counts:yLI):Prop:=GoodTo s t counts counts.length/\NonNeg (restR s t counts counts.length) t.qG.length
def Xw(l m:yLI):Nat->Int
 |0=>1000
 |k+1=>if 0<l[k]! then min (Xw l m k) (m[k]! / l[k]!) else Xw l m k
def XU(l m:yLI):Int:=Xw l m l.length
theorem timesTo_pos{m:yLI}(h:0<l[k]!):Xw l m (k+1)=min (Xw l m k) (m[k]! / l[k]!):=by rw[Xw,if_pos h]
theorem timesTo_skip{m:yLI}(h:¬0<l[k]!):Xw l m (k+1)=Xw l m k:=by rw[Xw,if_neg h]
theorem Yg{l m:yLI}(hm:∀k,k<l.length->0<=m[k]!):∀k,k<=l.length->0<=Xw l m k/\Xw l m k<=1000
 |0,_=>by simp[Xw]
 |k+1,h=>by
  have:=Yg hm k qf
  rw[Xw]
  split
  ·next h1=>have:=Int.ediv_nonneg (hm k qf) (show 0<=l[k]! by omega);omega
  ·exact this
theorem timesTo_le{l m:yLI}:∀ {k j:Nat},j<k->0<l[j]! ->Xw l m k<=m[j]! / l[j]!
 |k+1,j,h,h1=>by
  rw[Xw]
  by_cases e:j=k
  ·subst e;rw[if_pos h1];omega
  ·have:=timesTo_le (m:=m) (show j<k by omega) h1
   split <;> omega
theorem timesL_left{m:yLI}(hl:∀k,k<l.length->0<=l[k]!)(hm:∀k,k<l.length->0<=m[k]!)(hk:k<l.length):0<=m[k]! + -(XU l m)*l[k]! :=by
 rcases Int.lt_or_eq_of_le (hl k hk) with h|h
 ·have h1:=timesTo_le (m:=m) hk h
  have h2:m[k]! / l[k]!*l[k]! <=m[k]! :=Int.ediv_mul_le _ qf
  have h3:=Int.mul_le_mul_of_nonneg_right h1<|show 0<=l[k]! by omega
  have h4: -(XU l m)*l[k]! = -(XU l m*l[k]!):=Int.neg_mul ..
  unfold XU at *
  omega
 ·rw[←h];have:=hm k hk;omega
def XR(l m:yLI)(i:Nat)(f8:Int):Prop:=(f8=Xw l m i/\∃j,j<i/\0<l[j]!)\/(f8= -1/\Xw l m i=1000/\∀j,j<i->l[j]! <=0)
theorem XR.zero(l m:yLI):XR l m 0 (-1):=.inr ⟨rfl,rfl,fun j hj=>by omega⟩
theorem XR.take{m:yLI}(h:XR l m i f8)(hm:0<=m[i]! /\m[i]! <=1000)(hl:0<l[i]!)(hb:f8<0\/m[i]! / l[i]!<f8)(hn:0<=Xw l m i):XR l m (i+1) (m[i]! / l[i]!):=by
 refine .inl ⟨?_,i,by omega,hl⟩
 rw[timesTo_pos hl]
 have h1:m[i]! / l[i]! <=m[i]! :=Int.ediv_le_self _ hm.1
 rcases h with ⟨h,_⟩|⟨h,h2,_⟩ <;> omega
theorem XR.keep{m:yLI}(h:XR l m i f8)(hl:¬0<l[i]!):XR l m (i+1) f8:=by
 unfold XR
 rw[timesTo_skip hl]
 rcases h with ⟨h,j,h1,h2⟩|⟨h,h2,h3⟩
 ·exact .inl ⟨h,j,by omega,h2⟩
 ·refine .inr ⟨h,h2,fun j hj=>?_⟩
  by_cases e:j=i
  ·subst e;omega
  ·exact h3 j qf
theorem XR.keep2{m:yLI}(h:XR l m i f8)(hl:0<l[i]!)(hb:¬f8<0)(hn:¬m[i]! / l[i]!<f8):XR l m (i+1) f8:=by
 refine .inl ⟨?_,i,by omega,hl⟩
 rw[timesTo_pos hl]
 rcases h with ⟨h,_⟩|⟨h,_⟩ <;> omega
theorem XR.done{m:yLI}(h:XR l m i f8)(hp:∃j,j<i/\0<l[j]!):f8=Xw l m i:=by
 rcases h with ⟨h,_⟩|⟨_,_,h3⟩
 ·exact h
 ·obtain⟨j,h1,h2⟩:=hp
  have:=h3 j h1;omega
theorem sum_pos(h:Yj l)(h1:Yk l≠0):∃j,j<l.length/\0<l[j]! :=by
 apply Classical.byContradiction
 intro hn
 have h0:∀k,k<=l.length->sumTo l k=0:=by
  intro k
  induction k with
  |zero=>intro _;rfl
  |succ k ih=>
   intro hk
   have h2:=h.1 k qf
   have h3:¬0<l[k]! :=fun h4=>hn ⟨k,by omega,h4⟩
   rw[sumTo,ih qf];omega
 exact h1<|h0 _<|Nat.le_refl _
open Classical in
noncomputable def jL(s:qJ)(t:qV):Nat->yLL
 |0=>t.qG
 |k+1=>if Appl s t k then (jL s t k).set s.qB[k]!.qW.toNat (vX ((jL s t k)[s.qB[k]!.qW.toNat]!) s.qB[k]!.vg (-(XU s.qB[k]!.vg ((jL s t k)[s.qB[k]!.qW.toNat]!)))) else jL s t k
open Classical in
noncomputable def firstC(s:qJ)(t:qV)(k:Nat):Int:=if Appl s t k then XU s.qB[k]!.vg ((jL s t k)[s.qB[k]!.qW.toNat]!) else 0
noncomputable def firstTo(s:qJ)(t:qV)(m n:Nat):yLI:=(List.range n).map fun j=>if j<m then firstC s t j else 0
noncomputable def xq(s:qJ)(t:qV):yLI:=firstTo s t s.qB.length s.qB.length
theorem VO(h:Appl s t k):jL s t (k+1)=(jL s t k).set s.qB[k]!.qW.toNat (vX ((jL s t k)[s.qB[k]!.qW.toNat]!) s.qB[k]!.vg (-(XU s.qB[k]!.vg ((jL s t k)[s.qB[k]!.qW.toNat]!)))):=by rw[jL,if_pos h]
theorem firstR_no(h:¬Appl s t k):jL s t (k+1)=jL s t k:=by rw[jL,if_neg h]
theorem firstR_skip{s:qJ}{t:qV}{m:Nat}:∀ {d:Nat},(∀j,m<=j->j<m+d->¬Appl s t j)->jL s t (m+d)=jL s t m
 |0,_=>rfl
 |d+1,h=>by rw[←Nat.add_assoc,firstR_no<|h (m+d) qf qf,firstR_skip fun j h1 h2=>h j h1 qf]
theorem firstR_same(hm:m<=i)(h:∀j,m<=j->j<i->¬Appl s t j):jL s t i=jL s t m:=by
 obtain⟨d,rfl⟩:∃d,i=m+d:=⟨i-m,by omega⟩
 exact firstR_skip h
theorem Xy(h:Appl s t k):firstC s t k=XU s.qB[k]!.vg ((jL s t k)[s.qB[k]!.qW.toNat]!):=by rw[firstC,if_pos h]
theorem VW(h:¬Appl s t k):firstC s t k=0:=by rw[firstC,if_neg h]
theorem yw(s:qJ)(t:qV)(m n:Nat):(firstTo s t m n).length=n:=by simp[firstTo]
theorem Xu(h:j<n):(firstTo s t m n)[j]! =if j<m then firstC s t j else 0:=by
 rw[getElem!_pos (firstTo s t m n) j<|by rw[yw];exact h];simp[firstTo]
theorem firstTo_snoc(s:qJ)(t:qV)(m:Nat):firstTo s t m m++[firstC s t m]=firstTo s t (m+1) (m+1):=by
 refine ext_get (by simp[yw]) fun k hk=>?_
 rw[List.length_append,yw] at hk
 simp only[List.length_cons,List.length_nil] at hk
 rw[Xu qf,if_pos qf]
 rw[getElem!_pos (firstTo s t m m++[firstC s t m]) k<|by simp[yw];omega]
 by_cases e:k=m
 ·subst e;rw[List.getElem_append_right<|by simp[yw]];simp[yw]
 ·rw[List.getElem_append_left<|by rw[yw];omega]
  have:=Xu (s:=s) (t:=t) (m:=m) (n:=m) (j:=k) qf
  rw[getElem!_pos (firstTo s t m m) k<|by rw[yw];omega,if_pos qf] at this
  exact this
theorem firstTo_snoc'(h:x=firstC s t m):firstTo s t m m++[x]=firstTo s t (m+1) (m+1):=h▸firstTo_snoc s t m
theorem firstTo_zero(s:qJ)(t:qV)(n:Nat):List.replicate n (0:Int)=firstTo s t 0 n:=by
 refine ext_get (by simp[yw]) fun k hk=>?_
 rw[List.length_replicate] at hk
 rw[Xu hk,if_neg qf,getElem!_pos (List.replicate n (0:Int)) k<|by simpa using hk];simp
theorem firstTo_set(hm:m<=i)(hi:i<n)(h:∀j,m<=j->j<i->¬Appl s t j)(hx:x=firstC s t i):(firstTo s t m n).set i x=firstTo s t (i+1) n:=by
 refine ext_get (by simp[yw]) fun k hk=>?_
 rw[List.length_set,yw] at hk
 rw[getset<|by rw[yw];exact hi,Xu hk,Xu hk]
 by_cases e:k=i
 ·subst e;rw[if_pos J,if_pos qf,hx]
 ·rw[if_neg e]
  by_cases h1:k<m
  ·rw[if_pos h1,if_pos qf]
  ·rw[if_neg h1]
   by_cases h2:k<i
   ·rw[if_pos qf,VW<|h k qf h2]
   ·rw[if_neg qf]
theorem firstTo_end(hm:m<=n)(h:∀j,m<=j->j<n->¬Appl s t j):firstTo s t m n=firstTo s t n n:=by
 refine ext_get (by simp[yw]) fun k hk=>?_
 rw[yw] at hk
 rw[Xu hk,Xu hk,if_pos hk]
 by_cases h1:k<m
 ·rw[if_pos h1]
 ·rw[if_neg h1,VW<|h k qf hk]
def Box(n K:Nat)(b:yLL):Prop:=b.length=n/\∀p,p<n->b[p]!.length=K/\∀k,k<K->0<=(b[p]!)[k]! /\(b[p]!)[k]! <=1000
theorem zA.box(h:zA s t):Box (xJ s) (vG s) t.qG:=by
 refine⟨h.2.1,fun p hp=>?_⟩
 have hb:=h.bagLen (k:=p)<|by rw[h.2.1];exact hp
 exact⟨hb.len,fun k hk=>hb.get<|by rw[hb.len];exact hk⟩
theorem firstR_box{s:qJ}{t:qV}(hs:jW s)(ht:zA s t):∀k,k<=s.qB.length->Box (xJ s) (vG s) (jL s t k)
 |0,_=>ht.box
 |k+1,h=>by
  have ih:=firstR_box hs ht k qf
  by_cases ha:Appl s t k
  ·rw[VO ha]
   have hr:=hs.rule (i:=k) qf
   have hb:=hr.2.2.2.2.1
   have hc:=ih.2 _ hr.cell
   refine⟨by rw[List.length_set];exact ih.1,fun p hp=>?_⟩
   rw[getset<|by rw[ih.1];exact hr.cell]
   by_cases e:p=s.qB[k]!.qW.toNat
   ·rw[if_pos e,QL]
    refine⟨hc.1,fun q hq=>?_⟩
    rw[plus_get<|by rw[hc.1];exact hq]
    have h1:=timesL_left (l:=s.qB[k]!.vg) (m:=(jL s t k)[s.qB[k]!.qW.toNat]!) (fun j hj=>(hb.get hj).1) (fun j hj=>(hc.2 j<|by rw[←hb.len];exact hj).1) (k:=q)<|by rw[hb.len];exact hq
    refine⟨h1,?_⟩
    have h2:=Yg (l:=s.qB[k]!.vg) (m:=(jL s t k)[s.qB[k]!.qW.toNat]!) (fun j hj=>(hc.2 j<|by rw[←hb.len];exact hj).1) _<|Nat.le_refl _
    have h3:=Int.mul_nonneg h2.1 (hb.get (k:=q)<|by rw[hb.len];exact hq).1
    have h4:=(hc.2 q hq).2
    have h5: -(XU s.qB[k]!.vg ((jL s t k)[s.qB[k]!.qW.toNat]!))*(s.qB[k]!.vg)[q]! = -(XU s.qB[k]!.vg ((jL s t k)[s.qB[k]!.qW.toNat]!)*(s.qB[k]!.vg)[q]!):=Int.neg_mul ..
    unfold XU at *
    omega
   ·rw[if_neg e];exact ih.2 p hp
  ·rw[firstR_no ha];exact ih
theorem firstR_row(hs:jW s)(ht:zA s t){c:Nat}(hk:k<=s.qB.length)(h:c<xJ s):
 ((jL s t k)[c]!).length=vG s/\Mid ((jL s t k)[c]!)/\∀q,q<vG s->0<=((jL s t k)[c]!)[q]! /\((jL s t k)[c]!)[q]! <=1000:=by
 have h1:=(firstR_box hs ht k hk).2 c h
 have:=X8 hs
 exact⟨h1.1,⟨by have:=h1.1;omega,fun q hq=>by have:=h1.2 q (by have:=h1.1;omega);omega⟩,h1.2⟩
theorem firstC_bd(hs:jW s)(ht:zA s t)(hk:k<s.qB.length):0<=firstC s t k/\firstC s t k<=1000:=by
 by_cases ha:Appl s t k
 ·rw[Xy ha]
  have hr:=hs.rule hk
  have hc:=firstR_row hs ht (Nat.le_of_lt hk) hr.cell
  exact Yg (fun j hj=>(hc.2.2 j<|by rw[←hr.2.2.2.2.1.len];exact hj).1) _<|Nat.le_refl _
 ·rw[VW ha];omega
theorem XY(hs:jW s)(ht:zA s t):CntOk s (xq s t):=by
 refine⟨yw _ _ _ _,fun i hi=>?_⟩
 rw[xq,yw] at hi
 rw[xq,Xu hi,if_pos hi]
 exact firstC_bd hs ht hi
theorem first_rest{s:qJ}{t:qV}(hs:jW s)(ht:zA s t):∀k,k<=s.qB.length->restR s t (xq s t) k=jL s t k
 |0,_=>rfl
 |k+1,h=>by
  have ih:=first_rest hs ht k qf
  have hg:(xq s t)[k]! =firstC s t k:=by rw[xq,Xu qf,if_pos qf]
  by_cases ha:Appl s t k
  ·rw[VO ha,restR,ih,hg,Xy ha]
  ·rw[firstR_no ha,restR_skip hs ht qf<|by rw[hg,VW ha],ih]
theorem first_isCh(hs:jW s)(ht:zA s t):IsCh s t (xq s t):=by
 have hl:(xq s t).length=s.qB.length:=yw _ _ _ _
 constructor
 ·intro i hi
  rw[hl] at hi
  rintro⟨h1,h2⟩
  rw[xq,Xu hi,if_pos hi,VW h2] at h1
  omega
 ·rw[hl,first_rest hs ht _<|Nat.le_refl _]
  have hb:=firstR_box hs ht _<|Nat.le_refl _
  intro p hp k hk
  rw[ht.2.1] at hp
  have:=hb.2 p hp
  exact(this.2 k<|by rw[←this.1];exact hk).1
theorem parentNow_root(hs:yf s):xY s t 0= -1:=by
 unfold xY
 rw[show s.qA[(0:Int).toNat]! = -1 from hs.2.2.1]
 exact climb_end fun h=>by omega
def outPl(s:qJ)(t:qV)(r:yz):Nat:=if r.qW=0 then xJ s else (xY s t r.qW).toNat
theorem outPl_root(h:r.qW=0):outPl s t r=xJ s:=by rw[outPl,if_pos h]
theorem outPl_up(h:r.qW≠0):outPl s t r=(xY s t r.qW).toNat:=by rw[outPl,if_neg h]
def intoF(r:yz)(c:Int):Nat->Nat->Nat->Int
 |0,_,_=>0
 |j+1,p,k=>intoF r c j p k+at' p r.xn[j]!.qW.toNat (c*(r.xn[j]!.Xc)[k]!)
def putF(s:qJ)(t:qV)(r:yz)(c:Int)(p k:Nat):Int:=at' p r.qW.toNat (c*r.jq[k]!)+at' p (outPl s t r) (c*r.Qz[k]!)+intoF r c r.xn.length p k
def putS(s:qJ)(t:qV)(counts:yLI):Nat->Nat->Nat->Int
 |0,_,_=>0
 |i+1,p,k=>putS s t counts i p k+putF s t s.qB[i]! counts[i]! p k
def allS(s:qJ)(t:qV)(counts:yLI):Nat->Nat->Nat->Int
 |0,_,_=>0
 |i+1,p,k=>allS s t counts i p k+needF s counts i p k+putF s t s.qB[i]! counts[i]! p k
theorem allS_eq(s:qJ)(t:qV)(counts:yLI)(p k:Nat):∀i,allS s t counts i p k=needS s counts i p k+putS s t counts i p k
 |0=>rfl
 |i+1=>by
  have:=allS_eq s t counts p k i
  simp only[allS,needS,putS]
  omega
theorem at_zero(p c:Nat)(x:Int):at' p c (0*x)=0:=by unfold at';split <;> simp
theorem intoF_zero(r:yz)(p k:Nat):∀j,intoF r 0 j p k=0
 |0=>rfl
 |j+1=>by rw[intoF,intoF_zero r p k j,at_zero];rfl
theorem putF_zero(s:qJ)(t:qV)(r:yz)(h:c=0)(p k:Nat):putF s t r c p k=0:=by
 subst h;rw[putF,at_zero,at_zero,intoF_zero];rfl
def base0(s:qJ)(t:qV)(p k:Nat):Int:=if p<xJ s then (t.qG[p]!)[k]! else t.qF[k]!
def stepF(s:qJ)(t:qV)(counts:yLI)(p k:Nat):Int:=base0 s t p k+allS s t counts s.qB.length p k
noncomputable def zX(s:qJ)(t:qV)(counts:yLI):qV:=
 ⟨t.qO,(tab2 (xJ s+1) (vG s)<|stepF s t counts).take<|xJ s,(tab2 (xJ s+1) (vG s)<|stepF s t counts)[xJ s]!⟩
theorem zA.around(h:zA s t):t.qF.length=vG s/\∀k,k<vG s->0<=t.qF[k]! /\t.qF[k]! <=1000:=by
 have hb:=h.2.2.2.1
 exact⟨hb.len,fun k hk=>hb.get<|by rw[hb.len];exact hk⟩
theorem start_ent{counts:yLI}(ht:zA s t):Ent (xJ s+1) (vG s) (fun p k=>base0 s t p k+allS s t counts 0 p k) 1000 (t.qG++[t.qF]):=by
 have h1:Ent (xJ s) (vG s) (fun p k=>base0 s t p k+allS s t counts 0 p k) 1000 t.qG:=⟨ht.shape,fun p k hp hk=>by simp[base0,hp,allS]⟩
 refine h1.snoc ht.around.1 (fun k hk=>by have:=ht.around.2 k hk;omega) fun k hk=>?_
 simp[base0,allS]
theorem step_tab{counts:yLI}(h:Ent (xJ s+1) (vG s) (fun p k=>base0 s t p k+allS s t counts s.qB.length p k) B b):
 b.take (xJ s)=(zX s t counts).qG/\b[xJ s]! =(zX s t counts).qF:=by
 have e:=h.tab
 constructor
 ·show _=(tab2 _ _ _).take _
  rw[e];rfl
 ·show _=(tab2 _ _ _)[_]!
  rw[e];rfl
theorem cat_get{c:Nat}(hc:c<b.length):(b++[a])[c]! =b[c]! :=by
 rw[getElem!_pos (b++[a]) c qy,getElem!_pos b c hc,List.getElem_append_left hc]
theorem cat_getN(h:b.length=n):(b++[a])[n]! =a:=by
 rw[getElem!_pos (b++[a]) n qy,List.getElem_append_right qf];simp[h]
def MeltsTo(s:qJ)(counts:yLI)(c:Int)(k:Nat):Prop:=∃i,i<k/\0<counts[i]! /\s.qB[i]!.je=true/\s.qB[i]!.qW=c
theorem melts_zero(s:qJ)(counts:yLI)(c:Int):¬MeltsTo s counts c 0:=fun⟨i,h,_⟩=>by omega
theorem melts_succ{counts:yLI}:MeltsTo s counts c (k+1)<->MeltsTo s counts c k\/(0<counts[k]! /\s.qB[k]!.je=true/\s.qB[k]!.qW=c):=by
 constructor
 ·rintro⟨i,h,h1⟩
  by_cases e:i=k
  ·subst e;exact .inr h1
  ·exact .inl ⟨i,by omega,h1⟩
 ·rintro(⟨i,h,h1⟩|h)
  ·exact⟨i,by omega,h1⟩
  ·exact⟨k,by omega,h⟩
abbrev Melts(s:qJ)(counts:yLI)(c:Int):Prop:=MeltsTo s counts c s.qB.length
noncomputable def Xi(s:qJ)(counts:yLI)(n k:Nat):List Bool:=(List.range n).map fun c:Nat=>dec<|MeltsTo s counts (c:Int) k
theorem meltsL_len(s:qJ)(counts:yLI)(n k:Nat):(Xi s counts n k).length=n:=by simp[Xi]
theorem meltsL_get{counts:yLI}{c:Nat}(h:c<n):(Xi s counts n k)[c]! =dec (MeltsTo s counts (c:Int) k):=by
 rw[getElem!_pos (Xi s counts n k) c<|by rw[meltsL_len];exact h];simp[Xi]
theorem meltsL_zero(s:qJ)(counts:yLI)(n:Nat):List.replicate n false=Xi s counts n 0:=by
 refine ext_get (by simp[meltsL_len]) fun k hk=>?_
 rw[List.length_replicate] at hk
 rw[meltsL_get hk,xH<|melts_zero _ _ _,getElem!_pos (List.replicate n false) k<|by simpa using hk];simp
theorem meltsL_set{counts:yLI}(h0:0<=s.qB[k]!.qW)(h:s.qB[k]!.qW.toNat<n){x:Bool}(hx:x=true<->((Xi s counts n k)[s.qB[k]!.qW.toNat]! =true\/(0<counts[k]! /\s.qB[k]!.je=true))):
 (Xi s counts n k).set s.qB[k]!.qW.toNat x=Xi s counts n (k+1):=by
 refine ext_get (by simp[meltsL_len]) fun p hp=>?_
 rw[List.length_set,meltsL_len] at hp
 rw[getset<|by rw[meltsL_len];exact h,meltsL_get hp,meltsL_get hp]
 rw[meltsL_get h] at hx
 by_cases e:p=s.qB[k]!.qW.toNat
 ·rw[if_pos e]
  refine dec_eq<|hx.trans ?_
  rw[melts_succ,e,show ((s.qB[k]!.qW.toNat:Nat):Int)=s.qB[k]!.qW by omega]
  constructor
  ·rintro(h1|h1)
   ·exact .inl<|Qy h1
   ·exact .inr ⟨h1.1,h1.2,J⟩
  ·rintro(h1|h1)
   ·exact .inl<|QD h1
   ·exact .inr ⟨h1.1,h1.2.1⟩
 ·rw[if_neg e]
  refine dec_congr ?_
  rw[melts_succ]
  constructor
  ·exact .inl
  ·rintro(h1|⟨_,_,h1⟩)
   ·exact h1
   ·exfalso;omega
open Classical in
noncomputable def zW(s:qJ)(counts:yLI)(u:qV):Nat->qV
 |0=>u
 |j+1=>if Melts s counts ((xJ s:Int)-1-j) then melted s (zW s counts u j) ((xJ s:Int)-1-j) else zW s counts u j
theorem meltDown_yes{counts:yLI}(h:Melts s counts c)(hc:c=(xJ s:Int)-1-j):zW s counts u (j+1)=melted s (zW s counts u j) c:=by subst hc;rw[zW,if_pos h]
theorem meltDown_no{counts:yLI}(h:¬Melts s counts c)(hc:c=(xJ s:Int)-1-j):zW s counts u (j+1)=zW s counts u j:=by subst hc;rw[zW,if_neg h]
theorem meltDown_yes'{counts:yLI}(h:dec (MeltsTo s counts c i)=true)(hi:i=s.qB.length)(hc:c=(xJ s:Int)-1-j):zW s counts u (j+1)=melted s (zW s counts u j) c:=by subst hi;exact meltDown_yes (Qy h) hc
theorem meltDown_no'{counts:yLI}(h:dec (MeltsTo s counts c i)=false)(hi:i=s.qB.length)(hc:c=(xJ s:Int)-1-j):zW s counts u (j+1)=zW s counts u j:=by subst hi;exact meltDown_no (vS h) hc
theorem VC(s:qJ)(counts:yLI)(u:qV):∀j,(zW s counts u j).qF=u.qF
 |0=>rfl
 |j+1=>by
  rw[zW]
  split
  ·exact VC s counts u j
  ·exact VC s counts u j
structure Live(s:qJ)(B:Int)(u:qV):Prop where
 alive:u.qO.length=xJ s
 root:u.qO[0]! =true
 bags:Shape (xJ s) (vG s) B u.qG
 around:u.qF.length=vG s
theorem Live.melt(hs:jW s)(h:Live s B u)(hB:0<=B)(h0:0<c)(h1:c<=(xJ s:Int)-1):Live s (2*B) (melted s u c):=by
 have hp:=parentNow_in (t:=u) hs.1 h.root h0 h1
 have hpc:(xY s u c).toNat<xJ s:=by omega
 have hcc:c.toNat<xJ s:=by omega
 refine⟨by simp[melted,h.alive],?_,?_,h.around⟩
 ·show (u.qO.set c.toNat false)[0]! =true
  rw[getset<|by rw[h.alive];exact hcc,if_neg qf];exact h.root
 ·have hr:=(h.bags.2 _ hcc).2
  have hk:=(h.bags.2 _ hcc).1
  have h2:=h.bags.plus (m:=u.qG[c.toNat]!) (t:=1) (D:=B) hpc (fun k hk=>by have:=hr k hk;omega) hB
  refine(h2.set (D:=B+B) hcc (by simp[vG]) (fun k hk=>?_) qf).mono qf
  rw[getElem!_pos (List.replicate s.qQ.toNat (0:Int)) k<|by simpa [vG] using hk]
  simp;omega
def bnd:Nat->Int
 |0=>200000000
 |j+1=>2*bnd j
theorem bnd_pos:∀j,0<=bnd j
 |0=>by simp[bnd]
 |j+1=>by have:=bnd_pos j;simp only[bnd];omega
theorem bnd_mono:∀ {i j:Nat},i<=j->bnd i<=bnd j
  | i, 0, h => by obtain rfl : i = 0 := by omega
                  exact Int.le_refl _
  | i,j+1,h=>by
    by_cases e:i=j+1
    · subst e;exact Int.le_refl _
    · have:=bnd_mono (show i<=j by omega)
      have:=bnd_pos j
      simp only[bnd];omega
theorem bnd_le(h:j<=6):bnd j<=12800000000:=Int.le_trans (bnd_mono h)<|by simp[bnd]
theorem Live.mono{s:qJ}{B D:Int}{u:qV}(h:Live s B u)(hD:B<=D):Live s D u:=⟨h.alive,h.root,h.bags.mono hD,h.around⟩
theorem stepped_live{counts:yLI}(ht:zA s t)(h:Ent (xJ s+1) (vG s) (fun p k=>base0 s t p k+allS s t counts s.qB.length p k) B b)(hB:B<=200000000):Live s (bnd 0) (zX s t counts):=by
 have h1:=step_tab h
 have hr:=h.sh.2 (xJ s) qf
 refine⟨ht.1,ht.2.2.1,?_,by rw[←h1.2];exact hr.1⟩
 rw[←h1.1]
 refine⟨by rw[List.length_take,h.sh.1];omega,fun p hp=>?_⟩
 have e:(b.take<|xJ s)[p]! =b[p]! :=by
  rw[getElem!_pos (b.take<|xJ s) p<|by rw[List.length_take,h.sh.1];omega,getElem!_pos b p<|by rw[h.sh.1];omega];simp
 rw[e]
 have:=h.sh.2 p qf
 exact⟨this.1,fun k hk=>by have:=this.2 k hk;simp only[bnd];omega⟩
theorem meltDown_live{s:qJ}{counts:yLI}{u:qV}(hs:jW s)(h:Live s (bnd 0) u):∀j,j+1<=xJ s->Live s (bnd j) (zW s counts u j)
 |0,_=>h
 |j+1,hj=>by
  have ih:=meltDown_live (counts:=counts) hs h j qf
  by_cases hm:Melts s counts ((xJ s:Int)-1-j)
  ·rw[meltDown_yes hm J];exact ih.melt hs (bnd_pos j) qf qf
  ·rw[meltDown_no hm J];exact ih.mono<|bnd_mono qf
theorem Live.rows(hs:jW s)(h:Live s B u)(hB:B<=12800000000){c:Nat}(hp:p<xJ s)(hc:c<xJ s):
 u.qG[p]!.length<=u.qG[c]!.length/\Mid (u.qG[p]!)/\XG u.qG[c]! 1:=by
 have h1:=h.bags.row qf (X8 hs) hp
 have h2:=h.bags.row qf (X8 hs) hc
 refine⟨by omega,h1.2,fun k hk=>?_⟩
 have:=h2.2.2 k hk
 omega
noncomputable def stepRes(s:qJ)(t:qV)(counts:yLI):qV×Int:=told s<|zW s counts (zX s t counts)<|xJ s-1
open Classical in
noncomputable def yR(s:qJ)(t:qV)(counts:yLI):qV×Int:=if IsCh s t counts then stepRes s t counts else (default,4)
theorem stepBy_yes{counts:yLI}(h:IsCh s t counts):yR s t counts=stepRes s t counts:=by rw[yR,if_pos h]
theorem stepBy_no{counts:yLI}(h:¬IsCh s t counts):yR s t counts=(default,4):=by rw[yR,if_neg h]
end
section
variable{cl cm bs os qL xh bt ot xI zq xy : Nat}
theorem l00Max_ok(w:World)(a:Int)(b:Int):Calls Tryz.prog 147 #[yI a,yI b] w (Ret (fun v w'=>v=yI (max a b)) w):=by
 refine en func147 ntmps147 ?_
 have H:=St.start w
 refine zcr<|sp (yI 0)<|zjcc<|sp (yI a)<|sp (yI b)<|sq 1<|zjn<|cD J (fun h1=>?_)<|fun h1=>?_
 ·refine zcr (sp (yI a)<|sp (yI a)<|zjr<|t_r<|rH1 (yI a) H<|congrArg (Value.int .i64) ?_)
  omega
 refine xe<|t_n<|zcr<|sp (yI b)<|sp (yI b)<|zjr<|rH1 (yI b) H<|congrArg (Value.int .i64) ?_
 omega
theorem l01Within_ok(w:World)(l:yLI)(m:yLI)(hl:zP w Fl al cl l)(hm:zP w Fm am cm m)(p0:l.length<=m.length):Calls Tryz.prog 181 #[Sv al l.length cl,Sv am m.length cm] w (Ret (fun v w'=>v=Bv (within l m)) w):=by
 refine en func181 ntmps181 ?_
 have H:=((St.start w).arg hm).arg hl
 have Cr:=qN hl
 have nhm:=qN hm
 clear hl hm
 have N:=Fresh.nil w.heap.size
 refine zcr<|sp (Bv false)<|zjcc<|sp (yI 0)<|zjn<|xg<|vk ((fun Z0 Z1=>fun m' ρ w1=>∃(xR:Env) (i:Nat),ρ=upd (upd (upd xR 0<|Sv al l.length cl) 1<|Sv am m.length cm) 5 (yI i)/\((i:Int)<=l.length)/\(withinTo l m i)/\m'=(l.length-(i:Int)).toNat/\Fresh w.heap.size []/\St w w1 [] [Z0,Z1]) _ _) ((l.length-(0:Int)).toNat) ⟨_,0,uE3,qf,(by exact withinTo_zero l m),J,N,H⟩ ?_
 clear H N
 rintro m' ρ w2 ⟨xR,i,rfl,i0,i1,rfl,N,H⟩
 refine zcc<|sp (yI i)<|sq 1<|oN J<|sq 1<|zjn<|cD J (fun h3=>?_)<|fun h3=>?_
 ·refine xe (t_n<|xO<|xg<|xO<|QY J H fun H=>rtl 0 H ?_)
  refine rtp 1 (yI i) H ?_
  obtain⟨b5,o6,rfl⟩:=H.addr 0 rfl qf
  refine tI 2 J J J H ?_
  refine tL 3 J J (fun _ h=>h.vM 0 J i qf) H ?_
  refine rtl 4 H ?_
  refine rtp 5 (yI i) H ?_
  obtain⟨b8,o9,rfl⟩:=H.addr 1 rfl qf
  refine tI 6 J J J H ?_
  refine tL 7 J J (fun _ h=>h.vM 1 J i qf) H ?_
  refine rtl 8 H ?_
  refine xx qh<|t_n<|cD J (fun cf=>?_)<|fun cf=>?_
  ·refine zcr (sp (Bv false)<|zjr<|zr5<|rH1 (Bv false) H ?_)
   rw[within_no (k:=i) ‹_› qf]
  refine xe<|b_n<|t_n<|zf<|sp (yI i)<|sw<|zY i 1 J J qf<|sq 1<|xX<|xu (m':=(l.length-((i+1):Int)).toNat) qf ⟨_,i+1,uE3,?_,?_,J,N,H⟩
  ·omega
  ·exact withinTo_succ ‹_› qf
 refine zx4<|zcr<|sp (Bv true)<|zjr<|rH1 (Bv true) H ?_
 rw[within_yes ‹_› qf]
theorem l01Times_ok(w:World)(l:yLI)(m:yLI)(hl:zP w Fl al cl l)(hm:zP w Fm am cm m)(p0:l.length<=m.length)(p2:∀k,k<l.length->0<=m[k]! /\m[k]! <=1000)(p3:∃j,j<l.length/\0<l[j]!):Calls Tryz.prog 178 #[Sv al l.length cl,Sv am m.length cm] w (Ret (fun v w'=>v=yI (XU l m)) w):=by
 refine en func178 ntmps178 ?_
 have H:=((St.start w).arg hm).arg hl
 have Cr:=qN hl
 have nhm:=qN hm
 clear hl hm
 have N:=Fresh.nil w.heap.size
 refine zcr<|sp (yI 0)<|zjc<|sq 1<|zjcc<|sp (yI 0)<|zjn<|xg<|vk ((fun Z0 Z1=>fun m' ρ w1=>∃(xR:Env) (f8:Int) (i:Nat),ρ=upd (upd (upd (upd xR 0<|Sv al l.length cl) 1<|Sv am m.length cm) 5<|yI f8) 6 (yI i)/\((i:Int)<=l.length)/\(XR l m i f8)/\m'=(l.length-(i:Int)).toNat/\Fresh w.heap.size []/\St w w1 [] [Z0,Z1]) _ _) ((l.length-(0:Int)).toNat) ⟨_,(-1),0,uE4,qf,(by exact XR.zero l m),J,N,H⟩ ?_
 clear H N
 rintro m' ρ w2 ⟨xR,f8,i,rfl,i0,i1,rfl,N,H⟩
 refine zcc<|sp (yI i)<|sq 1<|oN J<|sq 1<|zjn<|cD J (fun h3=>?_)<|fun h3=>?_
 ·refine xe (t_n<|xO<|xg<|xO<|QY J H fun H=>rtl 0 H ?_)
  refine rtp 1 (yI i) H ?_
  obtain⟨b5,o6,rfl⟩:=H.addr 0 rfl qf
  refine tI 2 J J J H ?_
  refine tL 3 J J (fun _ h=>h.vM 0 J i qf) H ?_
  refine rtp 4 (Bv<|decide ((l[i]! :Int)>0)) H ?_
  refine rtp 5 (Bv<|decide ((l[i]! :Int)>0)) H ?_
  cases h8:(decide ((l[i]! :Int)>0))
  ·replace h8:=of_decide_eq_false h8
   refine vC (zR 6 15) 15 (H)<|rtp 21 (Bv false) H ?_
   refine xx qh<|t_n<|cFr J<|xe<|b_n<|t_n<|zf<|sp (yI i)<|sw<|zY i 1 J J (by(have:=p2 i qf;omega))<|sq 1<|xX<|xu (m':=(l.length-((i+1):Int)).toNat) qf ⟨_,_,i+1,uE4,?_,?_,J,N,H⟩
   ·omega
   ·exact i1.keep qf
  replace h8:=of_decide_eq_true h8
  refine rgl 6 18 H ?_
  refine rgp 7 (Bv<|decide ((f8:Int)<0)) 18 H ?_
  refine rgp 8 (Bv<|decide ((f8:Int)<0)) 18 H ?_
  cases h9:(decide ((f8:Int)<0))
  ·replace h9:=of_decide_eq_false h9
   refine rgl 9 21 H ?_
   refine rgp 10 (yI i) 21 H ?_
   obtain⟨z8,o11,rfl⟩:=H.addr 1 rfl qf
   refine gI 11 J J J H ?_
   refine gL 12 J J (fun _ h=>h.vM 1 J i qf) H ?_
   refine rgl 13 21 H ?_
   refine rgp 14 (yI i) 21 H ?_
   refine gI 15 J J J H ?_
   refine gL 16 J J (fun _ h=>h.vM 0 J i qf) H ?_
   refine rg 17 _ 21 (y_quo m[i]! l[i]! rfl J (by(have:=p2 i qf;omega))<|by(have:=p2 i qf;omega)) H ?_
   refine rgl 18 21 H ?_
   refine rgl 19 21 H ?_
   refine rgl 20 18 H ?_
   refine rtl 21 H ?_
   refine xx qh<|t_n<|cD J (fun B2=>?_)<|fun B2=>?_
   ·refine QY J H fun H=>rtl 0 H ?_
    refine rtp 1 (yI i) H ?_
    refine tI 2 J J J H ?_
    refine tL 3 J J (fun _ h=>h.vM 1 J i qf) H ?_
    refine rtl 4 H ?_
    refine rtp 5 (yI i) H ?_
    refine tI 6 J J J H ?_
    refine tL 7 J J (fun _ h=>h.vM 0 J i qf) H ?_
    refine rt 8 _ (y_quo m[i]! l[i]! rfl J (by(have:=p2 i qf;omega))<|by(have:=p2 i qf;omega)) H ?_
    refine rtl 9 H ?_
    refine xx qh<|b_n<|t_n<|zf<|sp (yI i)<|sw<|zY i 1 J J (by(have:=p2 i qf;omega))<|sq 1<|xX<|xu (m':=(l.length-((i+1):Int)).toNat) qf ⟨_,_,i+1,uE4,?_,?_,J,N,H⟩
    ·omega
    ·exact i1.take (p2 i qf) qf qf (Yg (fun k hk=>(p2 k hk).1) i qf).1
   refine xe<|b_n<|t_n<|zf<|sp (yI i)<|sw<|zY i 1 J J (by(have:=p2 i qf;omega))<|sq 1<|xX<|xu (m':=(l.length-((i+1):Int)).toNat) qf ⟨_,_,i+1,uE4,?_,?_,J,N,H⟩
   ·omega
   ·exact i1.keep2 qf qf qf
  replace h9:=of_decide_eq_true h9
  refine vC (zR 9 11) 11 (H)<|rgp 20 (Bv true) 18 H ?_
  refine rtp 21 (Bv true) H ?_
  refine xx qh<|t_n<|cTr J ((QY J H fun H=>rtl 0 H ?_))
  refine rtp 1 (yI i) H ?_
  obtain⟨b16,o17,rfl⟩:=H.addr 1 rfl qf
  refine tI 2 J J J H ?_
  refine tL 3 J J (fun _ h=>h.vM 1 J i qf) H ?_
  refine rtl 4 H ?_
  refine rtp 5 (yI i) H ?_
  refine tI 6 J J J H ?_
  refine tL 7 J J (fun _ h=>h.vM 0 J i qf) H ?_
  refine rt 8 _ (y_quo m[i]! l[i]! rfl J (by(have:=p2 i qf;omega))<|by(have:=p2 i qf;omega)) H ?_
  refine rtl 9 H ?_
  refine xx qh<|b_n<|t_n<|zf<|sp (yI i)<|sw<|zY i 1 J J (by(have:=p2 i qf;omega))<|sq 1<|xX<|xu (m':=(l.length-((i+1):Int)).toNat) qf ⟨_,_,i+1,uE4,?_,?_,J,N,H⟩
  ·omega
  ·exact i1.take (p2 i qf) qf qf (Yg (fun k hk=>(p2 k hk).1) i qf).1
 refine zx4<|zcr<|sq 2<|zjr<|rH1 (yI f8) H ?_
 obtain rfl:i=l.length:=by omega
 rw[i1.done p3];rfl
theorem l03Enabled_ok(w:World)(s:qJ)(t:qV)(r:yz)(hs:jO w bs os (yS s qM qL xm xh))(qZ:zP w xN qM qL s.qA)(xM:zP w zN xm xh s.qB)(ht:jO w bt ot (yT t xK xI zB zq xC xy))(zS:zP w vV xK xI t.qO)(vK:zP w jM zB zq t.qG)(zi:zP w zZ xC xy t.qF)(hr:jO w br or [yI r.qW,yI r.yH,Sv gc r.vg.length fM,Sv gt r.jI.length fD,Sv gy r.jK.length fI,Sv gi r.jq.length fH,Sv lI r.Qz.length j0,Sv V5 r.xn.length V3,Bv r.je])(gb:zP w CB gc fM r.vg)(gW:zP w Be gt fD r.jI)(gT:zP w BO gy fI r.jK)(g8:zP w B4 gi fH r.jq)(nh:zP w Ip lI j0 r.Qz)(eW:zP w BM V5 V3 r.xn)(p0:jW s)(p1:zA s t)(p2:RuleOk s r):Calls Tryz.prog 180 #[pp bs os,pp bt ot,pp br or] w (Ret (fun v w'=>v=Bv (dec<|EnOk s t r)) w):=by
 refine en func180 ntmps180 ?_
 have H:=((((((((((((((St.start w).arg eW).arg nh).arg g8).arg gT).arg gW).arg gb).argAt hr).arg zi).arg vK).arg zS).argAt ht).arg xM).arg qZ).argAt hs
 have jP:=qN xM
 have QM:=qN zS
 have Xt:=qN vK
 have Qe:=qN zi
 have BY:=qN eW
 clear hs qZ xM ht zS vK zi hr gb gW gT g8 nh eW
 have N:=Fresh.nil w.heap.size
 have p3:=p2.1
 have p4:=p1.1
 have p5:=p1.2.1
 have p6:=(p1.bagLen (k:=r.qW.toNat) qf).len
 have p7:=p2.2.2.2.2.1.len
 have p8:=p2.2.2.2.2.2.1.len
 have p9:=p2.2.2.2.2.2.2.1.len
 have p10:=ja p2.2.2.2.2.2.2.1
 have p11:=p0.1
 have CS:=p2.2.2.2.2.2.2.2.2.2.2
 refine zcr<|sp (Bv false)<|zjn<|xO<|xO<|QY J H fun H=>rtl 0 H ?_
 refine rtl 1 H ?_
 refine tF 2 J J H ?_
 refine tL 3 J J (fun _ h=>h.zU 3 J 0 J) H ?_
 refine rtl 4 H ?_
 refine rtl 5 H ?_
 refine tF 6 J J H ?_
 refine tL 7 J J (fun _ h=>h.zU 7 J 0 J) H ?_
 obtain⟨b2,o3,rfl⟩:=H.addr 4 rfl qf
 refine tI 8 J J J H ?_
 refine tL 9 J J (fun _ h=>h.elemBool 4 J r.qW qf qf) H ?_
 refine rtl 10 H ?_
 refine xx qh<|t_n<|vP _ J (fun h5=>?_)<|fun h5=>?_
 ·replace h5:=xF h5
  refine zcr<|sp (Bv false)<|zjr<|t_r<|rH1 (Bv false) H ?_
  rw[xH (fun h=>by obtain⟨h1,h2,h3,h4,h5⟩:=h;exact ft h1 ‹_›)]
 replace h5:=xw h5
 refine xe<|t_n<|xO<|QY J H fun H=>rtl 0 H ?_
 refine rtl 1 H ?_
 refine tF 2 J J H ?_
 refine tL 3 J J (fun _ h=>h.zU 3 J 1 J) H ?_
 refine rtl 4 H ?_
 refine rtl 5 H ?_
 refine tF 6 J J H ?_
 refine tL 7 J J (fun _ h=>h.zU 7 J 0 J) H ?_
 obtain⟨b7,o8,rfl⟩:=H.addr 5 rfl qf
 obtain⟨aDx,axe,aPW,H⟩:=H.yg 5 rfl r.qW r.qW.toNat qf qf qf
 refine tI 8 rfl rfl rfl (H.pick []<|zR 2 14)<|ro 9 rfl<|zx (Sv aDx t.qG[r.qW.toNat]!.length axe) isAgg24 rfl (H.zU 1 rfl 0 rfl)<|⟨H.pick []<|zR 2 14,(rtl 10 (H.pick []<|zR 2 14) ?_)⟩
 refine xx qh<|t_n<|zcc<|sq 2<|oF J<|oL J (H.zU 9 J 2 J)<|sq 1<|sw<|oq (l01Within_ok _ r.vg t.qG[r.qW.toNat]! (H.get 10 J).1 (H.get 0 J).1 qg) H fun Lz H=>sp (Bv (!(within r.vg<|t.qG[r.qW.toNat]!)))<|sp (Bv (!(within r.vg<|t.qG[r.qW.toNat]!))) ?_
 cases gz:(!(within r.vg t.qG[r.qW.toNat]!))
 ·replace gz:=xw gz
  refine qP 38 J J<|sq 1<|qP 38 J J<|sq 1<|qP 38 J J<|oF J<|qP 38 J J<|oL J (H.zU 9 J 3 J)<|qP 38 J J<|sq 1<|qP 38 J J<|sw<|oq (l01Within_ok _ r.jI t.qG[r.qW.toNat]! (H.get 11 J).1 (H.get 0 J).1 qg) H fun Kj H=>qP 38 J J<|sp (Bv (!(within r.jI<|t.qG[r.qW.toNat]!)))<|sp (Bv (!(within r.jI<|t.qG[r.qW.toNat]!)))<|sp (Bv (!(within r.jI<|t.qG[r.qW.toNat]!))) ?_
  cases i7:(!(within r.jI t.qG[r.qW.toNat]!))
  ·replace i7:=xw i7
   refine qP 47 J J<|sq 1<|qP 47 J J<|sq 1<|qP 47 J J<|oF J<|qP 47 J J<|oL J (H.zU 9 J 4 J)<|qP 47 J J<|sw<|oq (l01Size_ok _ r.jK (H.get 12 J).1<|by assumption) H fun LP H=>qP 47 J J<|sp (Bv<|decide ((Yk r.jK:Int)>0))<|qP 47 J J<|sp (Bv<|decide ((Yk r.jK:Int)>0)) ?_
   cases ua:(decide ((Yk r.jK:Int)>0))
   ·replace ua:=of_decide_eq_false ua
    refine zk (zR 55 6)<|qP 47 J J<|sp (Bv false)<|sp (Bv false)<|zjn<|cFr J<|xe<|t_n<|zcc<|sp (yI 0)<|zjn<|xg<|vk ((fun Z0 Z1 Z2 Z3 Z4 Z5 Z6 Z7 Z8 Z9 dU eC fe fR gB ij=>fun m' ρ MJ=>∃(xR:Env) (i:Nat),ρ=upd (upd (upd (upd xR 0<|pp bs os) 1<|pp bt ot) 2<|pp br or) 8 (yI i)/\((i:Int)<=r.xn.length)/\(IntoUp s t r i)/\m'=(r.xn.length-(i:Int)).toNat/\Fresh w.heap.size []/\St w MJ [] [Z0,Z1,Z2,Z3,Z4,Z5,Z6,Z7,Z8,Z9,dU,eC,fe,fR,gB,ij]) _ _ _ _ _ _ _ _ _ _ _ _ _ _ _ _) ((r.xn.length-(0:Int)).toNat) ⟨_,0,uE4,qf,qx,J,N,H⟩ ?_
    clear H N
    rintro m' ρ E8 ⟨xR,i,rfl,i0,i1,rfl,N,H⟩
    refine zcc<|sp (yI i)<|sq 2<|oF J<|oL J (H.zU 9 J 7 J)<|oN J<|sq 1<|zjn<|cD J (fun CW=>?_)<|fun CW=>?_
    ·have q:=(CS i qf).1
     have q1:=q.1
     have q2:=q.2
     refine xe<|t_n<|xO<|xg<|zcr<|sq 2<|oF J<|oL J (H.zU 9 J 7 J)<|sp (yI i) ?_
     obtain⟨Yo,o26,rfl⟩:=H.addr 15 rfl qf
     obtain⟨auE,avc,avz,H⟩:=H.Qr 15 rfl i i qf qf qf
     refine oI J J<|oF J<|oL J (H.zU 1 J 0 J)<|sq 1<|zjn<|xO<|QY J H fun H=>rtl 0 H ?_
     refine rtl 1 H ?_
     refine tF 2 J J H ?_
     refine tL 3 J J (fun _ h=>h.zU 7 J 0 J) H ?_
     refine rtl 4 H ?_
     refine tI 5 J J J H ?_
     refine tL 6 J J (fun _ h=>h.elemBool 8 J r.xn[i]!.qW qf qf) H ?_
     refine rtp 7 (Bv (!(t.qO[r.xn[i]!.qW.toNat]!))) H ?_
     refine rtp 8 (Bv (!(t.qO[r.xn[i]!.qW.toNat]!))) H ?_
     cases Gp:(!(t.qO[r.xn[i]!.qW.toNat]!))
     ·replace Gp:=xw Gp
      refine rgl 9 88 H ?_
      refine rgl 10 88 H ?_
      refine rgl 11 88 H ?_
      refine rgl 13 88 H ?_
      refine rgl 14 88 H ?_
      refine gF 15 J J H ?_
      refine gL 16 J J (fun _ h=>h.zU 11 J 0 J) H ?_
      refine jw [12] qh qm<|Vu J (e:=88) J J (oq (l02Parent_ok _ s t r.xn[i]!.qW (qH (H.get 4 J) 0 3) (H.get 5 J).1 (H.get 6 J).1 (qH (H.get 7 J) 0 3) (H.get 8 J).1 (H.get 9 J).1 (H.get 10 J).1 ql ql ql) H fun w31 H=>⟨H,(rgl 17 88 H ?_)⟩) jy
      refine rtl 18 H ?_
      refine xx qh<|t_n<|vP _ J (fun S8=>?_)<|fun S8=>?_
      ·replace S8:=bne_iff_ne.1 S8
       refine zcr<|sp (Bv false)<|zjr<|zr5<|rH1 (Bv false) H ?_
       rw[xH (fun h=>by obtain⟨h1,h2,h3,h4,h5⟩:=h;(obtain⟨q1,q2⟩:=h5 i qf;exact absurd q2 ‹_›))]
      replace S8:=zo S8
      refine xe<|b_n<|t_n<|zf<|sp (yI i)<|sw<|zY i 1 J J qf<|sq 1<|xX<|xu (m':=(r.xn.length-((i+1):Int)).toNat) qf ⟨_,i+1,uE4,?_,?_,J,N,H.pick []<|zR 2 16⟩
      ·omega
      ·exact i1.succ ‹_› ‹_›
     replace Gp:=xF Gp
     refine vC (zR 9 9) 9 (H)<|rtp 18 (Bv true) H ?_
     refine xx qh<|t_n<|cTr J<|zcr<|sp (Bv false)<|zjr<|zr5<|rH1 (Bv false) H ?_
     rw[xH (fun h=>by obtain⟨h1,h2,h3,h4,h5⟩:=h;(obtain⟨q1,q2⟩:=h5 i qf;exact ft q1 ‹_›))]
    refine zx4<|zcr<|sp (Bv true)<|zjr<|rH1 (Bv true) H ?_
    rw[QD ⟨by assumption,by assumption,by assumption,fun⟨u,v⟩=>by omega,(show i=r.xn.length by omega)▸i1⟩]
   replace ua:=of_decide_eq_true ua
   refine qP 54 J J<|sq 1<|qP 54 J J<|sq 1<|qP 54 J J<|oF J<|qP 54 J J<|oL J (H.zU 9 J 4 J)<|qP 54 J J<|sq 1<|qP 54 J J<|sw<|oq (l01Within_ok _ r.jK t.qG[r.qW.toNat]! (H.get 12 J).1 (H.get 0 J).1 qg) H fun KW H=>qP 47 J J<|sq 2<|zjn<|vP _ J (fun Cj=>?_)<|fun Cj=>?_
   ·refine zcr (sp (Bv false)<|zjr<|t_r<|rH1 (Bv false) H ?_)
    rw[xH (fun h=>by obtain⟨h1,h2,h3,h4,h5⟩:=h;exact h4 ⟨‹_›,‹_›⟩)]
   refine xe<|t_n<|zcc<|sp (yI 0)<|zjn<|xg<|vk ((fun Z0 Z1 Z2 Z3 Z4 Z5 Z6 Z7 Z8 Z9 dU eC fe fR gB ij=>fun m' ρ Qt=>∃(xR:Env) (i:Nat),ρ=upd (upd (upd (upd xR 0<|pp bs os) 1<|pp bt ot) 2<|pp br or) 8 (yI i)/\((i:Int)<=r.xn.length)/\(IntoUp s t r i)/\m'=(r.xn.length-(i:Int)).toNat/\Fresh w.heap.size []/\St w Qt [] [Z0,Z1,Z2,Z3,Z4,Z5,Z6,Z7,Z8,Z9,dU,eC,fe,fR,gB,ij]) _ _ _ _ _ _ _ _ _ _ _ _ _ _ _ _) ((r.xn.length-(0:Int)).toNat) ⟨_,0,uE4,qf,qx,J,N,H⟩ ?_
   clear H N
   rintro m' ρ O1 ⟨xR,i,rfl,i0,i1,rfl,N,H⟩
   refine zcc<|sp (yI i)<|sq 2<|oF J<|oL J (H.zU 9 J 7 J)<|oN J<|sq 1<|zjn<|cD J (fun rP=>?_)<|fun rP=>?_
   ·have q:=(CS i qf).1
    have q1:=q.1
    have q2:=q.2
    refine xe<|t_n<|xO<|xg<|zcr<|sq 2<|oF J<|oL J (H.zU 9 J 7 J)<|sp (yI i) ?_
    obtain⟨GN,o42,rfl⟩:=H.addr 15 rfl qf
    obtain⟨auJ,atG,at1,H⟩:=H.Qr 15 rfl i i qf qf qf
    refine oI J J<|oF J<|oL J (H.zU 1 J 0 J)<|sq 1<|zjn<|xO<|QY J H fun H=>rtl 0 H ?_
    refine rtl 1 H ?_
    refine tF 2 J J H ?_
    refine tL 3 J J (fun _ h=>h.zU 7 J 0 J) H ?_
    refine rtl 4 H ?_
    refine tI 5 J J J H ?_
    refine tL 6 J J (fun _ h=>h.elemBool 8 J r.xn[i]!.qW qf qf) H ?_
    refine rtp 7 (Bv (!(t.qO[r.xn[i]!.qW.toNat]!))) H ?_
    refine rtp 8 (Bv (!(t.qO[r.xn[i]!.qW.toNat]!))) H ?_
    cases Th:(!(t.qO[r.xn[i]!.qW.toNat]!))
    ·replace Th:=xw Th
     refine rgl 9 88 H ?_
     refine rgl 10 88 H ?_
     refine rgl 11 88 H ?_
     refine rgl 13 88 H ?_
     refine rgl 14 88 H ?_
     refine gF 15 J J H ?_
     refine gL 16 J J (fun _ h=>h.zU 11 J 0 J) H ?_
     refine jw [12] qh qm<|Vu J (e:=88) J J (oq (l02Parent_ok _ s t r.xn[i]!.qW (qH (H.get 4 J) 0 3) (H.get 5 J).1 (H.get 6 J).1 (qH (H.get 7 J) 0 3) (H.get 8 J).1 (H.get 9 J).1 (H.get 10 J).1 ql ql ql) H fun w47 H=>⟨H,(rgl 17 88 H ?_)⟩) jy
     refine rtl 18 H ?_
     refine xx qh<|t_n<|vP _ J (fun h49=>?_)<|fun h49=>?_
     ·replace h49:=bne_iff_ne.1 h49
      refine zcr<|sp (Bv false)<|zjr<|zr5<|rH1 (Bv false) H ?_
      rw[xH (fun h=>by obtain⟨h1,h2,h3,h4,h5⟩:=h;(obtain⟨q1,q2⟩:=h5 i qf;exact absurd q2 ‹_›))]
     replace h49:=zo h49
     refine xe<|b_n<|t_n<|zf<|sp (yI i)<|sw<|zY i 1 J J qf<|sq 1<|xX<|xu (m':=(r.xn.length-((i+1):Int)).toNat) qf ⟨_,i+1,uE4,?_,?_,J,N,H.pick []<|zR 2 16⟩
     ·omega
     ·exact i1.succ ‹_› ‹_›
    replace Th:=xF Th
    refine vC (zR 9 9) 9 (H)<|rtp 18 (Bv true) H ?_
    refine xx qh<|t_n<|cTr J<|zcr<|sp (Bv false)<|zjr<|zr5<|rH1 (Bv false) H ?_
    rw[xH (fun h=>by obtain⟨h1,h2,h3,h4,h5⟩:=h;(obtain⟨q1,q2⟩:=h5 i qf;exact ft q1 ‹_›))]
   refine zx4<|zcr<|sp (Bv true)<|zjr<|rH1 (Bv true) H ?_
   rw[QD ⟨by assumption,by assumption,by assumption,fun⟨u,v⟩=>by exact ft v ‹_›,(show i=r.xn.length by omega)▸i1⟩]
  replace i7:=xF i7
  refine zk (zR 48 14)<|sp (Bv true)<|zjn<|cTr J<|zcr<|sp (Bv false)<|zjr<|t_r<|rH1 (Bv false) H ?_
  rw[xH (fun h=>by obtain⟨h1,h2,h3,h4,h5⟩:=h;exact ft h3 ‹_›)]
 replace gz:=xF gz
 refine zk (zR 39 7)<|sp (Bv true)<|sp (Bv true)<|zk (zR 48 14)<|sp (Bv true)<|zjn<|cTr J<|zcr<|sp (Bv false)<|zjr<|t_r<|rH1 (Bv false) H ?_
 rw[xH (fun h=>by obtain⟨h1,h2,h3,h4,h5⟩:=h;exact ft h2 ‹_›)]
theorem l03Applicable_ok(w:World)(s:qJ)(t:qV)(hs:jO w bs os (yS s qM qL xm xh))(qZ:zP w xN qM qL s.qA)(xM:zP w zN xm xh s.qB)(ht:jO w bt ot (yT t xK xI zB zq xC xy))(zS:zP w vV xK xI t.qO)(vK:zP w jM zB zq t.qG)(zi:zP w zZ xC xy t.qF)(p0:jW s)(p1:zA s t):Calls Tryz.prog 177 #[pp bs os,pp bt ot] w (Ret (fun v w'=>∃(ra:yOA) (rn:Nat) (rc:Nat),v=Sv ra rn rc/\Fresh w.heap.size []/\St w w' [rr ra rn rc 4 1 ((appl s t).map<|Value.bool)] []) w):=by
 refine en func177 ntmps177 ?_
 have H:=(((((((St.start w).arg zi).arg vK).arg zS).argAt ht).arg xM).arg qZ).argAt hs
 have vT:=qN qZ
 have jP:=qN xM
 have QM:=qN zS
 have Xt:=qN vK
 have Qe:=qN zi
 clear hs qZ xM ht zS vK zi
 have N:=Fresh.nil w.heap.size
 have p2:=p0.2.1
 have p3:=p0.1.2.1
 refine zcr<|sq 1<|zjc<|sq 2<|oF J<|oL J (H.zU 0 J 1 J)<|oN J<|sw<|jQ H underlying24 ti2 s.qA.length J J qf qf qf fun b1 w2 H=>sq 1<|zjc<|sw<|jS H underlying28 ti4 fun b3 w4 H=>sq 1<|zjcc<|sp (yI 0)<|zjn<|xg ?_
 replace H:=H.boxRowB 0 [] 0
 refine vk ((fun Z0 Z1 Z2 Z3 Z4 Z5 Z6=>fun m' ρ w5=>∃(xR:Env) (yK:yOA) (yA:Nat) (yJ:Nat) (out:List Bool) (i:Nat) (f8:yLI),ρ=upd (upd (upd (upd (upd xR 0<|pp bs os) 1<|pp bt ot) 5<|Sv (aa b1 0) s.qA.length s.qA.length) 6<|Sv yK yA yJ) 7 (yI i)/\out=applB s t 0 i/\f8=bests s t 0 s.qA.length i/\((i:Int)<=s.qB.length)/\m'=(s.qB.length-(i:Int)).toNat/\Fresh w.heap.size []/\St w w5 [rr yK yA yJ 4 1<|out.map<|Value.bool,rr (aa b1 0) s.qA.length s.qA.length 2 1<|f8.map<|Value.int .i64] [Z0,Z1,Z2,Z3,Z4,Z5,Z6]) _ _ _ _ _ _ _) ((s.qB.length-(0:Int)).toNat) ⟨_,(aa b3 0),0,0,([]:List Bool),0,(List.replicate s.qA.length (0:Int)),uE5,(by rfl),(by exact bests_zero s t 0 _),qf,J,N,H⟩ ?_
 clear H N
 rintro m' ρ w6 ⟨xR,yK,yA,yJ,out,i,f8,rfl,rfl,rfl,i0,rfl,N,H⟩
 have VS:=H.Vt 0 J
 have atJ:=H.yt 1 J
 have al:=applB_len s t 0 i
 refine zcc<|sp (yI i)<|sq 2<|oF J<|oL J (H.zU 0 J 2 J)<|oN J<|sq 1<|zjn<|cD J (fun h7=>?_)<|fun h7=>?_
 ·have q:=p0.rule (i:=i) qf
  have qc:=q.1
  have qk:=q.cell
  refine xe<|t_n<|xO<|xg<|zcr<|sq 2<|oF J<|oL J (H.zU 0 J 2 J)<|sp (yI i) ?_
  obtain⟨b8,o9,rfl⟩:=H.addr 2 rfl qf
  obtain⟨apW,ant,akG,amE,as7,agV,att,apE,atm,arc,apU,arB,au6,auF,auf,aov,agF,aiE,H⟩:=H.Xd 2 rfl i i qf qf qf
  refine oI J J<|sq 1<|zjc<|sq 3<|sw<|oq (l03Enabled_ok _ s t s.qB[i]! (qH (H.get 7 J) 0 3) (H.get 8 J).1 (H.get 9 J).1 (qH (H.get 10 J) 0 3) (H.get 11 J).1 (H.get 12 J).1 (H.get 13 J).1 (qH (H.get 6 J) 0 9) (H.get 0 J).1 (H.get 1 J).1 (H.get 2 J).1 (H.get 3 J).1 (H.get 4 J).1 (H.get 5 J).1 qg qg qg) H fun D9 H=>(sq 1<|zjc<|sq 2<|sw<|zH H underlying28 ti4 [Bv<|dec<|EnOk s t<|s.qB[i]!] fun GD Kj H=>sw<|zQ H 1 J 0 J underlying28 ti4 J qj J J J qw qp qf fun a17 c18 LP H=>?_)
  rw[snocB] at H
  refine sq 1<|zjc<|sq 1<|zjn<|cP J (fun zr=>?_)<|fun zr=>?_
  ·refine QG J H [0,1] fun H=>?_
   have S:=H.ve [0,1]<|zR 0 14
   refine rtl 0 S ?_
   refine rtl 1 S ?_
   refine rtl 2 S ?_
   refine tF 3 J J S ?_
   refine tL 4 J J (fun _ h=>h.zU 6 J 0 J) S ?_
   refine rtl 5 S ?_
   refine rtl 6 S ?_
   refine rtl 7 S ?_
   refine tF 8 J J S ?_
   refine tL 9 J J (fun _ h=>h.zU 6 J 0 J) S ?_
   refine tI 10 J J J S ?_
   refine rtl 12 S ?_
   refine rtl 13 S ?_
   refine tF 14 J J S ?_
   refine tL 15 J J (fun _ h=>h.zU 6 J 1 J) S ?_
   refine ro 11 rfl<|zx (yI ((bests s t 0 s.qA.length i)[s.qB[i]!.qW.toNat]!)) isAgg2 rfl (H.Vx 2 rfl (iv:=s.qB[i]!.qW) (i:=s.qB[i]!.qW.toNat) qf qf)<|⟨H.pick [0,1]<|zR 0 14,(ro 16 rfl<|oq (l00Max_ok LP.drew ((bests s t 0 s.qA.length i)[s.qB[i]!.qW.toNat]!) s.qB[i]!.yH) H fun E8 H=>⟨H.pick [0,1]<|zR 0 14,(tI 17 rfl rfl rfl (H.pick [0,1]<|zR 0 14) ?_)⟩)⟩
   refine ro 18 J<|o_storeInt H 2 J (max ((bests s t 0 s.qA.length i)[s.qB[i]!.qW.toNat]!) s.qB[i]!.yH) sizeOf2 J J (i:=s.qB[i]!.qW.toNat) qf qf fun E4 H=>⟨H.pick [0,1]<|zR 0 14,(xx qh<|b_n<|t_n<|zf<|sp (yI i)<|sw<|zY i 1 J J qf<|sq 1<|xX<|xu (m':=(s.qB.length-((i+1):Int)).toNat) qf ⟨_,_,_,_,_,i+1,_,uE5,?_,?_,?_,J,N,H.pick [1,2]<|zR 7 7⟩)⟩
   ·exact applB_snoc s t i
   ·exact bests_set ‹_› qf
   ·omega
  refine xe<|b_n<|t_n<|zf<|sp (yI i)<|sw<|zY i 1 J J qf<|sq 1<|xX<|xu (m':=(s.qB.length-((i+1):Int)).toNat) qf ⟨_,_,_,_,_,i+1,_,uE5,?_,?_,?_,J,N,H.pick [1,2]<|zR 7 7⟩
  ·exact applB_snoc s t i
  ·exact bests_skip ‹_›
  ·omega
 refine zx4<|zcc<|sp (yI 0)<|zjn<|xg<|vk ((fun Z0 Z1 Z2 Z3=>fun m' ρ E3=>∃(xR:Env) (jt:Nat) (eh:List Bool),ρ=upd (upd (upd (upd xR 0<|pp bs os) 5<|Sv (aa b1 0) s.qA.length s.qA.length) 6<|Sv yK yA yJ) 10 (yI jt)/\eh=applB s t jt s.qB.length/\((jt:Int)<=s.qB.length)/\m'=(s.qB.length-(jt:Int)).toNat/\Fresh w.heap.size []/\St w E3 [rr yK yA yJ 4 1<|eh.map<|Value.bool,Z0] [Z1,Z2,Z3]) _ _ _ _) ((s.qB.length-(0:Int)).toNat) ⟨_,0,(applB s t 0 i),uE4,(by rw[show i=s.qB.length by omega]),qf,J,N,H.pick [0,1] [0,1,2]⟩ ?_
 clear H N
 rintro m' ρ Rn ⟨xR,jt,eh,rfl,rfl,i0,rfl,N,H⟩
 have VS:=H.Vt 0 J
 have al:=applB_len s t jt s.qB.length
 refine zcc<|sq 3<|oF J<|oL J (H.zU 0 J 2 J)<|oN J<|sq 1<|zjn<|cD J (fun L8=>?_)<|fun L8=>?_
 ·have q:=p0.rule (i:=jt) qf
  have qc:=q.1
  have qk:=q.cell
  have qr:=q.2.1
  refine xe<|t_n<|xO<|xg<|QG J H [1] fun H=>?_
  have S:=H.ve [1] [0,1,2]
  refine rtl 0 S ?_
  refine rtl 1 S ?_
  refine rtl 2 S ?_
  refine rtl 3 S ?_
  obtain⟨HX,rfl⟩:=H.jm 0 rfl qf
  refine tI 4 rfl rfl rfl (H.pick [1] [0,1,2])<|ro 5 rfl<|zx (Bv ((applB s t jt s.qB.length)[jt]!)) isAgg4 rfl (H.rowBool 0 rfl (iv:=jt) (i:=jt) qf qf)<|⟨H.pick [1] [0,1,2],(rtp 6 (Bv ((applB s t jt s.qB.length)[jt]!)) (H.pick [1] [0,1,2]) ?_)⟩
  cases h31:((applB s t jt s.qB.length)[jt]!)
  ·refine vC (zR 7 20) 20 (H.pick [1] [0,1,2]) ?_
   have S:=H.ve [1] [0,1,2]
   refine rtp 27 (Bv false) S ?_
   refine tI 28 J J J S ?_
   refine ro 29 J<|XI H 0 J false sizeOf4 J J (i:=jt) qf qf fun Sw H=>⟨H.pick [1] [0,1,2],(xx qh<|b_n<|t_n<|zf<|sq 1<|sw<|zY jt 1 J J qf<|sq 1<|xX<|xu (m':=(s.qB.length-((jt+1):Int)).toNat) qf ⟨_,jt+1,_,uE4,?_,?_,J,N,H⟩)⟩
   ·exact applB_set qf<|applB_step0 (m:=s.qB.length) qf ‹_›
   ·omega
  have S:=H.ve [1] [0,1,2]
  refine rgl 7 75 S ?_
  refine rgl 8 75 S ?_
  refine gF 9 J J S ?_
  refine gL 10 J J (fun _ h=>h.zU 0 J 2 J) S ?_
  refine rgl 11 75 S ?_
  obtain⟨Bn,o34,rfl⟩:=H.addr 2 rfl qf
  obtain⟨pB,pJ,Mh,qS,pZ,Nw,pc,qe,PW,rb,rm,NV,ug,ui,TK,pa,qv,NA,H⟩:=H.Xd 2 rfl jt jt qf qf qf
  have S:=H.ve [1] [7,8,9]
  refine gI 12 J J J S ?_
  refine gF 13 J J S ?_
  refine rgl 15 75 S ?_
  refine rgl 16 75 S ?_
  refine rgl 17 75 S ?_
  refine gF 18 J J S ?_
  refine gL 19 J J (fun _ h=>h.zU 0 J 2 J) S ?_
  refine rgl 20 75 S ?_
  refine gI 21 J J J S ?_
  refine gF 22 J J S ?_
  refine jw [14,23] qh qm<|Vu J (e:=75) J J ?_<|Vu J (e:=75) J J ?_ jy
  ·refine zx (yI s.qB[jt]!.yH) isAgg2 rfl (H.zU 6 rfl 1 rfl) (⟨H.pick [1] [7,8,9],(jw [23] qh qm<|Vu rfl (e:=75) rfl rfl (zx (yI s.qB[jt]!.qW) isAgg2 rfl (H.zU 6 rfl 0 rfl)<|⟨H.pick [1] [7,8,9],?_⟩) jy)⟩)
   have S:=H.ve [1] [7,8,9]
   refine gI 24 J J J S ?_
   refine gL 25 J J (fun _ h=>h.Vx 0 J (iv:=s.qB[jt]!.qW) (i:=s.qB[jt]!.qW.toNat) qf qf) S ?_
   refine rgl 26 75 S ?_
   refine rtl 27 S ?_
   refine tI 28 J J J S ?_
   refine ro 29 J<|XI H 0 J ((s.qB[jt]!.yH:Int) == ((bests s t 0 s.qA.length i)[s.qB[jt]!.qW.toNat]!)) sizeOf4 J J (i:=jt) qf qf fun w37 H=>⟨H.pick [1] [7,8,9],(xx qh<|b_n<|t_n<|zf<|sq 1<|sw<|zY jt 1 J J qf<|sq 1<|xX<|xu (m':=(s.qB.length-((jt+1):Int)).toNat) qf ⟨_,jt+1,_,uE4,?_,?_,J,N,H.pick [0,1] [7,8,9]⟩)⟩
   ·exact applB_set qf<|applB_step1 (m:=s.qB.length) (n:=s.qA.length) (z:=0) (i:=i) qf ‹_› rfl qf qf qf
   ·omega
  refine zx (yI s.qB[jt]!.qW) isAgg2 rfl (H.zU 6 rfl 0 rfl)<|⟨H.pick [1] [7,8,9],?_⟩
  have S:=H.ve [1] [7,8,9]
  refine gI 24 J J J S ?_
  refine gL 25 J J (fun _ h=>h.Vx 0 J (iv:=s.qB[jt]!.qW) (i:=s.qB[jt]!.qW.toNat) qf qf) S ?_
  refine jw [14] qh qm<|Vu rfl (e:=75) rfl rfl (zx (yI s.qB[jt]!.yH) isAgg2 rfl (H.zU 6 rfl 1 rfl)<|⟨H.pick [1] [7,8,9],?_⟩) jy
  have S:=H.ve [1] [7,8,9]
  refine rgl 26 75 S ?_
  refine rtl 27 S ?_
  refine tI 28 J J J S ?_
  refine ro 29 J<|XI H 0 J ((s.qB[jt]!.yH:Int) == ((bests s t 0 s.qA.length i)[s.qB[jt]!.qW.toNat]!)) sizeOf4 J J (i:=jt) qf qf fun Qt H=>⟨H.pick [1] [7,8,9],(xx qh<|b_n<|t_n<|zf<|sq 1<|sw<|zY jt 1 J J qf<|sq 1<|xX<|xu (m':=(s.qB.length-((jt+1):Int)).toNat) qf ⟨_,jt+1,_,uE4,?_,?_,J,N,H.pick [0,1] [7,8,9]⟩)⟩
  ·exact applB_set qf<|applB_step1 (m:=s.qB.length) (n:=s.qA.length) (z:=0) (i:=i) qf ‹_› rfl qf qf qf
  ·omega
 refine zx4<|zcr<|sq 2<|zjr<|rH1 (Sv yK yA yJ) H ?_
 obtain rfl:jt=s.qB.length:=by omega
 exact⟨yK,yA,yJ,J,N,H.pick [0] []⟩
theorem l03First_ok(w:World)(s:qJ)(t:qV)(hs:jO w bs os (yS s qM qL xm xh))(qZ:zP w xN qM qL s.qA)(xM:zP w zN xm xh s.qB)(ht:jO w bt ot (yT t xK xI zB zq xC xy))(zS:zP w vV xK xI t.qO)(vK:zP w jM zB zq t.qG)(zi:zP w zZ xC xy t.qF)(p0:jW s)(p1:zA s t):Calls Tryz.prog 170 #[pp bs os,pp bt ot] w (Ret (fun v w'=>∃(ra:yOA) (rn:Nat) (rc:Nat),v=Sv ra rn rc/\Fresh w.heap.size []/\St w w' [rr ra rn rc 2 1 ((xq s t).map<|Value.int .i64)] []) w):=by
 refine en func170 ntmps170 ?_
 have H:=(((((((St.start w).arg zi).arg vK).arg zS).argAt ht).arg xM).arg qZ).argAt hs
 have jP:=qN xM
 have QM:=qN zS
 have Xt:=qN vK
 have Qe:=qN zi
 clear hs qZ xM ht zS vK zi
 have N:=Fresh.nil w.heap.size
 have p3:=p0.2.1
 have p7:=p1.2.1
 have p8:=X8 p0
 have p9:=p0.1.2.1
 have p11:xJ s=s.qA.length:=rfl
 refine zcr<|sq 1<|zjc<|sq 2<|sw<|oc (l03Applicable_ok _ s t (qH (H.get 0 J) 0 3) (H.get 1 J).1 (H.get 2 J).1 (qH (H.get 3 J) 0 3) (H.get 4 J).1 (H.get 5 J).1 (H.get 6 J).1 qg qg) ?_
 rintro _ w2 ⟨ra1,rn1,P0,rfl,M,K⟩ _
 replace H:=H.merge K M
 obtain rfl:=H.Vt 0 rfl
 have al:=appl_len s t
 refine sq 1<|zjc<|sw<|jS H underlying29 ti24 fun b7 w8 H=>sq 1<|zjcc<|sp (yI 0)<|zjn<|xg ?_
 replace H:=H.boxRow 0 J 1 0 J qj
 replace H:=H.yF (α:=yLI)
 refine vk ((fun Z0 Z1 Z2 Z3 Z4 Z5 Z6 Z7=>fun m' ρ w9=>∃(xR:Env) (yi:yOA) (uY:Nat) (wF:Nat) (rest:yLL) (mz:List Value) (mv:yLN) (c:Nat),ρ=upd (upd (upd (upd (upd xR 0<|pp bs os) 1<|pp bt ot) 5<|Sv ra1 ((appl s t).length) P0) 6<|Sv yi uY wF) 7 (yI c)/\rest=t.qG.take c/\((c:Int)<=t.qG.length)/\m'=(t.qG.length-(c:Int)).toNat/\Fresh w.heap.size [mv]/\St w w9 [rr yi uY wF 24 1 mz,Z0] [qX true mv mz rest,Z1,Z2,Z3,Z4,Z5,Z6,Z7]) _ _ _ _ _ _ _ _) ((t.qG.length-(0:Int)).toNat) ⟨_,(aa b7 0),0,0,([]:yLL),[],[],0,uE5,(by rfl),qf,J,N.emp,H⟩ ?_
 clear H N
 rintro m' ρ sr ⟨xR,yi,uY,wF,rest,mz,mv,c,rfl,rfl,i0,rfl,N,H⟩
 have Cz:=H.xf (α:=yLI) 0 J 0 J qj
 rw[List.length_take_of_le qf] at Cz
 refine zcc<|sp (yI c)<|sq 2<|oF J<|oL J (H.zU 4 J 1 J)<|oN J<|sq 1<|zjn<|cD J (fun cf=>?_)<|fun cf=>?_
 ·refine xe (t_n<|xO<|xg<|zf<|sq 3<|oF J<|oL J (H.zU 4 J 1 J)<|sp (yI c) ?_)
  obtain⟨rB,o13,rfl⟩:=H.addr 6 rfl qf
  obtain⟨axT,aAI,azN,H⟩:=H.yg 6 rfl c c qf qf qf
  refine oI J J<|oL J (H.zU 1 J 0 J) ?_
  have p5:=(p1.bagLen (k:=c) qf).len
  refine sw<|oc (VV _ t.qG[c]! (H.get 0 J).1 qg) ?_
  rintro v21 LP r21 x20
  replace H:=H.zy x20 r21
  obtain⟨a22,c23,rfl,aQV,aQn⟩:=H.jB 0 rfl
  refine sw<|zH H underlying29 ti24 [Sv a22 t.qG[c]!.length c23] fun IC Rn H=>?_
  obtain⟨G31,N,awc,H⟩:=H.vJ 1 rfl N<|H.XE [2]
  refine sw<|zQ H 2 J 0 J underlying29 ti24 J qj J J J qw qp qf fun a28 c29 Ui H=>?_
  replace H:=H.QK 3 J 0 J
  replace N:Fresh w.heap.size [(mv++G31)]:=(N.pick [1,0]).join
  refine sq 1<|xX<|b_n<|t_n<|zf<|sp (yI c)<|sw<|zY c 1 J J (by(omega))<|sq 1<|xX<|xu (m':=(t.qG.length-((c+1):Int)).toNat) qf ⟨_,_,_,_,_,_,_,c+1,uE5,?_,?_,J,N,H.pick [2,3] (0::zR 5 7)⟩
  ·exact take_snoc qf
  ·omega
 refine zx4<|zcr<|sw<|jS H underlying24 ti2 fun Bn WG H=>sq 1<|zjcc<|sp (yI 0)<|zjn<|xg ?_
 replace H:=H.boxRowI 0 [] 0
 refine vk ((fun Z0 Z1 Z2 Z3=>fun m' ρ KW=>∃(xR:Env) (yK:yOA) (yA:Nat) (yJ:Nat) (out:yLI) (i:Nat) (FJ:yLL) (wm:List Value) (wr:yLN),ρ=upd (upd (upd (upd (upd xR 0<|pp bs os) 5<|Sv ra1 ((appl s t).length) P0) 6<|Sv yi uY wF) 8<|Sv yK yA yJ) 9 (yI i)/\out=firstTo s t i i/\FJ=jL s t i/\((i:Int)<=((appl s t).length))/\m'=(((appl s t).length)-(i:Int)).toNat/\Fresh w.heap.size [wr]/\St w KW [rr yK yA yJ 2 1<|out.map<|Value.int .i64,rr yi uY wF 24 1 wm,Z0] [qX true wr wm FJ,Z1,Z2,Z3]) _ _ _ _) ((((appl s t).length)-(0:Int)).toNat) ⟨_,(aa Bn 0),0,0,([]:yLI),0,(t.qG.take c),mz,mv,uE5,(by rfl),(by rw[List.take_of_length_le qf];rfl),qf,J,N,H.pick [0,1,2]<|zR 0 4⟩ ?_
 clear H N
 rintro m' ρ JP ⟨xR,yK,yA,yJ,out,i,FJ,wm,wr,rfl,rfl,rfl,i0,rfl,N,H⟩
 have VS:=H.yt 0 J
 have Cz:=H.xf (α:=yLI) 1 J 0 J qj
 have fl:=yw s t i i
 have rl:=(firstR_box p0 p1 i qf).1
 refine zcc<|sp (yI i)<|sq 1<|oN J<|sq 1<|zjn<|cD J (fun Cj=>?_)<|fun Cj=>?_
 ·have q:=p0.rule (i:=i) qf
  have qc:=q.1
  have qk:=q.cell
  have b1:=q.2.2.2.2.1
  refine xe<|t_n<|xO<|xg<|zcr<|sp (yI 0)<|zjcc<|sq 1<|sp (yI i) ?_
  obtain⟨b38,rfl⟩:=H.jm 2 rfl qf
  refine oI J J<|oL J (H.rowBool 2 J (iv:=i) (i:=i) qf qf)<|zjn<|vP _ J (fun h39=>?_)<|fun h39=>?_
  ·replace h39:=appl_true qf h39
   refine zcr<|sq 2<|oF J<|oL J (H.zU 1 J 2 J)<|sp (yI i) ?_
   obtain⟨Ys,o41,rfl⟩:=H.addr 3 rfl qf
   obtain⟨anG,amQ,ahs,ahH,ag6,atv,aqO,anD,aqV,amD,apH,ag4,auT,avh,auq,ajf,apu,akh,H⟩:=H.Xd 3 rfl i i qf qf qf
   refine oI J J<|oF J<|oL J (H.zU 6 J 0 J)<|sq 1<|zjn<|xO<|QY J H fun H=>rtl 0 H ?_
   refine rtl 1 H ?_
   refine tF 2 J J H ?_
   refine tL 3 J J (fun _ h=>h.zU 8 J 2 J) H ?_
   refine rtp 4 (yI i) H ?_
   refine tI 5 J J J H ?_
   refine tF 6 J J H ?_
   refine tL 7 J J (fun _ h=>h.zU 6 J 2 J) H ?_
   refine rtl 8 H ?_
   refine rtl 9 H ?_
   obtain⟨b45,rfl⟩:=H.jm 1 rfl qf
   refine tI 10 J J J H ?_
   refine ro 11 J ?_
   obtain⟨a46,c47,G48,s49,h50,H⟩:=H.Qa 1 rfl 7 rfl (iv:=s.qB[i]!.qW) s.qB[i]!.qW.toNat qf qf
   refine zx (Sv a46 (((jL s t i)[s.qB[i]!.qW.toNat]!).length) c47) isAgg24 rfl (h50)<|⟨H.pick [0,1,2]<|zR 1 11,(ro 12 rfl ?_)⟩
   obtain⟨u1,u2,u5⟩:=firstR_row (c:=s.qB[i]!.qW.toNat) p0 p1 (show i<=_ by omega) qk
   have u3:=b1.len
   have u6:∀k,k<s.qB[i]!.vg.length->0<=((jL s t i)[s.qB[i]!.qW.toNat]!)[k]! /\((jL s t i)[s.qB[i]!.qW.toNat]!)[k]! <=1000:=fun k hk=>u5 k qf
   have u7:=sum_pos b1.1 q.2.2.2.2.2.2.2.2.2.1
   refine oq (l01Times_ok _ s.qB[i]!.vg ((jL s t i)[s.qB[i]!.qW.toNat]!) (H.get 1 J).1 (H.get 0 J).1 qg qg qg) H fun w52 H=>⟨H.pick [0,1,2]<|zR 1 11,(rtl 13 (H.pick [0,1,2]<|zR 1 11) ?_)⟩
   refine xx qh<|t_n<|QG J H [0,2] fun H=>?_
   have S:=H.ve [0,2]<|zR 0 12
   refine rtl 0 S ?_
   refine rtl 1 S ?_
   refine rtl 2 S ?_
   refine rtl 3 S ?_
   refine tI 4 J J J S ?_
   refine rtl 6 S ?_
   refine rtl 7 S ?_
   refine tF 8 J J S ?_
   refine tL 9 J J (fun _ h=>h.zU 9 J 2 J) S ?_
   refine rtp 10 (yI i) S ?_
   refine tI 11 J J J S ?_
   refine tF 12 J J S ?_
   refine tL 13 J J (fun _ h=>h.zU 7 J 2 J) S ?_
   refine rtl 14 S ?_
   refine rt 15 _ (y_neg (XU s.qB[i]!.vg ((jL s t i)[s.qB[i]!.qW.toNat]!)) J<|by((have u8:=firstC_bd p0 p1 (k:=i) qf;rw[Xy ‹_›] at u8;omega))) S ?_
   refine ro 5 J ?_
   obtain⟨a55,c56,LH,s58,h59,H⟩:=H.Qa 1 rfl 8 rfl (iv:=s.qB[i]!.qW) s.qB[i]!.qW.toNat qf qf
   refine zx (Sv a55 (((jL s t i)[s.qB[i]!.qW.toNat]!).length) c56) isAgg24 rfl (h59)<|⟨H.pick [0,2]<|zR 1 12,(ro 16 rfl ?_)⟩
   obtain⟨u1,u2,u5⟩:=firstR_row (c:=s.qB[i]!.qW.toNat) p0 p1 (show i<=_ by omega) qk
   have u8:=firstC_bd p0 p1 (k:=i) qf
   rw[Xy ‹_›] at u8
   have u4:=b1.jT (t:= -(XU s.qB[i]!.vg ((jL s t i)[s.qB[i]!.qW.toNat]!))) qf
   refine oc (QV _ ((jL s t i)[s.qB[i]!.qW.toNat]!) s.qB[i]!.vg (-(XU s.qB[i]!.vg ((jL s t i)[s.qB[i]!.qW.toNat]!))) (H.get 0 J).1 (H.get 2 J).1 qg qg qg) ?_
   rintro v65 w63 r65 x64
   replace H:=H.zy x64 r65
   obtain⟨a66,c67,rfl,aPC,aNz⟩:=H.jB 0 rfl
   refine⟨H.pick [1,3]<|zR 1 12,(tI 17 J J J (H.pick [1,3]<|zR 1 12) ?_)⟩
   refine ro 18 J ?_
   obtain⟨G71,N,acx,H⟩:=H.vJ 0 rfl N<|H.XE [9]
   refine jJ true H 2 J 10 J (Sv a66 ((vX ((jL s t i)[s.qB[i]!.qW.toNat]!) s.qB[i]!.vg (-(XU s.qB[i]!.vg ((jL s t i)[s.qB[i]!.qW.toNat]!)))).length) c67) 0 J J sizeOf24 J J (i:=s.qB[i]!.qW.toNat) qf qf qm fun w70 aMM F74 awO H=>?_
   replace N:Fresh w.heap.size [F74]:=(N.pick [1,0]).repl awO
   refine⟨H.pick [1,3]<|zR 3 12,(xx qh<|t_n<|zf<|sq 2<|sw<|zH H underlying24 ti2 [yI<|XU s.qB[i]!.vg ((jL s t i)[s.qB[i]!.qW.toNat]!)] fun b76 w77 H=>sw<|zQ H 2 J 0 J underlying24 ti2 J qj J J J qw qp qf fun a78 c79 TO H=>?_)⟩
   rw[snocI] at H
   refine sq 1<|xX<|b_n<|t_n<|zf<|sp (yI i)<|sw<|zY i 1 J J (by(omega))<|sq 1<|xX<|xu (m':=(((appl s t).length)-((i+1):Int)).toNat) qf ⟨_,_,_,_,_,i+1,_,_,_,uE5,?_,?_,?_,J,N,H.pick [2,3,4] [0,12,13,14]⟩
   ·exact firstTo_snoc'<|by exact(Xy ‹_›).symm
   ·exact(VO ‹_›).symm
   ·omega
  replace h39:=appl_false qf h39
  refine xe<|t_n<|zf<|sq 1<|sp (yI 0)<|sw<|zH H underlying24 ti2 [yI 0] fun b81 w82 H=>sw<|zQ H 1 J 0 J underlying24 ti2 J qj J J J qw qp qf fun a83 c84 w85 H=>?_
  rw[snocI] at H
  refine sq 1<|xX<|b_n<|t_n<|zf<|sp (yI i)<|sw<|zY i 1 J J (by(omega))<|sq 1<|xX<|xu (m':=(((appl s t).length)-((i+1):Int)).toNat) qf ⟨_,_,_,_,_,i+1,_,_,_,uE5,?_,?_,?_,J,N,H.pick [1,2,3]<|zR 0 4⟩
  ·exact firstTo_snoc'<|by exact(VW ‹_›).symm
  ·exact(firstR_no ‹_›).symm
  ·omega
 refine zx4<|zcr<|sq 2<|zjr<|rH1 (Sv yK yA yJ) H ?_
 obtain rfl:i=s.qB.length:=by omega
 exact⟨yK,yA,yJ,J,(N.pick []),H.pick [0] []⟩
end
section
def minus(k:Nat):yLI:=(List.range 6).map fun j=>if j<k then -1 else 0
theorem minus_len(k:Nat):(minus k).length=6:=by simp[minus]
theorem minus_get(h:j<6):(minus k)[j]! =if j<k then -1 else 0:=by
 rw[getElem!_pos (minus k) j<|by rw[minus_len];exact h];simp[minus]
theorem minus_set(h:k<6):(minus k).set k (-1)=minus (k+1):=by
 refine ext_get (by simp[minus_len]) fun p hp=>?_
 rw[List.length_set,minus_len] at hp
 rw[getset<|by rw[minus_len];exact h,minus_get hp,minus_get hp]
 by_cases e:p=k
 ·rw[if_pos e,if_pos qf]
 ·rw[if_neg e]
  by_cases h1:p<k
  ·rw[if_pos h1,if_pos qf]
  ·rw[if_neg h1,if_neg qf]
theorem minus_six(h:k=6)(s:qJ)(t:qV):minus k=bests s t (-1) 6 0:=by
 subst h
 rw[←bests_zero];rfl
theorem appl_yes(hk:k=s.qB.length)(hi:i<s.qB.length)(hz:z<=s.qB[i]!.yH)(hc:s.qB[i]!.qW.toNat<n)(h1:s.qB[i]!.yH=(bests s t z n k)[s.qB[i]!.qW.toNat]!)(h2:EnOk s t s.qB[i]!):Appl s t i:=by
 rw[bests_get hc,hk] at h1
 exact(appl_iff hi hz).2 ⟨h2,h1⟩
theorem appl_no(hk:k=s.qB.length)(hi:i<s.qB.length)(hz:z<=s.qB[i]!.yH)(hc:s.qB[i]!.qW.toNat<n)(h1:s.qB[i]!.yH≠(bests s t z n k)[s.qB[i]!.qW.toNat]!):¬Appl s t i:=fun h=>by
 rw[bests_get hc,hk] at h1
 exact h1 ((appl_iff hi hz).1 h).2
theorem appls_halt:(appls s t).length=0<->Halted s t:=by
 constructor
 ·intro h j hj ha
  have:(j:Int)∈appls s t:=mem_applL.2 ⟨Int.natCast_nonneg j,by simpa using hj,by simpa using ha⟩
  rw[List.length_eq_zero_iff.1 h] at this;cases this
 ·intro h
  rw[List.length_eq_zero_iff]
  apply List.eq_nil_iff_forall_not_mem.2
  intro x hx
  obtain⟨h0,h1,h2⟩:=mem_applL.1 hx
  exact h _ h1 h2
theorem outPl_in(hs:yf s)(h:0<=xY s t r.qW):outPl s t r=(xY s t r.qW).toNat:=by
 refine outPl_up fun e=>?_
 rw[e,parentNow_root hs] at h;omega
theorem outPl_out(hs:yf s)(h0:t.qO[0]! =true)(hc:CellIn s r.qW)(h:¬0<=xY s t r.qW):outPl s t r=s.qA.length:=by
 refine outPl_root ?_
 rcases Int.lt_or_eq_of_le hc.1 with h1|h1
 ·exact absurd (parentNow_in hs h0 h1 hc.2).1 h
 ·exact h1.symm
theorem parentNow_lt(hs:yf s)(h0:t.qO[0]! =true)(hc:CellIn s c):xY s t c<=(s.qA.length:Int)-1:=by
 rcases Int.lt_or_eq_of_le hc.1 with h1|h1
 ·have:=parentNow_in hs h0 h1 hc.2;have:=hc.2;omega
 ·rw[←h1,parentNow_root hs];have:=hs.2.1;omega
theorem stepBy_ok{counts:yLI}(h:(yR s t counts).2=0):zA s (yR s t counts).1:=by
 by_cases hc:IsCh s t counts
 ·rw[stepBy_yes hc] at h ⊢
  unfold stepRes at h ⊢
  by_cases ho:zA s (zW s counts (zX s t counts)<|xJ s-1)
  ·rw[told_yes ho];exact ho
  ·rw[told_no ho] at h;cases h
 ·rw[stepBy_no hc] at h;cases h
theorem appls_at'(hm:(applL s t m).length=q)(hn:m<=s.qB.length)(hq:q<(appls s t).length):
 0<=(appls s t)[q]! /\m<=((appls s t)[q]!).toNat/\((appls s t)[q]!).toNat<s.qB.length/\Appl s t ((appls s t)[q]!).toNat/\(∀j,m<=j->j<((appls s t)[q]!).toNat->¬Appl s t j)/\(applL s t (((appls s t)[q]!).toNat+1)).length=q+1:=by
 obtain⟨i,h1,h2,h3,h4,h5,h6⟩:=appls_at hm hn hq
 rw[h1]
 exact⟨Int.natCast_nonneg i,h2,h3,h4,h5,h6⟩
theorem firstR_step(h1:m<=j)(hj:j<s.qB.length)(ha:Appl s t j)(h4:∀i,m<=i->i<j->¬Appl s t i)(hx:x=XU s.qB[j]!.vg ((jL s t m)[s.qB[j]!.qW.toNat]!)):
 (jL s t m).set s.qB[j]!.qW.toNat (vX ((jL s t m)[s.qB[j]!.qW.toNat]!) s.qB[j]!.vg (-x))=jL s t (j+1):=by
 rw[hx,←firstR_same h1 h4,VO ha]
theorem firstC_step(h1:m<=j)(ha:Appl s t j)(h4:∀i,m<=i->i<j->¬Appl s t i):XU s.qB[j]!.vg ((jL s t m)[s.qB[j]!.qW.toNat]!)=firstC s t j:=by
 rw[Xy ha,firstR_same h1 h4]
theorem meltsL_1{counts:yLI}(h0:0<=s.qB[k]!.qW)(h:s.qB[k]!.qW.toNat<n)(h1:(Xi s counts n k)[s.qB[k]!.qW.toNat]! =true):(Xi s counts n k).set s.qB[k]!.qW.toNat true=Xi s counts n (k+1):=
 meltsL_set h0 h ⟨fun _=>.inl h1,fun _=>rfl⟩
theorem meltsL_2{counts:yLI}(h0:0<=s.qB[k]!.qW)(h:s.qB[k]!.qW.toNat<n)(h1:(Xi s counts n k)[s.qB[k]!.qW.toNat]! =false)(h2:¬counts[k]!>0):(Xi s counts n k).set s.qB[k]!.qW.toNat false=Xi s counts n (k+1):=
 meltsL_set h0 h ⟨fun h=>(by cases h),fun h=>h.elim (fun h=>(ft h h1).elim) fun h=>(h2 h.1).elim⟩
theorem meltsL_3{counts:yLI}(h0:0<=s.qB[k]!.qW)(h:s.qB[k]!.qW.toNat<n)(h1:(Xi s counts n k)[s.qB[k]!.qW.toNat]! =false)(h2:counts[k]!>0):(Xi s counts n k).set s.qB[k]!.qW.toNat s.qB[k]!.je=Xi s counts n (k+1):=
 meltsL_set h0 h ⟨fun h=>.inr ⟨h2,h⟩,fun h=>h.elim (fun h=>(ft h h1).elim) fun h=>h.2⟩
theorem meltDown_yesL{counts:yLI}(h:(Xi s counts n i)[c.toNat]! =true)(hn:c.toNat<n)(h0:0<=c)(hi:i=s.qB.length)(hc:c=(xJ s:Int)-1-j):zW s counts u (j+1)=melted s (zW s counts u j) c:=by
 rw[meltsL_get hn,show ((c.toNat:Nat):Int)=c by omega] at h
 exact meltDown_yes' h hi hc
theorem meltDown_noL{counts:yLI}(h:(Xi s counts n i)[c.toNat]! =false)(hn:c.toNat<n)(h0:0<=c)(hi:i=s.qB.length)(hc:c=(xJ s:Int)-1-j):zW s counts u (j+1)=zW s counts u j:=by
 rw[meltsL_get hn,show ((c.toNat:Nat):Int)=c by omega] at h
 exact meltDown_no' h hi hc
theorem copy_pre{f:Nat->Nat->Int}{al:List Bool}(h:Ent (n+1) K f B b)(hK:K<=8)(hn:n<=6)(ha:al.length=n):
 (⟨al,b.take n,b[n]!⟩:qV).qO.length<=1000000/\(⟨al,b.take n,b[n]!⟩:qV).qF.length<=1000000/\(⟨al,b.take n,b[n]!⟩:qV).qG.length<=1000000∧
  ∀j,j<(⟨al,b.take n,b[n]!⟩:qV).qG.length->((⟨al,b.take n,b[n]!⟩:qV).qG[j]!).length<=1000000:=by
 have hl:(b.take n).length=n:=by rw[List.length_take,h.sh.1];omega
 have hr:=h.sh.2 n qf
 refine⟨?_,?_,?_,fun j hj=>?_⟩
 ·show al.length<=1000000;omega
 ·show b[n]!.length<=1000000;omega
 ·show (b.take n).length<=1000000;omega
 ·have hj:j<(b.take n).length:=hj
  show ((b.take n)[j]!).length<=1000000
  rw[getElem!_pos (b.take n) j hj,List.getElem_take,←getElem!_pos b j<|by rw[h.sh.1];omega]
  have:=(h.sh.2 j qf).1;omega
open Classical in
noncomputable def runGo(s:qJ):Nat->Int->qV->qV×Int×Int
 |0,fF,u=>(u,fF,0)
 |f+1,fF,u=>if Halted s u then (u,fF,0) else if (yR s u<|xq s u).2≠0 then (default,0,(yR s u<|xq s u).2) else runGo s f (fF+1) (yR s u<|xq s u).1
theorem runGo_halt(h:Halted s u):runGo s f fF u=(u,fF,0):=by
 cases f with
 |zero=>rfl
 |succ f=>rw[runGo,if_pos h]
theorem runGo_end(h:f=0):runGo s f fF u=(u,fF,0):=by subst h;rfl
theorem runGo_bad(hf:0<f)(h:¬Halted s u)(h1:(yR s u<|xq s u).2≠0):runGo s f fF u=(default,0,(yR s u<|xq s u).2):=by
 obtain⟨g,rfl⟩:∃g,f=g+1:=⟨f-1,by omega⟩
 rw[runGo,if_neg h,if_pos h1]
theorem runGo_go{g:Nat}(hf:f=g+1)(h:¬Halted s u)(h1:(yR s u<|xq s u).2=0):runGo s f fF u=runGo s g (fF+1) (yR s u<|xq s u).1:=by
 subst hf
 rw[runGo,if_neg h,if_neg<|by simp[h1]]
open Classical in
noncomputable def QS(s:qJ)(t:qV)(cX:Int):qV×Int×Int:=
 if ¬(jW s/\zA s t) then (default,0,1) else if ¬(0<=cX/\cX<=200) then (default,0,2) else runGo s cX.toNat 0 t
theorem run_1(h:¬(jW s/\zA s t)):QS s t cX=(default,0,1):=by rw[QS,if_pos h]
theorem run_2(h:jW s/\zA s t)(h1:¬(0<=cX/\cX<=200)):QS s t cX=(default,0,2):=by rw[QS,if_neg<|by simpa using h,if_pos h1]
theorem run_0(h:jW s/\zA s t)(h1:0<=cX/\cX<=200):QS s t cX=runGo s cX.toNat 0 t:=by rw[QS,if_neg<|by simpa using h,if_neg<|by simpa using h1]
end
section
variable{qL xh fM fD fI fH j0 V3 xI zq xy cl : Nat}
theorem isShell_ok(w:World)(s:qJ)(qZ:zP w xN qM qL s.qA)(xM:zP w zN xm xh s.qB):Calls Tryz.prog 119 #[.agg #[yI s.qQ,Sv qM s.qA.length qL,Sv xm s.qB.length xh]] w (Ret (fun v w'=>v=Bv (dec<|yf s)) w):=by
 refine en func119 ntmps119 ?_
 have H:=((St.start w).arg xM).arg qZ
 have vT:=qN qZ
 have jP:=qN xM
 clear qZ xM
 have N:=Fresh.nil w.heap.size
 refine zcr<|sw<|jb H (yS s qM qL xm xh) fun b1 w2 H=>sp (Bv false)<|zjcc<|oF J<|oL J (H.cell 0 J J)<|sw<|oq (XX w2 s.qQ 1 8) H fun w3 H=>sp (Bv (!(inR s.qQ 1 8)))<|sp (Bv (!(inR s.qQ 1 8))) ?_
 cases h5:(!(inR s.qQ 1 8))
 ·replace h5:=xw h5
  replace h5:=QW.1 h5
  refine qP 9 J J<|oF J<|qP 9 J J<|oL J (H.cell 0 J J)<|qP 9 J J<|sw<|oq (sizeI_ok _ s.qA (H.get 0 J).1) H fun w6 H=>qP 9 J J<|sw<|oq (XX w6 (s.qA.length:Int) 1 6) H fun w8 H=>qP 9 J J<|sp (Bv (!(inR (s.qA.length:Int) 1 6)))<|sp (Bv (!(inR (s.qA.length:Int) 1 6)))<|sp (Bv (!(inR (s.qA.length:Int) 1 6))) ?_
  cases cK:(!(inR (s.qA.length:Int) 1 6))
  ·replace cK:=xw cK
   replace cK:=QW.1 cK
   refine qP 16 J J<|oF J<|qP 16 J J<|oL J (H.cell 0 J J)<|qP 16 J J ?_
   obtain⟨ue,o12,rfl⟩:=H.addr 0 rfl qf
   refine oI J J<|qP 16 J J<|oL J (H.vM 0 J 0 qf)<|qP 16 J J<|sp (Bv ((s.qA[0]! :Int) != (-1)))<|sp (Bv ((s.qA[0]! :Int) != (-1)))<|zjn<|vP ((s.qA[0]! :Int) != (-1)) J (fun gz=>?_)<|fun gz=>?_
   ·replace gz:=bne_iff_ne.1 gz
    refine zcr<|sp (Bv false)<|zjr<|t_r<|rH1 (Bv false) H ?_
    rw[xH (fun h=>by obtain⟨h1,h2,h3,h4⟩:=h;omega)]
   replace gz:=zo gz
   refine xe<|t_n<|zcc<|oF J<|oL J (H.cell 0 J J)<|sw<|o_tail H 0 J 1 underlying24 ti2 J qf fun a15 G16 aJH H=>?_
   have aNL:(s.qA.drop 1).length=s.qA.length-1:=List.length_drop
   refine oN J<|sp (yI 0)<|zjn<|xg<|vk ((fun Z0 Z1 Z2 Z3=>fun m' ρ LP=>∃(xR:Env) (c:Nat),ρ=upd (upd (upd xR 25<|Sv a15 ((s.qA.drop 1).length)<|qL-1) 26<|yI ((s.qA.drop 1).length)) 27 (yI c)/\((c:Int)<=((s.qA.drop 1).length))/\(FrameTo s<|c+1)/\m'=(((s.qA.drop 1).length)-(c:Int)).toNat/\Fresh w.heap.size []/\St w LP [Z0] [Z1,Z2,Z3]) _ _ _ _) ((((s.qA.drop 1).length)-(0:Int)).toNat) ⟨_,0,uE3,qf,(by exact FrameTo.one s),J,N,H⟩ ?_
   clear H N
   rintro m' ρ Pa ⟨xR,c,rfl,i0,i1,rfl,N,H⟩
   have dg:=drop_get (l:=s.qA) (k:=c)
   refine zcr<|sq 1<|zjn<|xO<|cD J (fun ua=>?_)<|fun ua=>?_
   ·refine xe (t_n<|xO<|xg<|zcr<|sp (yI c) ?_)
    obtain⟨zz,o23,rfl⟩:=H.addr 0 rfl qf
    refine oI J J<|oL J (H.vM 0 J c qf)<|sp (yI c)<|sq 1<|zjc<|sq 1<|sp (yI c)<|sw<|oq (XX Pa ((s.qA.drop 1)[c]!) 0 c) H fun E4 H=>sq 1<|zjn<|vP _ J (fun nY=>?_)<|fun nY=>?_
    ·replace nY:=xF nY
     replace nY:=Xl nY
     refine zcr<|sp (Bv false)<|zjr<|zr5<|rH1 (Bv false) H ?_
     rw[xH (fun h=>by obtain⟨h1,h2,h3,h4⟩:=h;(have:=h4 (c+1) qf qf;rw[←dg qf] at this;omega))]
    replace nY:=xw nY
    replace nY:=QW.1 nY
    refine xe<|b_n<|t_n<|zf<|sw<|zY c 1 J J qf<|sq 1<|xX<|xu (m':=(((s.qA.drop 1).length)-((c+1):Int)).toNat) qf ⟨_,c+1,uE3,?_,?_,J,N,H⟩
    ·omega
    ·exact i1.succ<|by rw[←dg qf];omega
   refine zx4<|zcr<|sp (Bv true)<|zjr<|rH1 (Bv true) H ?_
   rw[QD ⟨by omega,by omega,by omega,(show s.qA.length=c+1 by omega)▸i1⟩]
  replace cK:=xF cK
  replace cK:=Xl cK
  refine zk (zR 17 5)<|sp (Bv true)<|zjn<|cTr J<|zcr<|sp (Bv false)<|zjr<|t_r<|rH1 (Bv false) H ?_
  rw[xH (fun h=>by obtain⟨h1,h2,h3,h4⟩:=h;omega)]
 replace h5:=xF h5
 replace h5:=Xl h5
 refine zk (zR 10 5)<|sp (Bv true)<|sp (Bv true)<|zk (zR 17 5)<|sp (Bv true)<|zjn<|cTr J<|zcr<|sp (Bv false)<|zjr<|t_r<|rH1 (Bv false) H ?_
 rw[xH (fun h=>by obtain⟨h1,h2,h3,h4⟩:=h;omega)]
theorem isCell_ok(w:World)(s:qJ)(c:Int)(qZ:zP w xN qM qL s.qA)(xM:zP w zN xm xh s.qB):Calls Tryz.prog 160 #[.agg #[yI s.qQ,Sv qM s.qA.length qL,Sv xm s.qB.length xh],yI c] w (Ret (fun v w'=>v=Bv (inR c 0 ((s.qA.length:Int)-1))) w):=by
 refine en func160 ntmps160 ?_
 have H:=((St.start w).arg xM).arg qZ
 have vT:=qN qZ
 have jP:=qN xM
 clear qZ xM
 refine zcr<|sw<|jb H (yS s qM qL xm xh) fun b1 w2 H=>sp (Bv false)<|zjc<|sp (yI c)<|oF J<|oL J (H.cell 0 J J)<|sw<|oq (sizeI_ok _ s.qA (H.get 0 J).1) H fun w3 H=>sw<|o_sub (s.qA.length:Int) 1 J J qf<|sw<|oq (XX w3 c 0 ((s.qA.length:Int)-1)) H fun w5 H=>sq 1<|zjr<|rH1 (Bv<|inR c 0 ((s.qA.length:Int)-1)) H ?_
 rfl
theorem lies_ok(w:World)(s:qJ)(c:Int)(within:Int)(qZ:zP w xN qM qL s.qA)(xM:zP w zN xm xh s.qB)(p0:yf s)(p1:CellIn s c):Calls Tryz.prog 161 #[.agg #[yI s.qQ,Sv qM s.qA.length qL,Sv xm s.qB.length xh],yI c,yI within] w (Ret (fun v w'=>v=Bv (dec<|Lies s.qA within c)) w):=by
 refine en func161 ntmps161 ?_
 have H:=((St.start w).arg xM).arg qZ
 have vT:=qN qZ
 have jP:=qN xM
 clear qZ xM
 have N:=Fresh.nil w.heap.size
 have p2:=p0.step p1.1 p1.2
 refine zcr<|sw<|jb H (yS s qM qL xm xh) fun b1 w2 H=>sp (Bv false)<|zjcc<|oF J<|oL J (H.cell 0 J J)<|sp (yI c) ?_
 obtain⟨b3,o4,rfl⟩:=H.addr 0 rfl qf
 refine oI J J<|oL J (H.elemInt 0 J c qf qf)<|sq 1<|zjn<|xg<|vk ((fun Z0 Z1 Z2=>fun m' ρ w6=>∃(xR:Env) (a9:Int),ρ=upd (upd (upd xR 1<|yI a9) 2<|yI within) 3 (pp b1 0)/\(-1<=a9/\a9<=(s.qA.length:Int)-1)/\(Lies s.qA within c<->0<=a9/\(a9=within\/Lies s.qA within a9))/\m'=(a9+1).toNat/\Fresh w.heap.size []/\St w w6 [Z0] [Z1,Z2]) _ _ _) ((s.qA[c.toNat]!+1).toNat) ⟨_,s.qA[c.toNat]!,uE3,qf,(by exact lies_up p0 p1),J,N,H⟩ ?_
 clear H N
 rintro m' ρ w7 ⟨xR,a9,rfl,i0,i1,rfl,N,H⟩
 have up:=fun h=>p0.step (c:=a9) h i0.2
 refine zcc<|sq 1<|sp (Bv<|decide ((a9:Int)>=0))<|zjn<|cD J (fun h8=>?_)<|fun h8=>?_
 ·refine xe (t_n<|xO<|xg<|zcr<|sq 3<|zjn<|cE J (fun h9=>?_)<|fun h9=>?_)
  ·refine zcr (sp (Bv true)<|zjr<|zr5<|rH1 (Bv true) H ?_)
   rw[QD<|i1.2 ⟨by omega,.inl ‹_›⟩]
  refine xe<|b_n<|t_n<|zf<|oF J<|oL J (H.cell 0 J J)<|sq 1<|oI J J<|oL J (H.elemInt 0 J a9 qf qf)<|sq 1<|xX ?_
  have up1:=up qf
  refine xu (m':=(s.qA[a9.toNat]!+1).toNat) qf ⟨_,_,uE3,?_,?_,J,N,H⟩
  ·omega
  ·exact i1.trans ⟨fun h=>(lies_up p0 ⟨by omega,by omega⟩).1<|h.2.resolve_left ‹_›,fun h=>⟨by omega,.inr ((lies_up p0 ⟨by omega,by omega⟩).2 h)⟩⟩
 refine zx4<|zcr<|sp (Bv false)<|zjr<|rH1 (Bv false) H ?_
 rw[xH (fun h=>by have:=(i1.1 h).1;omega)]
theorem isRule_ok(w:World)(s:qJ)(r:yz)(qZ:zP w xN qM qL s.qA)(xM:zP w zN xm xh s.qB)(gb:zP w CB gc fM r.vg)(gW:zP w Be gt fD r.jI)(gT:zP w BO gy fI r.jK)(g8:zP w B4 gi fH r.jq)(nh:zP w Ip lI j0 r.Qz)(eW:zP w BM V5 V3 r.xn)(p0:yf s):Calls Tryz.prog 120 #[.agg #[yI s.qQ,Sv qM s.qA.length qL,Sv xm s.qB.length xh],.agg #[yI r.qW,yI r.yH,Sv gc r.vg.length fM,Sv gt r.jI.length fD,Sv gy r.jK.length fI,Sv gi r.jq.length fH,Sv lI r.Qz.length j0,Sv V5 r.xn.length V3,Bv r.je]] w (Ret (fun v w'=>v=Bv (dec<|RuleOk s r)) w):=by
 refine en func120 ntmps120 ?_
 have H:=((((((((St.start w).arg eW).arg nh).arg g8).arg gT).arg gW).arg gb).arg xM).arg qZ
 have jP:=qN xM
 have BY:=qN eW
 clear qZ xM gb gW gT g8 nh eW
 have N:=Fresh.nil w.heap.size
 refine zcr<|sw<|jb H (yS s qM qL xm xh) fun b1 w2 H=>sw<|jb H [yI r.qW,yI r.yH,Sv gc r.vg.length fM,Sv gt r.jI.length fD,Sv gy r.jK.length fI,Sv gi r.jq.length fH,Sv lI r.Qz.length j0,Sv V5 r.xn.length V3,Bv r.je] fun b3 w4 H=>sp (Bv false)<|zjcc<|sw<|xW (yS s qM qL xm xh) isAgg27 sizeOf27 J (qH (H.cells 1 J) 0 3)<|oF J<|oL J (H.cell 0 J J)<|sw<|oq (isCell_ok _ s r.qW (H.get 0 J).1 (H.get 1 J).1) H fun w6 H=>sp (Bv (!(inR r.qW 0 ((s.qA.length:Int)-1))))<|sp (Bv (!(inR r.qW 0 ((s.qA.length:Int)-1)))) ?_
 cases h8:(!(inR r.qW 0 ((s.qA.length:Int)-1)))
 ·replace h8:=xw h8
  replace h8:=QW.1 h8
  refine qP 14 J J<|oF J<|qP 14 J J<|oL J (H.cell 0 J J)<|qP 14 J J<|sw<|oq (XX w6 r.yH 0 9) H fun w9 H=>qP 14 J J<|sp (Bv (!(inR r.yH 0 9)))<|sp (Bv (!(inR r.yH 0 9)))<|sp (Bv (!(inR r.yH 0 9))) ?_
  cases cf:(!(inR r.yH 0 9))
  ·replace cf:=xw cf
   replace cf:=QW.1 cf
   refine qP 20 J J<|oF J<|qP 20 J J<|oL J (H.cell 0 J J)<|qP 20 J J<|sp (Bv r.je) ?_
   cases iz:(r.je)
   ·rw[iz] at H
    refine zk [24,25,26]<|qP 20 J J<|sp (Bv false)<|sp (Bv false)<|sp (Bv false)<|qP 29 J J<|oF J<|qP 29 J J<|oL J (H.cell 0 J J)<|qP 29 J J<|oN J<|qP 29 J J<|sp (Bv<|decide ((r.xn.length:Int)>3))<|sp (Bv<|decide ((r.xn.length:Int)>3))<|zjn<|cD J (fun B2=>?_)<|fun B2=>?_
    ·refine zcr (sp (Bv false)<|zjr<|t_r<|rH1 (Bv false) H ?_)
     rw[xH (fun h=>by obtain⟨h1,h2,h3,h4,h5,h6,h7,h8,h9,cK,cf⟩:=h;omega)]
    refine xe<|t_n<|zcc<|oF J<|oL J (H.cell 0 J J)<|oF J<|oL J (H.cell 0 J J)<|oF J<|oL J (H.cell 0 J J)<|oF J<|oL J (H.cell 0 J J)<|oF J<|oL J (H.cell 0 J J)<|sw<|o_buildF H underlying29 ti24 [Sv gc r.vg.length fM,Sv gt r.jI.length fD,Sv gy r.jK.length fI,Sv gi r.jq.length fH,Sv lI r.Qz.length j0] J (by simp[Value.cells]) J qj qj fun LI IR H=>oN J<|sp (yI 0)<|zjn<|xg ?_
    replace H:=H.boxRow 0 J 1 5 J qj
    replace H:=H.yF (α:=yLI)
    replace H:=H.repsCons false 7 J 0 J qm
    replace H:=H.repsCons false 7 J 0 J qm
    replace H:=H.repsCons false 7 J 0 J qm
    replace H:=H.repsCons false 7 J 0 J qm
    replace H:=H.repsCons false 7 J 0 J qm
    refine vk ((fun Z0 Z1 Z2 Z3 Z4 Z5 Z6 Z7 Z8 Z9 dU eC=>fun m' ρ Kj=>∃(xR:Env) (k:Nat),ρ=upd (upd (upd (upd (upd xR 2<|pp b1 0) 3<|pp b3 0) 45<|Sv (aa LI 0) 5 5) 46<|yI 5) 47 (yI k)/\((k:Int)<=5)/\(∀j,j<k->jd s.qQ ([r.vg,r.jI,r.jK,r.jq,r.Qz][j]!))/\m'=(5-(k:Int)).toNat/\Fresh w.heap.size []/\St w Kj [Z0,Z1,Z2] [Z3,Z4,Z5,Z6,Z7,Z8,Z9,dU,eC]) _ _ _ _ _ _ _ _ _ _ _ _) ((5-(0:Int)).toNat) ⟨_,0,uE5,qf,(by intro j hj;omega),rfl,N,H.pick [0,1,2] (0::zR 6 8)⟩ ?_
    clear H N
    rintro m' ρ Us ⟨xR,k,rfl,i0,i1,rfl,N,H⟩
    refine zcr<|sp (Bv<|decide ((k:Int)<5))<|zjn<|xO<|cD J (fun i7=>?_)<|fun i7=>?_
    ·refine xe (t_n<|xO<|xg<|zcr<|oI J J ?_)
     obtain⟨a19,c20,G21,s22,RO,H⟩:=H.Qa 0 rfl 0 rfl (iv:=k) k qf qf
     refine oL J (RO)<|sq 1<|zjc<|oF J<|oL J (H.cell 2 J J)<|sq 1<|sw<|oq (Yd _ s.qQ ([r.vg,r.jI,r.jK,r.jq,r.Qz][k]!) (H.get 0 J).1) H fun Gw H=>sq 1<|zjn<|cQ J (fun h26=>?_)<|fun h26=>?_
     ·refine zcr (sp (Bv false)<|zjr<|zr5<|rH1 (Bv false) H ?_)
      rw[xH (fun h=>by obtain⟨h1,h2,h3,h4,h5,h6,h7,h8,h9,cK,cf⟩:=h;(refine absurd ?_ ‹¬jd _ _›;rcases(show k=0\/k=1\/k=2\/k=3\/k=4 by omega) with e|e|e|e|e <;> subst e <;> assumption))]
     refine xe<|b_n<|t_n<|zf<|sw<|zY k 1 J J qf<|sq 1<|xX<|xu (m':=(5-((k+1):Int)).toNat) qf ⟨_,k+1,uE5,?_,?_,J,N,H.pick [0,1,2]<|zR 1 9⟩
     ·omega
     ·intro j hj;by_cases e:j=k;(subst e;assumption);exact i1 j qf
    refine zx4<|zcc<|oF J<|oL J (H.cell 1 J J)<|oN J<|sp (yI 0)<|zjn<|xg ?_
    have n1:jd s.qQ r.vg:=i1 0 qf
    have n2:jd s.qQ r.jI:=i1 1 qf
    have n3:jd s.qQ r.jK:=i1 2 qf
    have n4:jd s.qQ r.jq:=i1 3 qf
    have n5:jd s.qQ r.Qz:=i1 4 qf
    refine vk ((fun Z0 Z1 Z2 Z3 Z4 Z5 Z6 Z7 Z8 Z9 dU eC=>fun m' ρ Rn=>∃(xR:Env) (i:Nat),ρ=upd (upd (upd (upd (upd xR 2<|pp b1 0) 3<|pp b3 0) 58<|Sv V5 r.xn.length V3) 59<|yI r.xn.length) 60 (yI i)/\((i:Int)<=r.xn.length)/\(IntosTo s r i)/\m'=(r.xn.length-(i:Int)).toNat/\Fresh w.heap.size []/\St w Rn [Z0,Z1,Z2] [Z3,Z4,Z5,Z6,Z7,Z8,Z9,dU,eC]) _ _ _ _ _ _ _ _ _ _ _ _) ((r.xn.length-(0:Int)).toNat) ⟨_,0,uE5,qf,qx,J,N,H⟩ ?_
    clear H N
    rintro m' ρ LE ⟨xR,i,rfl,i0,i2,rfl,N,H⟩
    refine zcr<|sq 1<|zjn<|xO<|cD J (fun h29=>?_)<|fun h29=>?_
    ·refine xe (t_n<|xO<|xg<|zcr<|sp (yI i) ?_)
     obtain⟨HX,o31,rfl⟩:=H.addr 8 rfl qf
     obtain⟨BX,BF,Sm,H⟩:=H.Qr 8 rfl i i qf qf qf
     refine oI J J<|sw<|xW [yI r.xn[i]!.qW,Sv BX r.xn[i]!.Xc.length BF] isAgg161 sizeOf161 J (qH (H.get 1 J) 0 2)<|sw<|x8 H ti161 [yI 0,yN] fun b34 KW H=>sp (yI i)<|sw<|xZ H 0 [yI r.xn[i]!.qW,Sv BX r.xn[i]!.Xc.length BF] sizeOf161 fun JP H=>zjn<|xO<|QY J H fun H=>rt 0 _ (yP (cs:=(yS s qM qL xm xh)) isAgg27 sizeOf27 J<|fun _ h=>qH (h.cells 3 J) 0 3) H ?_
     refine tF 1 J J H ?_
     refine tL 2 J J (fun _ h=>h.cell 0 J J) H ?_
     refine ro 3 J<|oq (isCell_ok _ s r.xn[i]!.qW (H.get 3 J).1 (H.get 4 J).1) H fun O1 H=>⟨H,(rtp 4 (Bv (!(inR r.xn[i]!.qW 0 ((s.qA.length:Int)-1)))) H ?_)⟩
     refine rtp 5 (Bv (!(inR r.xn[i]!.qW 0 ((s.qA.length:Int)-1)))) H ?_
     cases tZ:(!(inR r.xn[i]!.qW 0 ((s.qA.length:Int)-1)))
     ·replace tZ:=xw tZ
      replace tZ:=QW.1 tZ
      refine rg 6 _ 70 (yP (cs:=(yS s qM qL xm xh)) isAgg27 sizeOf27 J<|fun _ h=>qH (h.cells 3 J) 0 3) H ?_
      refine gF 7 J J H ?_
      refine gL 8 J J (fun _ h=>h.cell 0 J J) H ?_
      refine gF 9 J J H ?_
      refine gL 10 J J (fun _ h=>h.cell 2 J J) H ?_
      refine jw [11] qh qm<|Vu J (e:=70) J J (oq (lies_ok _ s r.xn[i]!.qW r.qW (H.get 3 J).1 (H.get 4 J).1 qg qg) H fun w43 H=>⟨H,(rgp 12 (Bv (!(dec<|Lies s.qA r.qW r.xn[i]!.qW))) 70 H ?_)⟩) jy
      refine rtp 13 (Bv (!(dec<|Lies s.qA r.qW r.xn[i]!.qW))) H ?_
      refine rtp 14 (Bv (!(dec<|Lies s.qA r.qW r.xn[i]!.qW))) H ?_
      cases BC:(!(dec (Lies s.qA r.qW r.xn[i]!.qW)))
      ·replace BC:=xw BC
       replace BC:=Qy BC
       refine gF 15 J J H ?_
       refine gL 16 J J (fun _ h=>h.cell 3 J J) H ?_
       refine gF 17 J J H ?_
       refine gL 18 J J (fun _ h=>h.cell 0 J J) H ?_
       refine jw [19] qh qm<|Vu J (e:=79) J J (oq (Yd _ s.qQ r.xn[i]!.Xc (H.get 0 J).1) H fun O7 H=>⟨H,(rgp 20 (Bv (!(dec<|jd s.qQ r.xn[i]!.Xc))) 79 H ?_)⟩) jy
       refine rtp 21 (Bv (!(dec<|jd s.qQ r.xn[i]!.Xc))) H ?_
       refine rtp 22 (Bv (!(dec<|jd s.qQ r.xn[i]!.Xc))) H ?_
       cases Fv:(!(dec (jd s.qQ r.xn[i]!.Xc)))
       ·replace Fv:=xw Fv
        replace Fv:=Qy Fv
        refine gF 23 J J H ?_
        refine gL 24 J J (fun _ h=>h.cell 0 J J) H ?_
        refine jw [25] qh qm<|Vu J (e:=87) J J ?_ jy
        have sm:Small (r.xn[i]!.Xc):=ja<|by assumption
        refine oq (bagSize_ok _ r.xn[i]!.Xc (H.get 0 J).1<|by assumption) H fun w49 H=>⟨H,(rgp 26 (Bv ((Yk (r.xn[i]!.Xc):Int) == 0)) 87 H ?_)⟩
        refine rtp 27 (Bv ((Yk (r.xn[i]!.Xc):Int) == 0)) H ?_
        refine rtp 28 (Bv ((Yk (r.xn[i]!.Xc):Int) == 0)) H ?_
        cases Sq:((Yk (r.xn[i]!.Xc):Int) == 0)
        ·replace Sq:=ne_of_beq_false Sq
         refine rgp 29 (yI i) 93 H ?_
         refine rgp 30 (Bv<|decide ((i:Int)>0)) 93 H ?_
         refine rgp 31 (Bv<|decide ((i:Int)>0)) 93 H ?_
         cases J4:(decide ((i:Int)>0))
         ·replace J4:=of_decide_eq_false J4
          refine vC (zR 32 10) 10 (H)<|rgp 42 (Bv false) 93 H ?_
          refine rtp 43 (Bv false) H ?_
          refine xx qh<|t_n<|cFr J<|xe<|b_n<|t_n<|zf<|sw<|zY i 1 J J qf<|sq 1<|xX<|xu (m':=(r.xn.length-((i+1):Int)).toNat) qf ⟨_,i+1,uE5,?_,?_,J,N,H.pick [1,2,3]<|zR 2 9⟩
          ·omega
          ·exact i2.succ ⟨‹_›,‹_›,‹_›,‹_›,fun hk=>by omega⟩
         replace J4:=of_decide_eq_true J4
         refine gF 32 J J H ?_
         refine gL 33 J J (fun _ h=>h.cell 0 J J) H ?_
         refine gF 34 J J H ?_
         refine gL 35 J J (fun _ h=>h.cell 2 J J) H ?_
         refine rgp 36 (yI i) 96 H ?_
         refine rg 37 _ 96 (y_sub i 1 J J qf) H ?_
         obtain⟨auL,aup,aur,H⟩:=H.Qr 10 rfl (i-1) (i-1) qf qf qf
         have S:=H.ve (zR 0 4)<|zR 2 11
         refine gI 38 J J J S ?_
         refine gF 39 J J S ?_
         refine jw [40] qh qm<|Vu rfl (e:=96) rfl rfl (zx (yI r.xn[i-1]!.qW) isAgg2 rfl (H.zU 1 rfl 0 rfl)<|⟨H.pick (zR 0 4)<|zR 2 11,?_⟩) jy
         have S:=H.ve (zR 0 4)<|zR 2 11
         refine rgl 41 96 S ?_
         refine rgl 42 93 S ?_
         refine rtl 43 S ?_
         refine xx qh<|t_n<|cD J (fun h54=>?_)<|fun h54=>?_
         ·refine zcr (sp (Bv false)<|zjr<|zr5<|rH1 (Bv false) H ?_)
          rw[xH (fun h=>by obtain⟨h1,h2,h3,h4,h5,h6,h7,h8,h9,cK,cf⟩:=h;(obtain⟨q1,q2,q3,q4,q5⟩:=cf i qf;omega))]
         refine xe<|b_n<|t_n<|zf<|sw<|zY i 1 J J qf<|sq 1<|xX<|xu (m':=(r.xn.length-((i+1):Int)).toNat) qf ⟨_,i+1,uE5,?_,?_,J,N,H.pick [1,2,3]<|zR 4 9⟩
         ·omega
         ·exact i2.succ ⟨‹_›,‹_›,‹_›,‹_›,fun hk=>by omega⟩
        replace Sq:=eq_of_beq Sq
        refine vC (zR 29 14) 14 (H)<|rtp 43 (Bv true) H ?_
        refine xx qh<|t_n<|cTr J<|zcr<|sp (Bv false)<|zjr<|zr5<|rH1 (Bv false) H ?_
        rw[xH (fun h=>by obtain⟨h1,h2,h3,h4,h5,h6,h7,h8,h9,cK,cf⟩:=h;(obtain⟨q1,q2,q3,q4,q5⟩:=cf i qf;contradiction))]
       replace Fv:=xF Fv
       replace Fv:=vS Fv
       refine vC (zR 23 4) 4 (H)<|rtp 27 (Bv true) H ?_
       refine rtp 28 (Bv true) H ?_
       refine vC (zR 29 14) 14 (H)<|rtp 43 (Bv true) H ?_
       refine xx qh<|t_n<|cTr J<|zcr<|sp (Bv false)<|zjr<|zr5<|rH1 (Bv false) H ?_
       rw[xH (fun h=>by obtain⟨h1,h2,h3,h4,h5,h6,h7,h8,h9,cK,cf⟩:=h;(obtain⟨q1,q2,q3,q4,q5⟩:=cf i qf;contradiction))]
      replace BC:=xF BC
      replace BC:=vS BC
      refine vC (zR 15 6) 6 (H)<|rtp 21 (Bv true) H ?_
      refine rtp 22 (Bv true) H ?_
      refine vC (zR 23 4) 4 (H)<|rtp 27 (Bv true) H ?_
      refine rtp 28 (Bv true) H ?_
      refine vC (zR 29 14) 14 (H)<|rtp 43 (Bv true) H ?_
      refine xx qh<|t_n<|cTr J<|zcr<|sp (Bv false)<|zjr<|zr5<|rH1 (Bv false) H ?_
      rw[xH (fun h=>by obtain⟨h1,h2,h3,h4,h5,h6,h7,h8,h9,cK,cf⟩:=h;(obtain⟨q1,q2,q3,q4,q5⟩:=cf i qf;contradiction))]
     replace tZ:=xF tZ
     replace tZ:=Xl tZ
     refine vC (zR 6 7) 7 (H)<|rtp 13 (Bv true) H ?_
     refine rtp 14 (Bv true) H ?_
     refine vC (zR 15 6) 6 (H)<|rtp 21 (Bv true) H ?_
     refine rtp 22 (Bv true) H ?_
     refine vC (zR 23 4) 4 (H)<|rtp 27 (Bv true) H ?_
     refine rtp 28 (Bv true) H ?_
     refine vC (zR 29 14) 14 (H)<|rtp 43 (Bv true) H ?_
     refine xx qh<|t_n<|cTr J<|zcr<|sp (Bv false)<|zjr<|zr5<|rH1 (Bv false) H ?_
     rw[xH (fun h=>by obtain⟨h1,h2,h3,h4,h5,h6,h7,h8,h9,cK,cf⟩:=h;(obtain⟨q1,q2,q3,q4,q5⟩:=cf i qf;contradiction))]
    refine zx4<|zcr<|oF J<|oL J (H.cell 1 J J) ?_
    have sm:Small r.vg:=ja<|by assumption
    refine sw<|oq (bagSize_ok _ r.vg (H.get 3 J).1<|by assumption) H fun w55 H=>sp (Bv<|decide ((Yk r.vg:Int)>0))<|sp (Bv<|decide ((Yk r.vg:Int)>0))<|zjr<|rH1 (Bv<|decide ((Yk r.vg:Int)>0)) H<|congrArg Value.bool<|dec_eq ?_
    rw[decide_eq_true_iff]
    exact⟨fun h=>⟨by omega,by omega,by simp_all,by omega,n1,n2,n3,n4,n5,by omega,(show i=r.xn.length by omega)▸i2⟩,fun h=>by have:=h.2.2.2.2.2.2.2.2.2.1;have:=sum_nonneg n1.1;omega⟩
   rw[iz] at H
   refine qP 23 J J<|oF J<|qP 23 J J<|oL J (H.cell 0 J J)<|qP 23 J J<|sp (Bv ((r.qW:Int) == 0))<|qP 20 J J<|sp (Bv ((r.qW:Int) == 0))<|sp (Bv ((r.qW:Int) == 0))<|sp (Bv ((r.qW:Int) == 0)) ?_
   cases h57:((r.qW:Int) == 0)
   ·replace h57:=ne_of_beq_false h57
    refine qP 29 J J<|oF J<|qP 29 J J<|oL J (H.cell 0 J J)<|qP 29 J J<|oN J<|qP 29 J J<|sp (Bv<|decide ((r.xn.length:Int)>3))<|sp (Bv<|decide ((r.xn.length:Int)>3))<|zjn<|cD J (fun LW=>?_)<|fun LW=>?_
    ·refine zcr (sp (Bv false)<|zjr<|t_r<|rH1 (Bv false) H ?_)
     rw[xH (fun h=>by obtain⟨h1,h2,h3,h4,h5,h6,h7,h8,h9,cK,cf⟩:=h;omega)]
    refine xe<|t_n<|zcc<|oF J<|oL J (H.cell 0 J J)<|oF J<|oL J (H.cell 0 J J)<|oF J<|oL J (H.cell 0 J J)<|oF J<|oL J (H.cell 0 J J)<|oF J<|oL J (H.cell 0 J J)<|sw<|o_buildF H underlying29 ti24 [Sv gc r.vg.length fM,Sv gt r.jI.length fD,Sv gy r.jK.length fI,Sv gi r.jq.length fH,Sv lI r.Qz.length j0] J (by simp[Value.cells]) J qj qj fun b59 w60 H=>oN J<|sp (yI 0)<|zjn<|xg ?_
    replace H:=H.boxRow 0 J 1 5 J qj
    replace H:=H.yF (α:=yLI)
    replace H:=H.repsCons false 7 J 0 J qm
    replace H:=H.repsCons false 7 J 0 J qm
    replace H:=H.repsCons false 7 J 0 J qm
    replace H:=H.repsCons false 7 J 0 J qm
    replace H:=H.repsCons false 7 J 0 J qm
    refine vk ((fun Z0 Z1 Z2 Z3 Z4 Z5 Z6 Z7 Z8 Z9 dU eC=>fun m' ρ w61=>∃(xR:Env) (k:Nat),ρ=upd (upd (upd (upd (upd xR 2<|pp b1 0) 3<|pp b3 0) 45<|Sv (aa b59 0) 5 5) 46<|yI 5) 47 (yI k)/\((k:Int)<=5)/\(∀j,j<k->jd s.qQ ([r.vg,r.jI,r.jK,r.jq,r.Qz][j]!))/\m'=(5-(k:Int)).toNat/\Fresh w.heap.size []/\St w w61 [Z0,Z1,Z2] [Z3,Z4,Z5,Z6,Z7,Z8,Z9,dU,eC]) _ _ _ _ _ _ _ _ _ _ _ _) ((5-(0:Int)).toNat) ⟨_,0,uE5,qf,(by intro j hj;omega),rfl,N,H.pick [0,1,2] (0::zR 6 8)⟩ ?_
    clear H N
    rintro m' ρ w62 ⟨xR,k,rfl,i0,i1,rfl,N,H⟩
    refine zcr<|sp (Bv<|decide ((k:Int)<5))<|zjn<|xO<|cD J (fun h63=>?_)<|fun h63=>?_
    ·refine xe (t_n<|xO<|xg<|zcr<|oI J J ?_)
     obtain⟨a64,c65,G66,s67,h68,H⟩:=H.Qa 0 rfl 0 rfl (iv:=k) k qf qf
     refine oL J (h68)<|sq 1<|zjc<|oF J<|oL J (H.cell 2 J J)<|sq 1<|sw<|oq (Yd _ s.qQ ([r.vg,r.jI,r.jK,r.jq,r.Qz][k]!) (H.get 0 J).1) H fun w69 H=>sq 1<|zjn<|cQ J (fun h71=>?_)<|fun h71=>?_
     ·refine zcr (sp (Bv false)<|zjr<|zr5<|rH1 (Bv false) H ?_)
      rw[xH (fun h=>by obtain⟨h1,h2,h3,h4,h5,h6,h7,h8,h9,cK,cf⟩:=h;(refine absurd ?_ ‹¬jd _ _›;rcases(show k=0\/k=1\/k=2\/k=3\/k=4 by omega) with e|e|e|e|e <;> subst e <;> assumption))]
     refine xe<|b_n<|t_n<|zf<|sw<|zY k 1 J J qf<|sq 1<|xX<|xu (m':=(5-((k+1):Int)).toNat) qf ⟨_,k+1,uE5,?_,?_,J,N,H.pick [0,1,2]<|zR 1 9⟩
     ·omega
     ·intro j hj;by_cases e:j=k;(subst e;assumption);exact i1 j qf
    refine zx4<|zcc<|oF J<|oL J (H.cell 1 J J)<|oN J<|sp (yI 0)<|zjn<|xg ?_
    have n1:jd s.qQ r.vg:=i1 0 qf
    have n2:jd s.qQ r.jI:=i1 1 qf
    have n3:jd s.qQ r.jK:=i1 2 qf
    have n4:jd s.qQ r.jq:=i1 3 qf
    have n5:jd s.qQ r.Qz:=i1 4 qf
    refine vk ((fun Z0 Z1 Z2 Z3 Z4 Z5 Z6 Z7 Z8 Z9 dU eC=>fun m' ρ LT=>∃(xR:Env) (i:Nat),ρ=upd (upd (upd (upd (upd xR 2<|pp b1 0) 3<|pp b3 0) 58<|Sv V5 r.xn.length V3) 59<|yI r.xn.length) 60 (yI i)/\((i:Int)<=r.xn.length)/\(IntosTo s r i)/\m'=(r.xn.length-(i:Int)).toNat/\Fresh w.heap.size []/\St w LT [Z0,Z1,Z2] [Z3,Z4,Z5,Z6,Z7,Z8,Z9,dU,eC]) _ _ _ _ _ _ _ _ _ _ _ _) ((r.xn.length-(0:Int)).toNat) ⟨_,0,uE5,qf,qx,J,N,H⟩ ?_
    clear H N
    rintro m' ρ w73 ⟨xR,i,rfl,i0,i2,rfl,N,H⟩
    refine zcr<|sq 1<|zjn<|xO<|cD J (fun h74=>?_)<|fun h74=>?_
    ·refine xe (t_n<|xO<|xg<|zcr<|sp (yI i) ?_)
     obtain⟨b75,o76,rfl⟩:=H.addr 8 rfl qf
     obtain⟨GS,HJ,atC,H⟩:=H.Qr 8 rfl i i qf qf qf
     refine oI J J<|sw<|xW [yI r.xn[i]!.qW,Sv GS r.xn[i]!.Xc.length HJ] isAgg161 sizeOf161 J (qH (H.get 1 J) 0 2)<|sw<|x8 H ti161 [yI 0,yN] fun rz TO H=>sp (yI i)<|sw<|xZ H 0 [yI r.xn[i]!.qW,Sv GS r.xn[i]!.Xc.length HJ] sizeOf161 fun w81 H=>zjn<|xO<|QY J H fun H=>rt 0 _ (yP (cs:=(yS s qM qL xm xh)) isAgg27 sizeOf27 J<|fun _ h=>qH (h.cells 3 J) 0 3) H ?_
     refine tF 1 J J H ?_
     refine tL 2 J J (fun _ h=>h.cell 0 J J) H ?_
     refine ro 3 J<|oq (isCell_ok _ s r.xn[i]!.qW (H.get 3 J).1 (H.get 4 J).1) H fun w84 H=>⟨H,(rtp 4 (Bv (!(inR r.xn[i]!.qW 0 ((s.qA.length:Int)-1)))) H ?_)⟩
     refine rtp 5 (Bv (!(inR r.xn[i]!.qW 0 ((s.qA.length:Int)-1)))) H ?_
     cases Ec:(!(inR r.xn[i]!.qW 0 ((s.qA.length:Int)-1)))
     ·replace Ec:=xw Ec
      replace Ec:=QW.1 Ec
      refine rg 6 _ 70 (yP (cs:=(yS s qM qL xm xh)) isAgg27 sizeOf27 J<|fun _ h=>qH (h.cells 3 J) 0 3) H ?_
      refine gF 7 J J H ?_
      refine gL 8 J J (fun _ h=>h.cell 0 J J) H ?_
      refine gF 9 J J H ?_
      refine gL 10 J J (fun _ h=>h.cell 2 J J) H ?_
      refine jw [11] qh qm<|Vu J (e:=70) J J (oq (lies_ok _ s r.xn[i]!.qW r.qW (H.get 3 J).1 (H.get 4 J).1 qg qg) H fun w88 H=>⟨H,(rgp 12 (Bv (!(dec<|Lies s.qA r.qW r.xn[i]!.qW))) 70 H ?_)⟩) jy
      refine rtp 13 (Bv (!(dec<|Lies s.qA r.qW r.xn[i]!.qW))) H ?_
      refine rtp 14 (Bv (!(dec<|Lies s.qA r.qW r.xn[i]!.qW))) H ?_
      cases RK:(!(dec (Lies s.qA r.qW r.xn[i]!.qW)))
      ·replace RK:=xw RK
       replace RK:=Qy RK
       refine gF 15 J J H ?_
       refine gL 16 J J (fun _ h=>h.cell 3 J J) H ?_
       refine gF 17 J J H ?_
       refine gL 18 J J (fun _ h=>h.cell 0 J J) H ?_
       refine jw [19] qh qm<|Vu J (e:=79) J J (oq (Yd _ s.qQ r.xn[i]!.Xc (H.get 0 J).1) H fun w91 H=>⟨H,(rgp 20 (Bv (!(dec<|jd s.qQ r.xn[i]!.Xc))) 79 H ?_)⟩) jy
       refine rtp 21 (Bv (!(dec<|jd s.qQ r.xn[i]!.Xc))) H ?_
       refine rtp 22 (Bv (!(dec<|jd s.qQ r.xn[i]!.Xc))) H ?_
       cases LS:(!(dec (jd s.qQ r.xn[i]!.Xc)))
       ·replace LS:=xw LS
        replace LS:=Qy LS
        refine gF 23 J J H ?_
        refine gL 24 J J (fun _ h=>h.cell 0 J J) H ?_
        refine jw [25] qh qm<|Vu J (e:=87) J J ?_ jy
        have sm:Small (r.xn[i]!.Xc):=ja<|by assumption
        refine oq (bagSize_ok _ r.xn[i]!.Xc (H.get 0 J).1<|by assumption) H fun w94 H=>⟨H,(rgp 26 (Bv ((Yk (r.xn[i]!.Xc):Int) == 0)) 87 H ?_)⟩
        refine rtp 27 (Bv ((Yk (r.xn[i]!.Xc):Int) == 0)) H ?_
        refine rtp 28 (Bv ((Yk (r.xn[i]!.Xc):Int) == 0)) H ?_
        cases S1:((Yk (r.xn[i]!.Xc):Int) == 0)
        ·replace S1:=ne_of_beq_false S1
         refine rgp 29 (yI i) 93 H ?_
         refine rgp 30 (Bv<|decide ((i:Int)>0)) 93 H ?_
         refine rgp 31 (Bv<|decide ((i:Int)>0)) 93 H ?_
         cases h97:(decide ((i:Int)>0))
         ·replace h97:=of_decide_eq_false h97
          refine vC (zR 32 10) 10 (H)<|rgp 42 (Bv false) 93 H ?_
          refine rtp 43 (Bv false) H ?_
          refine xx qh<|t_n<|cFr J<|xe<|b_n<|t_n<|zf<|sw<|zY i 1 J J qf<|sq 1<|xX<|xu (m':=(r.xn.length-((i+1):Int)).toNat) qf ⟨_,i+1,uE5,?_,?_,J,N,H.pick [1,2,3]<|zR 2 9⟩
          ·omega
          ·exact i2.succ ⟨‹_›,‹_›,‹_›,‹_›,fun hk=>by omega⟩
         replace h97:=of_decide_eq_true h97
         refine gF 32 J J H ?_
         refine gL 33 J J (fun _ h=>h.cell 0 J J) H ?_
         refine gF 34 J J H ?_
         refine gL 35 J J (fun _ h=>h.cell 2 J J) H ?_
         refine rgp 36 (yI i) 96 H ?_
         refine rg 37 _ 96 (y_sub i 1 J J qf) H ?_
         obtain⟨auG,auB,au0,H⟩:=H.Qr 10 rfl (i-1) (i-1) qf qf qf
         have S:=H.ve (zR 0 4)<|zR 2 11
         refine gI 38 J J J S ?_
         refine gF 39 J J S ?_
         refine jw [40] qh qm<|Vu rfl (e:=96) rfl rfl (zx (yI r.xn[i-1]!.qW) isAgg2 rfl (H.zU 1 rfl 0 rfl)<|⟨H.pick (zR 0 4)<|zR 2 11,?_⟩) jy
         have S:=H.ve (zR 0 4)<|zR 2 11
         refine rgl 41 96 S ?_
         refine rgl 42 93 S ?_
         refine rtl 43 S ?_
         refine xx qh<|t_n<|cD J (fun h99=>?_)<|fun h99=>?_
         ·refine zcr (sp (Bv false)<|zjr<|zr5<|rH1 (Bv false) H ?_)
          rw[xH (fun h=>by obtain⟨h1,h2,h3,h4,h5,h6,h7,h8,h9,cK,cf⟩:=h;(obtain⟨q1,q2,q3,q4,q5⟩:=cf i qf;omega))]
         refine xe<|b_n<|t_n<|zf<|sw<|zY i 1 J J qf<|sq 1<|xX<|xu (m':=(r.xn.length-((i+1):Int)).toNat) qf ⟨_,i+1,uE5,?_,?_,J,N,H.pick [1,2,3]<|zR 4 9⟩
         ·omega
         ·exact i2.succ ⟨‹_›,‹_›,‹_›,‹_›,fun hk=>by omega⟩
        replace S1:=eq_of_beq S1
        refine vC (zR 29 14) 14 (H)<|rtp 43 (Bv true) H ?_
        refine xx qh<|t_n<|cTr J<|zcr<|sp (Bv false)<|zjr<|zr5<|rH1 (Bv false) H ?_
        rw[xH (fun h=>by obtain⟨h1,h2,h3,h4,h5,h6,h7,h8,h9,cK,cf⟩:=h;(obtain⟨q1,q2,q3,q4,q5⟩:=cf i qf;contradiction))]
       replace LS:=xF LS
       replace LS:=vS LS
       refine vC (zR 23 4) 4 (H)<|rtp 27 (Bv true) H ?_
       refine rtp 28 (Bv true) H ?_
       refine vC (zR 29 14) 14 (H)<|rtp 43 (Bv true) H ?_
       refine xx qh<|t_n<|cTr J<|zcr<|sp (Bv false)<|zjr<|zr5<|rH1 (Bv false) H ?_
       rw[xH (fun h=>by obtain⟨h1,h2,h3,h4,h5,h6,h7,h8,h9,cK,cf⟩:=h;(obtain⟨q1,q2,q3,q4,q5⟩:=cf i qf;contradiction))]
      replace RK:=xF RK
      replace RK:=vS RK
      refine vC (zR 15 6) 6 (H)<|rtp 21 (Bv true) H ?_
      refine rtp 22 (Bv true) H ?_
      refine vC (zR 23 4) 4 (H)<|rtp 27 (Bv true) H ?_
      refine rtp 28 (Bv true) H ?_
      refine vC (zR 29 14) 14 (H)<|rtp 43 (Bv true) H ?_
      refine xx qh<|t_n<|cTr J<|zcr<|sp (Bv false)<|zjr<|zr5<|rH1 (Bv false) H ?_
      rw[xH (fun h=>by obtain⟨h1,h2,h3,h4,h5,h6,h7,h8,h9,cK,cf⟩:=h;(obtain⟨q1,q2,q3,q4,q5⟩:=cf i qf;contradiction))]
     replace Ec:=xF Ec
     replace Ec:=Xl Ec
     refine vC (zR 6 7) 7 (H)<|rtp 13 (Bv true) H ?_
     refine rtp 14 (Bv true) H ?_
     refine vC (zR 15 6) 6 (H)<|rtp 21 (Bv true) H ?_
     refine rtp 22 (Bv true) H ?_
     refine vC (zR 23 4) 4 (H)<|rtp 27 (Bv true) H ?_
     refine rtp 28 (Bv true) H ?_
     refine vC (zR 29 14) 14 (H)<|rtp 43 (Bv true) H ?_
     refine xx qh<|t_n<|cTr J<|zcr<|sp (Bv false)<|zjr<|zr5<|rH1 (Bv false) H ?_
     rw[xH (fun h=>by obtain⟨h1,h2,h3,h4,h5,h6,h7,h8,h9,cK,cf⟩:=h;(obtain⟨q1,q2,q3,q4,q5⟩:=cf i qf;contradiction))]
    refine zx4<|zcr<|oF J<|oL J (H.cell 1 J J) ?_
    have sm:Small r.vg:=ja<|by assumption
    refine sw<|oq (bagSize_ok _ r.vg (H.get 3 J).1<|by assumption) H fun aqu H=>sp (Bv<|decide ((Yk r.vg:Int)>0))<|sp (Bv<|decide ((Yk r.vg:Int)>0))<|zjr<|rH1 (Bv<|decide ((Yk r.vg:Int)>0)) H<|congrArg Value.bool<|dec_eq ?_
    rw[decide_eq_true_iff]
    exact⟨fun h=>⟨by omega,by omega,by simp_all,by omega,n1,n2,n3,n4,n5,by omega,(show i=r.xn.length by omega)▸i2⟩,fun h=>by have:=h.2.2.2.2.2.2.2.2.2.1;have:=sum_nonneg n1.1;omega⟩
   replace h57:=eq_of_beq h57
   refine zk (zR 30 4)<|sp (Bv true)<|zjn<|cTr J<|zcr<|sp (Bv false)<|zjr<|t_r<|rH1 (Bv false) H ?_
   rw[xH (fun h=>by obtain⟨h1,h2,h3,h4,h5,h6,h7,h8,h9,cK,cf⟩:=h;exact h3 ⟨‹_›,‹_›⟩)]
  replace cf:=xF cf
  replace cf:=Xl cf
  refine zk (zR 21 7)<|sp (Bv true)<|sp (Bv true)<|zk (zR 30 4)<|sp (Bv true)<|zjn<|cTr J<|zcr<|sp (Bv false)<|zjr<|t_r<|rH1 (Bv false) H ?_
  rw[xH (fun h=>by obtain⟨h1,h2,h3,h4,h5,h6,h7,h8,h9,cK,cf⟩:=h;contradiction)]
 replace h8:=xF h8
 replace h8:=Xl h8
 refine zk (zR 15 4)<|sp (Bv true)<|sp (Bv true)<|zk (zR 21 7)<|sp (Bv true)<|sp (Bv true)<|zk (zR 30 4)<|sp (Bv true)<|zjn<|cTr J<|zcr<|sp (Bv false)<|zjr<|t_r<|rH1 (Bv false) H ?_
 rw[xH (fun h=>by obtain⟨h1,h2,h3,h4,h5,h6,h7,h8,h9,cK,cf⟩:=h;contradiction)]
theorem validSystem_ok(w:World)(s:qJ)(qZ:zP w xN qM qL s.qA)(xM:zP w zN xm xh s.qB):Calls Tryz.prog 76 #[.agg #[yI s.qQ,Sv qM s.qA.length qL,Sv xm s.qB.length xh]] w (Ret (fun v w'=>v=Bv (dec<|jW s)) w):=by
 refine en func76 ntmps76 ?_
 have H:=((St.start w).arg xM).arg qZ
 have vT:=qN qZ
 have jP:=qN xM
 clear qZ xM
 have N:=Fresh.nil w.heap.size
 have p1:=fun h:yf s=>h.2.1
 refine zcr<|sw<|jb H (yS s qM qL xm xh) fun b1 w2 H=>sp (Bv false)<|zjcc<|sw<|xW (yS s qM qL xm xh) isAgg27 sizeOf27 J (qH (H.cells 0 J) 0 3)<|sw<|oq (isShell_ok _ s (H.get 0 J).1 (H.get 1 J).1) H fun w4 H=>sp (Bv (!(dec<|yf s)))<|sp (Bv (!(dec<|yf s))) ?_
 cases h6:(!(dec (yf s)))
 ·replace h6:=xw h6
  replace h6:=Qy h6
  refine qP 9 J J<|oF J<|qP 9 J J<|oL J (H.cell 0 J J)<|qP 9 J J<|oN J<|qP 9 J J<|sp (Bv<|decide ((s.qB.length:Int)>16))<|sp (Bv<|decide ((s.qB.length:Int)>16))<|zjn<|cD J (fun h7=>?_)<|fun h7=>?_
  ·refine zcr (sp (Bv false)<|zjr<|t_r<|rH1 (Bv false) H ?_)
   rw[xH (fun h=>by obtain⟨h1,h2,h3⟩:=h;omega)]
  refine xe<|t_n<|zcr<|sw<|vZ [yI 0,yI 0,yI 0,yI 0,yI 0,yI 0] []<|sw<|x8 H ti156 [yI 0,yI 0,yI 0,yI 0,yI 0,yI 0] fun b8 w9 H=>sw<|xZ H 0 [yI 0,yI 0,yI 0,yI 0,yI 0,yI 0] sizeOf156 fun sr H=>zjcc<|oF J<|oL J (H.cell 1 J J)<|oN J<|sp (yI 0)<|zjn<|xg ?_
  have p2:=p1 ‹_›
  refine vk ((fun Z0 Z1 Z2=>fun m' ρ z7=>∃(xR:Env) (k:Nat) (many:yLI),ρ=upd (upd (upd (upd (upd xR 1<|pp b1 0) 3<|pp b8 0) 17<|Sv xm s.qB.length xh) 18<|yI s.qB.length) 19 (yI k)/\many=counts6 s k/\((k:Int)<=s.qB.length)/\(RulesTo s k)/\m'=(s.qB.length-(k:Int)).toNat/\Fresh w.heap.size []/\St w z7 [.box b8 (many.map<|Value.int .i64) 156,Z0] [Z1,Z2]) _ _ _) ((s.qB.length-(0:Int)).toNat) ⟨_,0,[0,0,0,0,0,0],uE5,(by exact counts6_zero s),qf,qx,J,N,H⟩ ?_
  clear H N
  rintro m' ρ Lz ⟨xR,k,many,rfl,rfl,i0,i1,rfl,N,H⟩
  refine zcr<|sq 1<|zjn<|xO<|cD J (fun B2=>?_)<|fun B2=>?_
  ·refine xe (t_n<|xO<|xg<|zcr ?_)
   obtain⟨LI,o15,rfl⟩:=H.addr 1 rfl qf
   obtain⟨xt,wR,ars,vm,wh,aoJ,xl,wI,amw,vj,wB,akK,CF,Cd,au8,yn,ws,ajz,H⟩:=H.Xd 1 rfl k k qf qf qf
   refine oI J J<|sw<|xW [yI s.qB[k]!.qW,yI s.qB[k]!.yH,Sv xt s.qB[k]!.vg.length wR,Sv vm s.qB[k]!.jI.length wh,Sv xl s.qB[k]!.jK.length wI,Sv vj s.qB[k]!.jq.length wB,Sv CF s.qB[k]!.Qz.length Cd,Sv yn s.qB[k]!.xn.length ws,Bv s.qB[k]!.je] isAgg110 sizeOf110 J (qH (H.get 6 J) 0 9)<|sw<|x8 H ti110 [yI 0,yI 0,yN,yN,yN,yN,yN,yN,Bv false] fun W4 LP H=>sw<|xZ H 0 [yI s.qB[k]!.qW,yI s.qB[k]!.yH,Sv xt s.qB[k]!.vg.length wR,Sv vm s.qB[k]!.jI.length wh,Sv xl s.qB[k]!.jK.length wI,Sv vj s.qB[k]!.jq.length wB,Sv CF s.qB[k]!.Qz.length Cd,Sv yn s.qB[k]!.xn.length ws,Bv s.qB[k]!.je] sizeOf110 fun Pa H=>(zjcc<|sw<|xW [yI s.qQ,Sv qM s.qA.length qL,Sv (aa LI o15) s.qB.length xh] isAgg27 sizeOf27 J (qH (H.cells 2 J) 0 3)<|sw<|xW [yI s.qB[k]!.qW,yI s.qB[k]!.yH,Sv xt s.qB[k]!.vg.length wR,Sv vm s.qB[k]!.jI.length wh,Sv xl s.qB[k]!.jK.length wI,Sv vj s.qB[k]!.jq.length wB,Sv CF s.qB[k]!.Qz.length Cd,Sv yn s.qB[k]!.xn.length ws,Bv s.qB[k]!.je] isAgg110 sizeOf110 J (qH (H.cells 0 J) 0 9)<|sw<|oq (isRule_ok _ s s.qB[k]! (H.get 7 J).1 (H.get 8 J).1 (H.get 0 J).1 (H.get 1 J).1 (H.get 2 J).1 (H.get 3 J).1 (H.get 4 J).1 (H.get 5 J).1 qg) H fun MJ H=>?_)
   have q:=fun h:RuleOk s s.qB[k]! =>(show 0<=s.qB[k]!.qW/\s.qB[k]!.qW<=5 from⟨h.1.1,by have:=h.1.2;omega⟩)
   refine sq 1<|zjn<|cQ J (fun CW=>?_)<|fun CW=>?_
   ·refine zcr (sp (Bv false)<|zjr<|t_r<|zr5<|rH1 (Bv false) H ?_)
    rw[xH (fun h=>by obtain⟨h1,h2,h3⟩:=h;(obtain⟨r1,r2⟩:=h3 k qf;contradiction))]
   obtain⟨q1,q2⟩:=q ‹_›
   have q3:=Yf (s:=s) (k:=k) q1 q2
   have q4:=ofCell_bd s.qB s.qB[k]!.qW k
   refine xe<|t_n<|zcr<|oF J<|oL J (H.cell 0 J J)<|sw<|o_idxArr s.qB[k]!.qW underlying156 ti3 J J qf qf<|oL J (H.cell 1 J<|ints_at (iv:=s.qB[k]!.qW) (i:=s.qB[k]!.qW.toNat) qf<|by simp only[List.length_set,List.length_cons,List.length_nil,counts6_len];omega)<|sw<|zY ((counts6 s k)[s.qB[k]!.qW.toNat]!) 1 J J qf<|sw<|o_idxArr s.qB[k]!.qW underlying156 ti3 J J qf qf<|sw<|o_storeArr H 1 J (((counts6 s k)[s.qB[k]!.qW.toNat]!)+1) sizeOf3 J J (i:=s.qB[k]!.qW.toNat) qf (by simp only[List.length_set,List.length_cons,List.length_nil,counts6_len];omega) fun E4 H=>?_
   rw[counts6_succ q1 q2] at H
   refine zjc<|oF J<|oL J (H.cell 0 J J)<|sw<|o_idxArr s.qB[k]!.qW underlying156 ti3 J J qf qf<|oL J (H.cell 1 J<|ints_at (iv:=s.qB[k]!.qW) (i:=s.qB[k]!.qW.toNat) qf<|by simp only[List.length_set,List.length_cons,List.length_nil,counts6_len];omega)<|sp (Bv<|decide (((counts6 s<|k+1)[s.qB[k]!.qW.toNat]! :Int)>8))<|zjn<|cD J (fun h26=>?_)<|fun h26=>?_
   ·refine zcr (sp (Bv false)<|zjr<|zr5<|rH1 (Bv false) H ?_)
    rw[xH (fun h=>by obtain⟨h1,h2,h3⟩:=h;(obtain⟨r1,r2⟩:=h3 k qf;(have:=Yf (s:=s) (k:=k+1) q1 q2;omega)))]
   refine xe<|b_n<|t_n<|zf<|sw<|zY k 1 J J qf<|sq 1<|xX<|xu (m':=(s.qB.length-((k+1):Int)).toNat) qf ⟨_,k+1,_,uE5,?_,?_,?_,J,N,H.pick [1,2] [7,8]⟩
   ·rfl
   ·omega
   ·exact i1.succ ‹_› (by have:=Yf (s:=s) (k:=k+1) q1 q2;omega)
  refine zx4<|zcr<|sp (Bv true)<|zjr<|rH1 (Bv true) H ?_
  rw[QD ⟨by assumption,by omega,(show s.qB.length=k by omega)▸i1⟩]
 replace h6:=xF h6
 replace h6:=vS h6
 refine zk (zR 10 4)<|sp (Bv true)<|zjn<|cTr J<|zcr<|sp (Bv false)<|zjr<|t_r<|rH1 (Bv false) H ?_
 rw[xH (fun h=>by obtain⟨h1,h2,h3⟩:=h;contradiction)]
theorem validState_ok(w:World)(s:qJ)(t:qV)(qZ:zP w xN qM qL s.qA)(xM:zP w zN xm xh s.qB)(zS:zP w vV xK xI t.qO)(vK:zP w jM zB zq t.qG)(zi:zP w zZ xC xy t.qF):Calls Tryz.prog 36 #[.agg #[yI s.qQ,Sv qM s.qA.length qL,Sv xm s.qB.length xh],.agg #[Sv xK t.qO.length xI,Sv zB t.qG.length zq,Sv xC t.qF.length xy]] w (Ret (fun v w'=>v=Bv (dec<|jW s/\zA s t)) w):=by
 refine en func36 ntmps36 ?_
 have H:=(((((St.start w).arg zi).arg vK).arg zS).arg xM).arg qZ
 have vT:=qN qZ
 have jP:=qN xM
 have QM:=qN zS
 have Xt:=qN vK
 have Qe:=qN zi
 clear qZ xM zS vK zi
 have N:=Fresh.nil w.heap.size
 refine zcr<|sw<|jb H (yS s qM qL xm xh) fun b1 w2 H=>sw<|jb H (yT t xK xI zB zq xC xy) fun b3 w4 H=>sp (Bv false)<|zjcc<|sw<|xW (yS s qM qL xm xh) isAgg27 sizeOf27 J (qH (H.cells 1 J) 0 3)<|sw<|oq (validSystem_ok _ s (H.get 0 J).1 (H.get 1 J).1) H fun w6 H=>sp (Bv (!(dec<|jW s)))<|sp (Bv (!(dec<|jW s))) ?_
 cases h8:(!(dec (jW s)))
 ·replace h8:=xw h8
  replace h8:=Qy h8
  have z1:=(‹jW s›:jW s).1.2.1
  refine qP 10 J J<|oF J<|qP 10 J J<|oL J (H.cell 0 J J)<|qP 10 J J<|oN J<|qP 10 J J<|oF J<|qP 10 J J<|oL J (H.cell 1 J J)<|qP 10 J J<|oN J<|qP 10 J J<|sp (Bv ((t.qO.length:Int) != s.qA.length))<|sp (Bv ((t.qO.length:Int) != s.qA.length))<|sp (Bv ((t.qO.length:Int) != s.qA.length)) ?_
  cases h9:((t.qO.length:Int) != s.qA.length)
  ·replace h9:=zo h9
   refine qP 19 J J<|oF J<|qP 19 J J<|oL J (H.cell 0 J J)<|qP 19 J J<|oN J<|qP 19 J J<|oF J<|qP 19 J J<|oL J (H.cell 1 J J)<|qP 19 J J<|oN J<|qP 19 J J<|sp (Bv ((t.qG.length:Int) != s.qA.length))<|sp (Bv ((t.qG.length:Int) != s.qA.length))<|sp (Bv ((t.qG.length:Int) != s.qA.length)) ?_
   cases cK:((t.qG.length:Int) != s.qA.length)
   ·replace cK:=zo cK
    refine qP 28 J J<|oF J<|qP 28 J J<|oL J (H.cell 0 J J)<|qP 28 J J ?_
    obtain⟨ue,o12,rfl⟩:=H.addr 2 rfl qf
    refine oI J J<|qP 28 J J<|oL J (H.elemBoolN 2 J 0 qf)<|qP 28 J J<|sp (Bv (!(t.qO[0]!)))<|sp (Bv (!(t.qO[0]!)))<|sp (Bv (!(t.qO[0]!))) ?_
    cases gz:(!(t.qO[0]!))
    ·replace gz:=xw gz
     refine qP 35 J J<|oF J<|qP 35 J J<|oL J (H.cell 1 J J)<|qP 35 J J<|oF J<|qP 35 J J<|oL J (H.cell 0 J J)<|qP 35 J J<|sw<|oq (Yd _ s.qQ t.qF (H.get 4 J).1) H fun IR H=>qP 35 J J<|sq 2<|zjn<|cQ J (fun CV=>?_)<|fun CV=>?_
     ·refine zcr (sp (Bv false)<|zjr<|t_r<|rH1 (Bv false) H ?_)
      rw[xH (fun h=>by obtain⟨h0,h1,h2,h3,h4,h5⟩:=h;contradiction)]
     refine xe<|t_n<|zcc<|oF J<|oL J (H.cell 0 J J)<|oN J<|sp (yI 0)<|zjn<|xg<|vk ((fun Z0 Z1 Z2 Z3 Z4 Z5 Z6=>fun m' ρ w18=>∃(xR:Env) (c:Nat),ρ=upd (upd (upd (upd (upd xR 2<|pp b1 0) 3<|pp b3 0) 44<|Sv zB t.qG.length zq) 45<|yI t.qG.length) 46 (yI c)/\((c:Int)<=t.qG.length)/\(BagsTo s t c)/\m'=(t.qG.length-(c:Int)).toNat/\Fresh w.heap.size []/\St w w18 [Z0,Z1] [Z2,Z3,Z4,Z5,Z6]) _ _ _ _ _ _ _) ((t.qG.length-(0:Int)).toNat) ⟨_,0,uE5,qf,qx,J,N,H⟩ ?_
     clear H N
     rintro m' ρ LP ⟨xR,c,rfl,i0,i1,rfl,N,H⟩
     refine zcr<|sq 1<|zjn<|xO<|cD J (fun zr=>?_)<|fun zr=>?_
     ·refine xe (t_n<|xO<|xg<|zcr<|sp (yI c) ?_)
      obtain⟨t7,o22,rfl⟩:=H.addr 3 rfl qf
      obtain⟨aPZ,aMW,aKo,H⟩:=H.yg 3 rfl c c qf qf qf
      refine oI J J<|oL J (H.zU 1 J 0 J)<|sp (yI c)<|sq 1<|zjc<|oF J<|oL J (H.cell 1 J J)<|sq 1<|sw<|oq (Yd _ s.qQ t.qG[c]! (H.get 0 J).1) H fun E4 H=>sp (Bv (!(dec<|jd s.qQ<|t.qG[c]!)))<|sp (Bv (!(dec<|jd s.qQ<|t.qG[c]!))) ?_
      cases nY:(!(dec (jd s.qQ t.qG[c]!)))
      ·replace nY:=xw nY
       replace nY:=Qy nY
       refine qP 56 J J<|oF J<|qP 56 J J<|oL J (H.cell 0 J J)<|qP 56 J J<|sp (yI c)<|qP 56 J J<|oI J J<|qP 56 J J<|oL J (H.elemBoolN 4 J c qf)<|qP 56 J J<|sp (Bv (!(t.qO[c]!)))<|qP 56 J J<|sp (Bv (!(t.qO[c]!))) ?_
       cases L8:(!(t.qO[c]!))
       ·replace L8:=xw L8
        refine zk [64,65,66]<|qP 56 J J<|sp (Bv false)<|sp (Bv false)<|zjn<|cFr J<|xe<|b_n<|t_n<|zf<|sw<|zY c 1 J J qf<|sq 1<|xX<|xu (m':=(t.qG.length-((c+1):Int)).toNat) qf ⟨_,c+1,uE5,?_,?_,J,N,H.pick [0,1]<|zR 2 5⟩
        ·omega
        ·exact i1.succ ‹_› (fun hk=>by simp_all)
       replace L8:=xF L8
       refine qP 63 J J<|sq 1<|qP 63 J J<|sw<|oq (bagSize_ok _ t.qG[c]! (H.get 0 J).1<|by exact ja ql) H fun Iu H=>qP 63 J J<|sp (Bv<|decide ((Yk (t.qG[c]!):Int)>0))<|qP 56 J J<|sp (Bv<|decide ((Yk (t.qG[c]!):Int)>0))<|sp (Bv<|decide ((Yk (t.qG[c]!):Int)>0))<|zjn<|cD J (fun h31=>?_)<|fun h31=>?_
       ·refine zcr (sp (Bv false)<|zjr<|zr5<|rH1 (Bv false) H ?_)
        rw[xH (fun h=>by obtain⟨h0,h1,h2,h3,h4,h5⟩:=h;(obtain⟨q1,q2⟩:=h5 c qf;(have:=q2 ql;omega)))]
       refine xe<|b_n<|t_n<|zf<|sw<|zY c 1 J J qf<|sq 1<|xX<|xu (m':=(t.qG.length-((c+1):Int)).toNat) qf ⟨_,c+1,uE5,?_,?_,J,N,H.pick [0,1]<|zR 2 5⟩
       ·omega
       ·exact i1.succ ‹_› (fun hk=>by omega)
      replace nY:=xF nY
      replace nY:=vS nY
      refine zk (zR 57 11)<|sp (Bv true)<|zjn<|cTr J<|zcr<|sp (Bv false)<|zjr<|zr5<|rH1 (Bv false) H ?_
      rw[xH (fun h=>by obtain⟨h0,h1,h2,h3,h4,h5⟩:=h;(obtain⟨q1,q2⟩:=h5 c qf;contradiction))]
     refine zx4<|zcr<|sp (Bv true)<|zjr<|rH1 (Bv true) H ?_
     rw[QD ⟨by assumption,by omega,by omega,by assumption,by assumption,(show t.qG.length=c by omega)▸i1⟩]
    replace gz:=xF gz
    refine zk (zR 36 6)<|sp (Bv true)<|zjn<|cTr J<|zcr<|sp (Bv false)<|zjr<|t_r<|rH1 (Bv false) H ?_
    rw[xH (fun h=>by obtain⟨h0,h1,h2,h3,h4,h5⟩:=h;(simp_all;done))]
   replace cK:=bne_iff_ne.1 cK
   refine zk (zR 29 5)<|sp (Bv true)<|sp (Bv true)<|zk (zR 36 6)<|sp (Bv true)<|zjn<|cTr J<|zcr<|sp (Bv false)<|zjr<|t_r<|rH1 (Bv false) H ?_
   rw[xH (fun h=>by obtain⟨h0,h1,h2,h3,h4,h5⟩:=h;omega)]
  replace h9:=bne_iff_ne.1 h9
  refine zk (zR 20 7)<|sp (Bv true)<|sp (Bv true)<|zk (zR 29 5)<|sp (Bv true)<|sp (Bv true)<|zk (zR 36 6)<|sp (Bv true)<|zjn<|cTr J<|zcr<|sp (Bv false)<|zjr<|t_r<|rH1 (Bv false) H ?_
  rw[xH (fun h=>by obtain⟨h0,h1,h2,h3,h4,h5⟩:=h;omega)]
 replace h8:=xF h8
 replace h8:=vS h8
 refine zk (zR 11 7)<|sp (Bv true)<|sp (Bv true)<|zk (zR 20 7)<|sp (Bv true)<|sp (Bv true)<|zk (zR 29 5)<|sp (Bv true)<|sp (Bv true)<|zk (zR 36 6)<|sp (Bv true)<|zjn<|cTr J<|zcr<|sp (Bv false)<|zjr<|t_r<|rH1 (Bv false) H ?_
 rw[xH (fun h=>by obtain⟨h0,h1,h2,h3,h4,h5⟩:=h;contradiction)]
theorem parentNow_ok(w:World)(s:qJ)(t:qV)(c:Int)(qZ:zP w xN qM qL s.qA)(xM:zP w zN xm xh s.qB)(zS:zP w vV xK xI t.qO)(vK:zP w jM zB zq t.qG)(zi:zP w zZ xC xy t.qF)(p0:yf s)(p1:CellIn s c)(p2:t.qO.length=s.qA.length):Calls Tryz.prog 127 #[.agg #[yI s.qQ,Sv qM s.qA.length qL,Sv xm s.qB.length xh],.agg #[Sv xK t.qO.length xI,Sv zB t.qG.length zq,Sv xC t.qF.length xy],yI c] w (Ret (fun v w'=>v=yI (xY s t c)) w):=by
 refine en func127 ntmps127 ?_
 have H:=(((((St.start w).arg zi).arg vK).arg zS).arg xM).arg qZ
 have vT:=qN qZ
 have jP:=qN xM
 have QM:=qN zS
 have Xt:=qN vK
 have Qe:=qN zi
 clear qZ xM zS vK zi
 have N:=Fresh.nil w.heap.size
 have p3:=p0.step p1.1 p1.2
 refine zcr<|sw<|jb H (yS s qM qL xm xh) fun b1 w2 H=>sw<|jb H (yT t xK xI zB zq xC xy) fun b3 w4 H=>sp (yI 0)<|zjc<|oF J<|oL J (H.cell 1 J J)<|sp (yI c) ?_
 obtain⟨b5,o6,rfl⟩:=H.addr 0 rfl qf
 refine oI J J<|oL J (H.elemInt 0 J c qf qf)<|sq 1<|zjn<|xO<|xg<|vk ((fun Z0 Z1 Z2 Z3 Z4 Z5 Z6=>fun m' ρ w8=>∃(xR:Env) (p:Int) (n:Nat),ρ=upd (upd (upd xR 3<|pp b1 0) 4<|pp b3 0) 7 (yI p)/\(-1<=p/\p<=(s.qA.length:Int)-1)/\(p<n)/\(xY s t c=climb s.qA t.qO n p)/\m'=(p+1).toNat/\Fresh w.heap.size []/\St w w8 [Z0,Z1] [Z2,Z3,Z4,Z5,Z6]) _ _ _ _ _ _ _) ((s.qA[c.toNat]!+1).toNat) ⟨_,s.qA[c.toNat]!,s.qA.length,uE3,qf,qf,(by rfl),J,N,H⟩ ?_
 clear H N
 rintro m' ρ w9 ⟨xR,p,n,rfl,i0,i1,i2,rfl,N,H⟩
 have up:=fun h=>p0.step (c:=p) h i0.2
 refine zcc<|sp (yI p)<|sp (Bv<|decide ((p:Int)>=0))<|sp (Bv<|decide ((p:Int)>=0)) ?_
 cases cK:(decide ((p:Int)>=0))
 ·replace cK:=of_decide_eq_false cK
  refine zk (zR 16 6)<|sp (Bv false)<|zjn<|cFr J<|zx4<|zcr<|sp (yI p)<|sp (yI p)<|zjr<|rH1 (yI p) H ?_
  rw[i2,climb_end<|by omega]
 replace cK:=of_decide_eq_true cK
 refine qP 15 J J<|oF J<|qP 15 J J<|oL J (H.cell 0 J J)<|qP 15 J J<|sp (yI p)<|qP 15 J J ?_
 obtain⟨ue,o12,rfl⟩:=H.addr 2 rfl qf
 refine oI J J<|qP 15 J J<|oL J (H.elemBool 2 J p qf qf)<|qP 15 J J<|sq 2<|zjn<|vP _ J (fun gz=>?_)<|fun gz=>?_
 ·replace gz:=xF gz
  refine xe<|t_n<|xg<|zf<|oF J<|oL J (H.cell 1 J J)<|sp (yI p)<|oI J J<|oL J (H.elemInt 0 J p qf qf)<|sq 1<|xX<|b_n ?_
  have up1:=up qf
  refine xu (m':=(s.qA[p.toNat]!+1).toNat) qf ⟨_,_,n-1,uE3,?_,?_,?_,J,N,H⟩
  ·omega
  ·omega
  ·exact i2.trans<|climb_go qf qf ‹_›
 replace gz:=xw gz
 refine zx4<|zcr<|sp (yI p)<|sp (yI p)<|zjr<|rH1 (yI p) H ?_
 rw[i2,climb_end<|by simp_all]
theorem V4(w:World)(t:qV)(zS:zP w vV xK xI t.qO)(vK:zP w jM zB zq t.qG)(zi:zP w zZ xC xy t.qF)(p0:t.qO.length<=1000000)(p1:t.qF.length<=1000000)(p2:t.qG.length<=1000000)(p3:∀j,j<t.qG.length->t.qG[j]!.length<=1000000):Calls Tryz.prog 38 #[.agg #[Sv xK t.qO.length xI,Sv zB t.qG.length zq,Sv xC t.qF.length xy]] w (Ret (fun v w'=>∃(IS:yOA) (HW:Nat) (HY:Nat) (nb:yOA) (wz:Nat) (ml:Nat) (wW:List Value) (m9:yLN) (fY:yOA) (ng:Nat) (fZ:Nat),v=.agg #[Sv IS HW HY,Sv nb wz ml,Sv fY ng fZ]/\Fresh w.heap.size [m9]/\St w w' [rr IS HW HY 4 1<|t.qO.map<|Value.bool,rr nb wz ml 24 1 wW,rr fY ng fZ 2 1<|t.qF.map<|Value.int .i64] [qX true m9 wW t.qG]) w):=by
 refine en func38 ntmps38 ?_
 have H:=(((St.start w).arg zi).arg vK).arg zS
 have QM:=qN zS
 have Xt:=qN vK
 have Qe:=qN zi
 clear zS vK zi
 have N:=Fresh.nil w.heap.size
 refine zcr<|sw<|jb H (yT t xK xI zB zq xC xy) fun b1 w2 H=>sw<|x8 H ti31 [yN,yN,yN] fun b3 w4 H=>zjn<|xO<|c_cut (fun ρ sr=>∃(xR:Env) (b5:Nat) (iL:yOA) (CX:Nat) (a8:yOA) (c9:Nat),ρ=upd (upd (upd xR 1<|pp b1 0) 2<|pp b3 0) 3 (pp b5 0)/\Fresh w.heap.size []/\St w sr [.box b5 [Sv iL t.qO.length CX,yN,Sv a8 t.qF.length c9] 31,rr a8 t.qF.length c9 2 1<|t.qF.map<|Value.int .i64,rr iL t.qO.length CX 4 1<|t.qO.map<|Value.bool,.box b3 [yN,yN,yN] 31,.box b1 (yT t xK xI zB zq xC xy) 31] [sF false vV xK xI t.qO,sF false jM zB zq t.qG,sF false zZ xC xy t.qF]) ?_ ?_
 ·refine QY J H fun H=>tF 0 J J H ?_
  refine tL 1 J J (fun _ h=>h.cell 1 J J) H ?_
  refine tF 3 J J H ?_
  refine tL 4 J J (fun _ h=>h.cell 1 J J) H ?_
  refine jw [2,7] qh qm<|yl J ?_<|yl J ?_ jy
  ·have aLP:=H.base.size
   refine oc (cloneB_ok _ t.qO (H.get 0 J).1 qg) ?_
   rintro _ D9 ⟨tW,agK,kI,rfl,M,K⟩ _
   replace H:=H.merge K M
   obtain rfl:=H.Vt 0 rfl
   refine⟨H.pick [1,2] [0,1,2],(jw [5,7] qh qm<|yl J ?_<|yl J ?_ jy)⟩
   ·have aNY:=H.base.size
    refine oc (cloneI_ok _ t.qF (H.get 2 J).1 qg) ?_
    rintro v23 NH r23 x22
    replace H:=H.zy x22 r23
    obtain⟨nE,nM,rfl,aKL,aNv⟩:=H.jB 0 rfl
    refine⟨H.pick [2,3] [0,1,2],(jw [6,7] qh qm<|yl J ?_<|yl J ?_ jy)⟩
    ·refine vZ [Sv tW t.qO.length kI,yN,Sv nE t.qF.length nM] [(0,Sv tW t.qO.length kI),(2,Sv nE t.qF.length nM)]<|⟨H.pick [2,3] [0,1,2],(ro 7 rfl<|x8 H ti31 [yN,yN,yN] fun b28 Iu H=>⟨H.pick [3,4] [0,1,2],(ro 8 rfl<|xZ H 0 [Sv tW t.qO.length kI,yN,Sv nE t.qF.length nM] sizeOf31 fun Ui H=>⟨H.pick [3,4] [0,1,2],(xx qh ((meet ⟨_,b28,tW,kI,nE,nM,uE3,N,H⟩)))⟩)⟩)⟩
    refine x8 H ti31 [yN,yN,yN] fun b31 Sw H=>⟨H.pick [3,4] [0,1,2],(ro 6 rfl<|vZ [Sv tW t.qO.length kI,yN,Sv nE t.qF.length nM] [(0,Sv tW t.qO.length kI),(2,Sv nE t.qF.length nM)]<|⟨H.pick [3,4] [0,1,2],(ro 8 rfl<|xZ H 0 [Sv tW t.qO.length kI,yN,Sv nE t.qF.length nM] sizeOf31 fun w33 H=>⟨H.pick [3,4] [0,1,2],(xx qh ((meet ⟨_,b31,tW,kI,nE,nM,uE3,N,H⟩)))⟩)⟩)⟩
   refine x8 H ti31 [yN,yN,yN] fun b34 KW H=>⟨H.pick [2,3] [0,1,2],(ro 5 J ?_)⟩
   have aM5:=H.base.size
   refine oc (cloneI_ok _ t.qF (H.get 2 J).1 qg) ?_
   rintro v41 O1 r41 x40
   replace H:=H.zy x40 r41
   obtain⟨a42,c43,rfl,aOi,aKW⟩:=H.jB 0 rfl
   refine⟨H.pick [3,4] [0,1,2],(ro 6 rfl<|vZ [Sv tW t.qO.length kI,yN,Sv a42 t.qF.length c43] [(0,Sv tW t.qO.length kI),(2,Sv a42 t.qF.length c43)]<|⟨H.pick [3,4] [0,1,2],(ro 8 rfl<|xZ H 1 [Sv tW t.qO.length kI,yN,Sv a42 t.qF.length c43] sizeOf31 fun O7 H=>⟨H.pick [3,4] [0,1,2],(xx qh ((meet ⟨_,b34,tW,kI,a42,c43,uE3,N,H.pick [1,0,2,3,4] [0,1,2]⟩)))⟩)⟩)⟩
  refine x8 H ti31 [yN,yN,yN] fun b47 w48 H=>⟨H.pick [1,2] [0,1,2],(ro 2 J ?_)⟩
  have amf:=H.base.size
  refine oc (cloneB_ok _ t.qO (H.get 0 J).1 qg) ?_
  rintro _ w50 ⟨KT,ayt,tX,rfl,M,K⟩ _
  replace H:=H.merge K M
  obtain rfl:=H.Vt 0 rfl
  refine⟨H.pick [2,3] [0,1,2],(ro 5 J ?_)⟩
  have aOU:=H.base.size
  refine oc (cloneI_ok _ t.qF (H.get 2 J).1 qg) ?_
  rintro v60 w58 r60 x59
  replace H:=H.zy x59 r60
  obtain⟨a61,c62,rfl,aK3,aNo⟩:=H.jB 0 rfl
  refine⟨H.pick [3,4] [0,1,2],(ro 6 rfl<|vZ [Sv KT t.qO.length tX,yN,Sv a61 t.qF.length c62] [(0,Sv KT t.qO.length tX),(2,Sv a61 t.qF.length c62)]<|⟨H.pick [3,4] [0,1,2],(ro 8 rfl<|xZ H 2 [Sv KT t.qO.length tX,yN,Sv a61 t.qF.length c62] sizeOf31 fun w65 H=>⟨H.pick [3,4] [0,1,2],(xx qh ((meet ⟨_,b47,KT,tX,a61,c62,uE3,N,H.pick [2,0,1,3,4] [0,1,2]⟩)))⟩)⟩)⟩
 clear H N
 rintro ρ w66 ⟨xR,b5,iL,CX,a8,c9,rfl,N,H⟩
 refine t_n<|zcc<|oF J<|oL J (H.cell 4 J J)<|oN J<|sp (yI 0)<|zjn<|xg ?_
 replace H:=H.nilRow 24 1
 replace H:=H.yF (α:=yLI)
 refine vk ((fun Z0 Z1 Z2 Z3 Z4 Z5 Z6=>fun m' ρ w67=>∃(xR:Env) (k:Nat) (VR:yOA) (Xb:Nat) (VQ:Nat) (hJ:yLL) (XT:List Value) (Qs:yLN),ρ=upd (upd (upd (upd (upd xR 2<|pp b3 0) 3<|pp b5 0) 14<|Sv zB t.qG.length zq) 15<|yI t.qG.length) 16 (yI k)/\hJ=t.qG.take k/\((k:Int)<=t.qG.length)/\m'=(t.qG.length-(k:Int)).toNat/\Fresh w.heap.size [Qs]/\St w w67 [rr VR Xb VQ 24 1 XT,.box b5 [Sv iL t.qO.length CX,Sv VR Xb VQ,Sv a8 t.qF.length c9] 31,Z0,Z1,Z2,Z3] [qX true Qs XT hJ,Z4,Z5,Z6]) _ _ _ _ _ _ _) ((t.qG.length-(0:Int)).toNat) ⟨_,0,none,0,0,([]:yLL),[],[],uE5,(by rfl),qf,J,N.emp,H⟩ ?_
 clear H N
 rintro m' ρ w68 ⟨xR,k,VR,Xb,VQ,hJ,XT,Qs,rfl,rfl,i0,rfl,N,H⟩
 have sH:=H.xf (α:=yLI) 0 J 0 J qj
 have p4:=p3 k
 rw[List.length_take_of_le qf] at sH
 refine zcr<|sq 1<|zjn<|xO<|cD J (fun h69=>?_)<|fun h69=>?_
 ·refine xe (t_n<|xO<|xg<|zcr ?_)
  obtain⟨b70,o71,rfl⟩:=H.addr 2 rfl qf
  obtain⟨aqD,asm,ayL,H⟩:=H.yg 2 rfl k k qf qf qf
  refine oI J J<|oL J (H.zU 1 J 0 J)<|sq 1<|zjn<|c_cut (fun ρ w79=>∃(xR:Env) (a74:yOA) (c75:Nat) (a76:yOA) (c77:Nat) (G78:yLN),ρ=upd (upd (upd (upd (upd xR 2<|pp b3 0) 3<|pp b5 0) 14<|Sv (aa b70 o71) t.qG.length zq) 15<|yI t.qG.length) 16 (yI k)/\Fresh w.heap.size [(Qs++G78)]/\St w w79 [rr a74 (Xb+1) c75 24 1<|XT++[Sv a76 t.qG[k]!.length c77],.box b5 [Sv iL t.qO.length CX,Sv a74 (Xb+1) c75,Sv a8 t.qF.length c9] 31,rr a8 t.qF.length c9 2 1<|t.qF.map<|Value.int .i64,rr iL t.qO.length CX 4 1<|t.qO.map<|Value.bool,.box b3 [yN,yN,yN] 31,.box b1 [Sv xK t.qO.length xI,Sv (aa b70 o71) t.qG.length zq,Sv xC t.qF.length xy] 31] [qX true (Qs++G78) (XT++[Sv a76 t.qG[k]!.length c77]) ((t.qG.take k)++[t.qG[k]!]),sF true G78 a76 c77<|t.qG[k]!,sF false ayL aqD asm<|t.qG[k]!,atF b70 (o71+(k:Int).toNat*1) [Sv aqD t.qG[k]!.length asm],sF false vV xK xI t.qO,sF false jM (aa b70 o71) zq t.qG,sF false zZ xC xy t.qF]) ?_ ?_
  ·refine QG J H (zR 2 4) fun H=>?_
   have S:=H.ve (zR 2 4)<|zR 0 6
   refine tF 0 J J S ?_
   refine rtl 2 S ?_
   refine jw [1,3] qh qm<|yl J ?_<|yl J ?_ jy
   ·refine zx (Sv VR Xb VQ) isAgg29 J (H.cell 1 J J) (⟨H.pick (zR 2 4)<|zR 0 6,(ro 3 J ?_)⟩)
    have aOr:=H.base.size
    have aI2:=H.ltN (L:=[Qs]) [2]
    refine oc (cloneI_ok _ t.qG[k]! (H.get 0 J).1 qg) ?_
    rintro v86 w84 r86 x85
    replace H:=H.zy x85 r86
    obtain⟨a87,c88,rfl,aI6,aNI⟩:=H.jB 0 rfl
    refine⟨H.pick (zR 3 4)<|zR 0 6,(ro 4 J<|zH H underlying29 ti24 [Sv a87 t.qG[k]!.length c88] fun b91 w92 H=>⟨H.pick (zR 4 4)<|zR 0 6,(ro 5 J ?_)⟩)⟩
    obtain⟨G96,N,aCB,H⟩:=H.vJ 1 rfl N<|H.XE [2]
    refine zQ H 2 J 0 J underlying29 ti24 J qj J J J qw qp qf fun a93 c94 w95 H=>?_
    replace H:=H.QK 3 J 0 J
    replace N:Fresh w.heap.size [(Qs++G96)]:=(N.pick [1,0]).join
    refine⟨H.pick (zR 4 4)<|zR 2 6,(tF 6 J J (H.pick (zR 4 4)<|zR 2 6) ?_)⟩
    refine ro 7 J<|zn H 3 [Sv iL t.qO.length CX,Sv a93 (Xb+1) c94,Sv a8 t.qF.length c9] sizeOf29 fun w98 H=>⟨H.pick (zR 4 4)<|zR 2 6,(xx qh ((meet ⟨_,a93,c94,a87,c88,G96,uE5,N,H.pick (zR 2 6) [0,1,2,3,5,6,7]⟩)))⟩
   have aKY:=H.base.size
   have aGi:=H.ltN (L:=[Qs]) [2]
   refine oc (cloneI_ok _ t.qG[k]! (H.get 0 J).1 qg) ?_
   rintro aMD Tg av0 aAB
   replace H:=H.zy aAB av0
   obtain⟨S3,TY,rfl,aIy,aGc⟩:=H.jB 0 rfl
   refine⟨H.pick (zR 3 4)<|zR 0 6,(jw [1,4] qh qm<|yl J ?_<|yl J ?_ jy)⟩
   ·refine zx (Sv VR Xb VQ) isAgg29 J (H.cell 2 J J) (⟨H.pick (zR 3 4)<|zR 0 6,(ro 4 J<|zH H underlying29 ti24 [Sv S3 t.qG[k]!.length TY] fun B9 abm H=>⟨H.pick (zR 4 4)<|zR 0 6,(ro 5 J ?_)⟩)⟩)
    obtain⟨adf,N,arz,H⟩:=H.vJ 1 rfl N<|H.XE [2]
    refine zQ H 2 J 0 J underlying29 ti24 J qj J J J qw qp qf fun akt alh OE H=>?_
    replace H:=H.QK 3 J 0 J
    replace N:Fresh w.heap.size [(Qs++adf)]:=(N.pick [1,0]).join
    refine⟨H.pick (zR 4 4)<|zR 2 6,(tF 6 J J (H.pick (zR 4 4)<|zR 2 6) ?_)⟩
    refine ro 7 J<|zn H 3 [Sv iL t.qO.length CX,Sv akt (Xb+1) alh,Sv a8 t.qF.length c9] sizeOf29 fun aDT H=>⟨H.pick (zR 4 4)<|zR 2 6,(xx qh ((meet ⟨_,akt,alh,S3,TY,adf,uE5,N,H.pick (zR 2 6) [0,1,2,3,5,6,7]⟩)))⟩
   refine zH H underlying29 ti24 [Sv S3 t.qG[k]!.length TY] fun aLk ao1 H=>⟨H.pick (zR 4 4)<|zR 0 6,(ro 1 rfl<|zx (Sv VR Xb VQ) isAgg29 rfl (H.cell 3 rfl rfl)<|⟨H.pick (zR 4 4)<|zR 0 6,(ro 5 rfl ?_)⟩)⟩
   obtain⟨akm,N,aFM,H⟩:=H.vJ 1 rfl N<|H.XE [2]
   refine zQ H 2 J 0 J underlying29 ti24 J qj J J J qw qp qf fun apv asN Q1 H=>?_
   replace H:=H.QK 3 J 0 J
   replace N:Fresh w.heap.size [(Qs++akm)]:=(N.pick [1,0]).join
   refine⟨H.pick (zR 4 4)<|zR 2 6,(tF 6 J J (H.pick (zR 4 4)<|zR 2 6) ?_)⟩
   refine ro 7 J<|zn H 3 [Sv iL t.qO.length CX,Sv apv (Xb+1) asN,Sv a8 t.qF.length c9] sizeOf29 fun az3 H=>⟨H.pick (zR 4 4)<|zR 2 6,(xx qh ((meet ⟨_,apv,asN,S3,TY,akm,uE5,N,H.pick (zR 2 6) [0,1,2,3,5,6,7]⟩)))⟩
  clear H N
  rintro ρ abL ⟨xR,a74,c75,a76,c77,G78,rfl,N,H⟩
  refine b_n<|t_n<|zf<|sw<|zY k 1 J J qf<|sq 1<|xX<|xu (m':=(t.qG.length-((k+1):Int)).toNat) qf ⟨_,k+1,_,_,_,_,_,_,uE5,?_,?_,J,N,H.pick (zR 0 6) [0,4,5,6]⟩
  ·exact take_snoc qf
  ·omega
 refine zx4<|zcr<|sw<|xW [Sv iL t.qO.length CX,Sv VR Xb VQ,Sv a8 t.qF.length c9] isAgg31 sizeOf31 J (qH (H.cells 1 J) 0 3)<|sw<|xZ H 4 [Sv iL t.qO.length CX,Sv VR Xb VQ,Sv a8 t.qF.length c9] sizeOf31 fun adL H=>zjr<|retC H 4 J J isAgg31 sizeOf31 J ⟨_,J,?_,H.base⟩
 obtain rfl:k=t.qG.length:=by omega
 rw[List.take_length] at H
 exact⟨iL,t.qO.length,CX,VR,Xb,VQ,XT,Qs,a8,t.qF.length,c9,J,N,H.pick [3,0,2] [0]⟩
theorem isEnabled_ok(w:World)(s:qJ)(t:qV)(r:yz)(qZ:zP w xN qM qL s.qA)(xM:zP w zN xm xh s.qB)(zS:zP w vV xK xI t.qO)(vK:zP w jM zB zq t.qG)(zi:zP w zZ xC xy t.qF)(gb:zP w CB gc fM r.vg)(gW:zP w Be gt fD r.jI)(gT:zP w BO gy fI r.jK)(g8:zP w B4 gi fH r.jq)(nh:zP w Ip lI j0 r.Qz)(eW:zP w BM V5 V3 r.xn)(p0:jW s)(p1:zA s t)(p2:RuleOk s r):Calls Tryz.prog 79 #[.agg #[yI s.qQ,Sv qM s.qA.length qL,Sv xm s.qB.length xh],.agg #[Sv xK t.qO.length xI,Sv zB t.qG.length zq,Sv xC t.qF.length xy],.agg #[yI r.qW,yI r.yH,Sv gc r.vg.length fM,Sv gt r.jI.length fD,Sv gy r.jK.length fI,Sv gi r.jq.length fH,Sv lI r.Qz.length j0,Sv V5 r.xn.length V3,Bv r.je]] w (Ret (fun v w'=>v=Bv (dec<|EnOk s t r)) w):=by
 refine en func79 ntmps79 ?_
 have H:=(((((((((((St.start w).arg eW).arg nh).arg g8).arg gT).arg gW).arg gb).arg zi).arg vK).arg zS).arg xM).arg qZ
 have jP:=qN xM
 have QM:=qN zS
 have Xt:=qN vK
 have Qe:=qN zi
 have avu:=qN gb
 have BY:=qN eW
 clear qZ xM zS vK zi gb gW gT g8 nh eW
 have N:=Fresh.nil w.heap.size
 have p3:=p2.1
 have p4:=p1.1
 have p5:=p1.2.1
 have p6:=(p1.bagLen (k:=r.qW.toNat) qf).len
 have p7:=p2.2.2.2.2.1.len
 have p8:=p2.2.2.2.2.2.1.len
 have p9:=p2.2.2.2.2.2.2.1.len
 have p10:=ja p2.2.2.2.2.2.2.1
 have p11:=p0.1
 have CS:=p2.2.2.2.2.2.2.2.2.2.2
 have p13:=X8 p0
 refine zcr<|sw<|jb H (yS s qM qL xm xh) fun b1 w2 H=>sw<|jb H (yT t xK xI zB zq xC xy) fun b3 w4 H=>sw<|jb H [yI r.qW,yI r.yH,Sv gc r.vg.length fM,Sv gt r.jI.length fD,Sv gy r.jK.length fI,Sv gi r.jq.length fH,Sv lI r.Qz.length j0,Sv V5 r.xn.length V3,Bv r.je] fun b5 w6 H=>sp (Bv false)<|zjcc<|oF J<|oL J (H.cell 1 J J)<|oF J<|oL J (H.cell 0 J J) ?_
 obtain⟨b7,o8,rfl⟩:=H.addr 2 rfl qf
 refine oI J J<|oL J (H.elemBool 2 J r.qW qf qf)<|sq 1<|zjn<|vP _ J (fun cK=>?_)<|fun cK=>?_
 ·replace cK:=xF cK
  refine zcr<|sp (Bv false)<|zjr<|t_r<|rH1 (Bv false) H ?_
  rw[xH (fun h=>by obtain⟨h1,h2,h3,h4,h5⟩:=h;exact ft h1 ‹_›)]
 replace cK:=xw cK
 refine xe<|t_n<|zcr<|oF J<|oL J (H.cell 1 J J)<|oF J<|oL J (H.cell 0 J J) ?_
 obtain⟨ue,o12,rfl⟩:=H.addr 3 rfl qf
 obtain⟨aKh,aQS,aL9,H⟩:=H.yg 3 rfl r.qW r.qW.toNat qf qf qf
 refine oI J J<|oL J (H.zU 1 J 0 J)<|sq 1<|zjcc<|oF J<|oL J (H.cell 0 J J)<|sq 1<|sw<|oq (isWithin_ok _ r.vg t.qG[r.qW.toNat]! (H.get 7 J).1 (H.get 0 J).1 qg qg) H fun IR H=>sp (Bv (!(within r.vg<|t.qG[r.qW.toNat]!)))<|sp (Bv (!(within r.vg<|t.qG[r.qW.toNat]!))) ?_
 cases CV:(!(within r.vg t.qG[r.qW.toNat]!))
 ·replace CV:=xw CV
  refine qP 26 J J<|oF J<|qP 26 J J<|oL J (H.cell 0 J J)<|qP 26 J J<|sq 1<|qP 26 J J<|sw<|oq (isWithin_ok _ r.jI t.qG[r.qW.toNat]! (H.get 8 J).1 (H.get 0 J).1 qg qg) H fun w18 H=>qP 26 J J<|sp (Bv (!(within r.jI<|t.qG[r.qW.toNat]!)))<|sp (Bv (!(within r.jI<|t.qG[r.qW.toNat]!)))<|sp (Bv (!(within r.jI<|t.qG[r.qW.toNat]!))) ?_
  cases zr:(!(within r.jI t.qG[r.qW.toNat]!))
  ·replace zr:=xw zr
   refine qP 33 J J<|oF J<|qP 33 J J<|oL J (H.cell 0 J J)<|qP 33 J J<|sw<|oq (bagSize_ok _ r.jK (H.get 9 J).1<|by assumption) H fun NH H=>qP 33 J J<|sp (Bv<|decide ((Yk r.jK:Int)>0))<|qP 33 J J<|sp (Bv<|decide ((Yk r.jK:Int)>0)) ?_
   cases RO:(decide ((Yk r.jK:Int)>0))
   ·replace RO:=of_decide_eq_false RO
    refine zk (zR 39 4)<|qP 33 J J<|sp (Bv false)<|sp (Bv false)<|zjn<|cFr J<|xe<|t_n<|zcr<|oF J<|oL J (H.cell 0 J J)<|sp (.func (.func 126) #[] #[pp b3 0,pp b1 0,pp b5 0])<|sw<|vF #[Sv V5 r.xn.length V3,.func (.func 126) #[] #[pp b3 0,pp b1 0,pp b5 0]] J J call125<|en func125 ntmps125 ?_
    refine zcr<|sp (Bv false)<|zjc<|sq 1<|sp (.func (.func 126) #[] #[pp b3 0,pp b1 0,pp b5 0])<|sw<|vF #[Sv V5 r.xn.length V3,.func (.func 126) #[] #[pp b3 0,pp b1 0,pp b5 0]] J J call163<|en func163 ntmps163 ?_
    refine zcr<|sp (yI 0)<|zjcc<|sq 1<|oN J<|sp (yI 0)<|zjn<|xg<|vk ((fun Z0 Z1 Z2 Z3 Z4 Z5 Z6 Z7 Z8 Z9 dU eC fe fR gB ij=>fun m' ρ Gw=>∃(xR:Env) (i:Nat),ρ=upd (upd (upd (upd xR 0<|Sv V5 r.xn.length V3) 1<|.func (.func 126) #[] #[pp b3 0,pp b1 0,pp b5 0]) 7<|yI r.xn.length) 8 (yI i)/\((i:Int)<=r.xn.length)/\(IntoUp s t r i)/\m'=(r.xn.length-(i:Int)).toNat/\Fresh w.heap.size []/\St w Gw [Z0,Z1,Z2] [Z3,Z4,Z5,Z6,Z7,Z8,Z9,dU,eC,fe,fR,gB,ij]) _ _ _ _ _ _ _ _ _ _ _ _ _ _ _ _) ((r.xn.length-(0:Int)).toNat) ⟨_,0,uE4,qf,qx,J,N,H⟩ ?_
    clear H N
    rintro m' ρ E4 ⟨xR,i,rfl,i0,i1,rfl,N,H⟩
    refine zcr<|sq 1<|zjn<|xO<|cD J (fun h26=>?_)<|fun h26=>?_
    ·have q:=(CS i qf).1
     have q1:=q.1
     have q2:=q.2
     refine xe<|t_n<|xO<|xg<|zcr<|sp (yI i)<|sp (yI i)<|zjc<|sp (.func (.func 126) #[] #[pp b3 0,pp b1 0,pp b5 0])<|sq 1<|sp (yI i) ?_
     obtain⟨b27,o28,rfl⟩:=H.addr 12 rfl qf
     obtain⟨CJ,CR,auz,H⟩:=H.Qr 12 rfl i i qf qf qf
     refine oI J J<|sw<|xW [yI r.xn[i]!.qW,Sv CJ r.xn[i]!.Xc.length CR] isAgg161 sizeOf161 J (qH (H.get 1 J) 0 2)<|sw<|vF #[.agg #[yI r.xn[i]!.qW,Sv CJ r.xn[i]!.Xc.length CR],pp b3 0,pp b1 0,pp b5 0] J J call126<|en func126 ntmps126 ?_
     refine zcr<|sw<|jb H [yI r.xn[i]!.qW,Sv CJ r.xn[i]!.Xc.length CR] fun b31 Sw H=>sp (Bv false)<|zjn<|xO<|QY J H fun H=>tF 0 J J H ?_
     refine tL 1 J J (fun _ h=>h.cell 2 J J) H ?_
     refine tF 2 J J H ?_
     refine tL 3 J J (fun _ h=>h.cell 0 J J) H ?_
     refine tI 4 J J J H ?_
     refine tL 5 J J (fun _ h=>h.elemBool 6 J r.xn[i]!.qW qf qf) H ?_
     refine rtp 6 (Bv (!(t.qO[r.xn[i]!.qW.toNat]!))) H ?_
     refine rtp 7 (Bv (!(t.qO[r.xn[i]!.qW.toNat]!))) H ?_
     cases Mk:(!(t.qO[r.xn[i]!.qW.toNat]!))
     ·replace Mk:=xw Mk
      refine rg 8 _ 13 (yP (cs:=(yS s qM qL xm xh)) isAgg27 sizeOf27 J<|fun _ h=>qH (h.cells 3 J) 0 3) H ?_
      refine rg 9 _ 13 (yP (cs:=[Sv (aa b7 o8) t.qO.length xI,Sv (aa ue o12) t.qG.length zq,Sv xC t.qF.length xy]) isAgg31 sizeOf31 J<|fun _ h=>qH (h.cells 2 J) 0 3) H ?_
      refine gF 10 J J H ?_
      refine gL 11 J J (fun _ h=>h.cell 0 J J) H ?_
      refine gF 13 J J H ?_
      refine gL 14 J J (fun _ h=>h.cell 1 J J) H ?_
      refine jw [12] qh qm<|Vu J (e:=13) J J (oq (parentNow_ok _ s t r.xn[i]!.qW (H.get 4 J).1 (H.get 5 J).1 (H.get 6 J).1 (H.get 7 J).1 (H.get 8 J).1 qg qg qg) H fun JP H=>⟨H,(rgl 15 13 H ?_)⟩) jy
      refine rtl 16 H ?_
      refine rtl 17 H ?_
      refine xx qh<|t_n<|c_ret<|ret1 (Bv ((xY s t (r.xn[i]!.qW):Int) != r.qW)) J J ⟨_,J,?_⟩
      replace H:=H.erases [0]
      dsimp only[zL,List.eraseIdx,List.set] at H
      refine zjn<|vP _ J (fun h38=>?_)<|fun h38=>?_
      ·replace h38:=bne_iff_ne.1 h38
       refine zcr<|sp (yI i)<|sp (yI i)<|zjr<|zr5<|ret1 (yI i) J J ⟨_,J,(sw<|o_pure (Bv true) (by show some (Value.bool<|decide ((i:Int)>=0))=some (Value.bool true);rw[decide_eq_true qf])<|sp (Bv true)<|zjr<|ret1 (Bv true) J J ⟨_,J,(sp (Bv false)<|sp (Bv false)<|zjr<|rH1 (Bv false) H ?_)⟩)⟩
       rw[xH (fun h=>by obtain⟨h1,h2,h3,h4,h5⟩:=h;(obtain⟨q1,q2⟩:=h5 i qf;exact absurd q2 ‹_›))]
      replace h38:=zo h38
      refine xe<|b_n<|t_n<|zf<|sw<|zY i 1 J J qf<|sq 1<|xX<|xu (m':=(r.xn.length-((i+1):Int)).toNat) qf ⟨_,i+1,uE4,?_,?_,J,N,H.pick [0,1,2]<|zR 2 13⟩
      ·omega
      ·exact i1.succ ‹_› ‹_›
     replace Mk:=xF Mk
     refine vC (zR 8 8) 8 (H)<|rtp 16 (Bv true) H ?_
     refine rtp 17 (Bv true) H ?_
     refine xx qh<|t_n<|c_ret<|ret1 (Bv true) J J ⟨_,J,?_⟩
     replace H:=H.erases [0]
     dsimp only[zL,List.eraseIdx,List.set] at H
     refine zjn<|cTr J<|zcr<|sp (yI i)<|sp (yI i)<|zjr<|zr5<|ret1 (yI i) J J ⟨_,J,(sw<|o_pure (Bv true) (by show some (Value.bool<|decide ((i:Int)>=0))=some (Value.bool true);rw[decide_eq_true qf])<|sp (Bv true)<|zjr<|ret1 (Bv true) J J ⟨_,J,(sp (Bv false)<|sp (Bv false)<|zjr<|rH1 (Bv false) H ?_)⟩)⟩
     rw[xH (fun h=>by obtain⟨h1,h2,h3,h4,h5⟩:=h;(obtain⟨q1,q2⟩:=h5 i qf;exact ft q1 ‹_›))]
    refine zx4<|zcr<|sq 1<|zjr<|ret1 (yI (-1)) J J ⟨_,J,(sp (Bv false)<|sp (Bv false)<|zjr<|ret1 (Bv false) J J ⟨_,J,(sp (Bv true)<|sp (Bv true)<|zjr<|rH1 (Bv true) H ?_)⟩)⟩
    rw[QD ⟨by assumption,by assumption,by assumption,fun⟨u,v⟩=>by omega,(show i=r.xn.length by omega)▸i1⟩]
   replace RO:=of_decide_eq_true RO
   refine qP 38 J J<|oF J<|qP 38 J J<|oL J (H.cell 0 J J)<|qP 38 J J<|sq 1<|qP 38 J J<|sw<|oq (isWithin_ok _ r.jK t.qG[r.qW.toNat]! (H.get 9 J).1 (H.get 0 J).1 qg qg) H fun O1 H=>qP 33 J J<|sq 2<|zjn<|vP _ J (fun tZ=>?_)<|fun tZ=>?_
   ·refine zcr (sp (Bv false)<|zjr<|t_r<|rH1 (Bv false) H ?_)
    rw[xH (fun h=>by obtain⟨h1,h2,h3,h4,h5⟩:=h;exact h4 ⟨‹_›,‹_›⟩)]
   refine xe<|t_n<|zcr<|oF J<|oL J (H.cell 0 J J)<|sp (.func (.func 126) #[] #[pp b3 0,pp b1 0,pp b5 0])<|sw<|vF #[Sv V5 r.xn.length V3,.func (.func 126) #[] #[pp b3 0,pp b1 0,pp b5 0]] J J call125<|en func125 ntmps125 ?_
   refine zcr<|sp (Bv false)<|zjc<|sq 1<|sp (.func (.func 126) #[] #[pp b3 0,pp b1 0,pp b5 0])<|sw<|vF #[Sv V5 r.xn.length V3,.func (.func 126) #[] #[pp b3 0,pp b1 0,pp b5 0]] J J call163<|en func163 ntmps163 ?_
   refine zcr<|sp (yI 0)<|zjcc<|sq 1<|oN J<|sp (yI 0)<|zjn<|xg<|vk ((fun Z0 Z1 Z2 Z3 Z4 Z5 Z6 Z7 Z8 Z9 dU eC fe fR gB ij=>fun m' ρ Ul=>∃(xR:Env) (i:Nat),ρ=upd (upd (upd (upd xR 0<|Sv V5 r.xn.length V3) 1<|.func (.func 126) #[] #[pp b3 0,pp b1 0,pp b5 0]) 7<|yI r.xn.length) 8 (yI i)/\((i:Int)<=r.xn.length)/\(IntoUp s t r i)/\m'=(r.xn.length-(i:Int)).toNat/\Fresh w.heap.size []/\St w Ul [Z0,Z1,Z2] [Z3,Z4,Z5,Z6,Z7,Z8,Z9,dU,eC,fe,fR,gB,ij]) _ _ _ _ _ _ _ _ _ _ _ _ _ _ _ _) ((r.xn.length-(0:Int)).toNat) ⟨_,0,uE4,qf,qx,J,N,H⟩ ?_
   clear H N
   rintro m' ρ w43 ⟨xR,i,rfl,i0,i1,rfl,N,H⟩
   refine zcr<|sq 1<|zjn<|xO<|cD J (fun h44=>?_)<|fun h44=>?_
   ·have q:=(CS i qf).1
    have q1:=q.1
    have q2:=q.2
    refine xe<|t_n<|xO<|xg<|zcr<|sp (yI i)<|sp (yI i)<|zjc<|sp (.func (.func 126) #[] #[pp b3 0,pp b1 0,pp b5 0])<|sq 1<|sp (yI i) ?_
    obtain⟨b45,o46,rfl⟩:=H.addr 12 rfl qf
    obtain⟨BE,Cv,atI,H⟩:=H.Qr 12 rfl i i qf qf qf
    refine oI J J<|sw<|xW [yI r.xn[i]!.qW,Sv BE r.xn[i]!.Xc.length Cv] isAgg161 sizeOf161 J (qH (H.get 1 J) 0 2)<|sw<|vF #[.agg #[yI r.xn[i]!.qW,Sv BE r.xn[i]!.Xc.length Cv],pp b3 0,pp b1 0,pp b5 0] J J call126<|en func126 ntmps126 ?_
    refine zcr<|sw<|jb H [yI r.xn[i]!.qW,Sv BE r.xn[i]!.Xc.length Cv] fun b49 w50 H=>sp (Bv false)<|zjn<|xO<|QY J H fun H=>tF 0 J J H ?_
    refine tL 1 J J (fun _ h=>h.cell 2 J J) H ?_
    refine tF 2 J J H ?_
    refine tL 3 J J (fun _ h=>h.cell 0 J J) H ?_
    refine tI 4 J J J H ?_
    refine tL 5 J J (fun _ h=>h.elemBool 6 J r.xn[i]!.qW qf qf) H ?_
    refine rtp 6 (Bv (!(t.qO[r.xn[i]!.qW.toNat]!))) H ?_
    refine rtp 7 (Bv (!(t.qO[r.xn[i]!.qW.toNat]!))) H ?_
    cases J4:(!(t.qO[r.xn[i]!.qW.toNat]!))
    ·replace J4:=xw J4
     refine rg 8 _ 13 (yP (cs:=(yS s qM qL xm xh)) isAgg27 sizeOf27 J<|fun _ h=>qH (h.cells 3 J) 0 3) H ?_
     refine rg 9 _ 13 (yP (cs:=[Sv (aa b7 o8) t.qO.length xI,Sv (aa ue o12) t.qG.length zq,Sv xC t.qF.length xy]) isAgg31 sizeOf31 J<|fun _ h=>qH (h.cells 2 J) 0 3) H ?_
     refine gF 10 J J H ?_
     refine gL 11 J J (fun _ h=>h.cell 0 J J) H ?_
     refine gF 13 J J H ?_
     refine gL 14 J J (fun _ h=>h.cell 1 J J) H ?_
     refine jw [12] qh qm<|Vu J (e:=13) J J (oq (parentNow_ok _ s t r.xn[i]!.qW (H.get 4 J).1 (H.get 5 J).1 (H.get 6 J).1 (H.get 7 J).1 (H.get 8 J).1 qg qg qg) H fun w54 H=>⟨H,(rgl 15 13 H ?_)⟩) jy
     refine rtl 16 H ?_
     refine rtl 17 H ?_
     refine xx qh<|t_n<|c_ret<|ret1 (Bv ((xY s t (r.xn[i]!.qW):Int) != r.qW)) J J ⟨_,J,?_⟩
     replace H:=H.erases [0]
     dsimp only[zL,List.eraseIdx,List.set] at H
     refine zjn<|vP _ J (fun h56=>?_)<|fun h56=>?_
     ·replace h56:=bne_iff_ne.1 h56
      refine zcr<|sp (yI i)<|sp (yI i)<|zjr<|zr5<|ret1 (yI i) J J ⟨_,J,(sw<|o_pure (Bv true) (by show some (Value.bool<|decide ((i:Int)>=0))=some (Value.bool true);rw[decide_eq_true qf])<|sp (Bv true)<|zjr<|ret1 (Bv true) J J ⟨_,J,(sp (Bv false)<|sp (Bv false)<|zjr<|rH1 (Bv false) H ?_)⟩)⟩
      rw[xH (fun h=>by obtain⟨h1,h2,h3,h4,h5⟩:=h;(obtain⟨q1,q2⟩:=h5 i qf;exact absurd q2 ‹_›))]
     replace h56:=zo h56
     refine xe<|b_n<|t_n<|zf<|sw<|zY i 1 J J qf<|sq 1<|xX<|xu (m':=(r.xn.length-((i+1):Int)).toNat) qf ⟨_,i+1,uE4,?_,?_,J,N,H.pick [0,1,2]<|zR 2 13⟩
     ·omega
     ·exact i1.succ ‹_› ‹_›
    replace J4:=xF J4
    refine vC (zR 8 8) 8 (H)<|rtp 16 (Bv true) H ?_
    refine rtp 17 (Bv true) H ?_
    refine xx qh<|t_n<|c_ret<|ret1 (Bv true) J J ⟨_,J,?_⟩
    replace H:=H.erases [0]
    dsimp only[zL,List.eraseIdx,List.set] at H
    refine zjn<|cTr J<|zcr<|sp (yI i)<|sp (yI i)<|zjr<|zr5<|ret1 (yI i) J J ⟨_,J,(sw<|o_pure (Bv true) (by show some (Value.bool<|decide ((i:Int)>=0))=some (Value.bool true);rw[decide_eq_true qf])<|sp (Bv true)<|zjr<|ret1 (Bv true) J J ⟨_,J,(sp (Bv false)<|sp (Bv false)<|zjr<|rH1 (Bv false) H ?_)⟩)⟩
    rw[xH (fun h=>by obtain⟨h1,h2,h3,h4,h5⟩:=h;(obtain⟨q1,q2⟩:=h5 i qf;exact ft q1 ‹_›))]
   refine zx4<|zcr<|sq 1<|zjr<|ret1 (yI (-1)) J J ⟨_,J,(sp (Bv false)<|sp (Bv false)<|zjr<|ret1 (Bv false) J J ⟨_,J,(sp (Bv true)<|sp (Bv true)<|zjr<|rH1 (Bv true) H ?_)⟩)⟩
   rw[QD ⟨by assumption,by assumption,by assumption,fun⟨u,v⟩=>by exact ft v ‹_›,(show i=r.xn.length by omega)▸i1⟩]
  replace zr:=xF zr
  refine zk (zR 34 10)<|sp (Bv true)<|zjn<|cTr J<|zcr<|sp (Bv false)<|zjr<|t_r<|rH1 (Bv false) H ?_
  rw[xH (fun h=>by obtain⟨h1,h2,h3,h4,h5⟩:=h;exact ft h3 ‹_›)]
 replace CV:=xF CV
 refine zk (zR 27 5)<|sp (Bv true)<|sp (Bv true)<|zk (zR 34 10)<|sp (Bv true)<|zjn<|cTr J<|zcr<|sp (Bv false)<|zjr<|t_r<|rH1 (Bv false) H ?_
 rw[xH (fun h=>by obtain⟨h1,h2,h3,h4,h5⟩:=h;exact ft h2 ‹_›)]
theorem cloneSS_ok(w:World)(l:yLL)(hl:zP w Fl al cl l)(p0:l.length<=1000000):Calls Tryz.prog 80 #[Sv al l.length cl] w (Ret (fun v w'=>∃(ra:yOA) (rn:Nat) (rc:Nat) (rx:List Value) (rF:yLN),v=Sv ra rn rc/\(∀b∈rF,b∈Fl)/\St w w' [rr ra rn rc 24 1 rx] [qX false rF rx l]) w):=by
 refine en func80 ntmps80 ?_
 have H:=(St.start w).arg hl
 have Cr:=qN hl
 clear hl
 refine zcr<|sq 1<|zjcc<|sq 1<|sw<|o_eqnil underlying29 al l.length cl J<|zjn<|vP _ J (fun h1=>?_)<|fun h1=>?_
 ·refine zcr (sq 1<|zjr<|t_r ?_)
  replace H:=H.nilRow 24 1
  replace H:=H.yF (α:=yLI)
  refine rH1 yN H ?_
  obtain rfl:=H.nilOf 1 rfl ‹_›
  replace H:=H.unfree 0 J
  exact⟨none,0,0,[],[],rfl,(by intro b hb;(simp at hb;done)),H.pick [0] [0]⟩
 refine xe<|t_n<|zcr<|sw<|jS H underlying29 ti24 fun b2 w3 H=>sq 1 ?_
 replace H:=H.boxRow 0 J 1 0 J qj
 replace H:=H.yF (α:=yLI)
 refine sw<|o_appendFR H 0 J 1 J underlying29 ti24 J qj J J qp qf fun a4 c5 w6 us7 G8 H hG9=>?_
 replace H:=H.repsCat false 1 J 0 J qm
 refine sq 1<|zjr<|rH1 (Sv a4 (0+l.length) c5) H<|⟨a4,0+l.length,c5,[]++us7,([]++G8),rfl,(by intro b hb;exact hG9 b<|by simpa using hb),H.pick [0] [0]⟩
theorem timesIn_ok(w:World)(l:yLI)(m:yLI){cm:Nat}(hl:zP w Fl al cl l)(hm:zP w Fm am cm m)(p0:l.length<=m.length)(p2:∀q,q<l.length->0<=m[q]! /\m[q]! <=1000):Calls Tryz.prog 86 #[Sv al l.length cl,Sv am m.length cm] w (Ret (fun v w'=>v=yI (XU l m)) w):=by
 refine en func86 ntmps86 ?_
 have H:=((St.start w).arg hm).arg hl
 have Cr:=qN hl
 have nhm:=qN hm
 clear hl hm
 have N:=Fresh.nil w.heap.size
 refine zcr<|sp (yI 0)<|zjc<|sq 1<|zjcc<|sq 1<|oN J<|sp (yI 0)<|zjn<|xg<|vk ((fun Z0 Z1=>fun m' ρ w1=>∃(xR:Env) (eM:Int) (k:Nat),ρ=upd (upd (upd (upd (upd xR 1<|Sv am m.length cm) 5<|yI eM) 8<|Sv al l.length cl) 9<|yI l.length) 10 (yI k)/\eM=Xw l m k/\((k:Int)<=l.length)/\m'=(l.length-(k:Int)).toNat/\Fresh w.heap.size []/\St w w1 [] [Z0,Z1]) _ _) ((l.length-(0:Int)).toNat) ⟨_,1000,0,uE5,(by rfl),qf,J,N,H⟩ ?_
 clear H N
 rintro m' ρ w2 ⟨xR,eM,k,rfl,rfl,i0,rfl,N,H⟩
 refine zcr<|sq 1<|zjn<|xO<|cD J (fun h3=>?_)<|fun h3=>?_
 ·refine xe (t_n<|xO<|xg<|zcr<|sp (yI k) ?_)
  obtain⟨b4,o5,rfl⟩:=H.addr 0 rfl qf
  refine oI J J<|oL J (H.vM 0 J k qf)<|sp (yI k)<|sq 1<|zjc<|sq 1<|sp (Bv<|decide ((l[k]! :Int)>0))<|zjn<|cD J (fun h7=>?_)<|fun h7=>?_
  ·refine zf (sq 2<|sp (yI k) ?_)
   obtain⟨b8,o9,rfl⟩:=H.addr 1 rfl qf
   refine oI J J<|oL J (H.vM 1 J k qf)<|sq 1<|sw<|o_quo m[k]! l[k]! rfl J (by(have:=p2 k qf;omega)) (by(have:=p2 k qf;omega))<|sw<|o_min (Xw l m k) (m[k]! / l[k]!) J J<|sq 1<|xX<|b_n<|t_n<|zf<|sw<|zY k 1 J J (by(have:=p2 k qf;omega))<|sq 1<|xX<|xu (m':=(l.length-((k+1):Int)).toNat) qf ⟨_,_,k+1,uE5,?_,?_,J,N,H⟩
   ·exact(timesTo_pos qf).symm
   ·omega
  refine xe<|b_n<|t_n<|zf<|sw<|zY k 1 J J (by(have:=p2 k qf;omega))<|sq 1<|xX<|xu (m':=(l.length-((k+1):Int)).toNat) qf ⟨_,_,k+1,uE5,?_,?_,J,N,H⟩
  ·exact(timesTo_skip qf).symm
  ·omega
 refine zx4<|zcr<|sq 2<|zjr<|rH1 (yI<|Xw l m k) H ?_
 obtain rfl:k=l.length:=by omega
 rfl
theorem applicable_ok(w:World)(s:qJ)(t:qV)(qZ:zP w xN qM qL s.qA)(xM:zP w zN xm xh s.qB)(zS:zP w vV xK xI t.qO)(vK:zP w jM zB zq t.qG)(zi:zP w zZ xC xy t.qF)(p0:jW s)(p1:zA s t):Calls Tryz.prog 39 #[.agg #[yI s.qQ,Sv qM s.qA.length qL,Sv xm s.qB.length xh],.agg #[Sv xK t.qO.length xI,Sv zB t.qG.length zq,Sv xC t.qF.length xy]] w (Ret (fun v w'=>∃(ra:yOA) (rn:Nat) (rc:Nat),v=Sv ra rn rc/\Fresh w.heap.size []/\St w w' [rr ra rn rc 2 1 ((appls s t).map<|Value.int .i64)] []) w):=by
 refine en func39 ntmps39 ?_
 have H:=(((((St.start w).arg zi).arg vK).arg zS).arg xM).arg qZ
 have vT:=qN qZ
 have jP:=qN xM
 have QM:=qN zS
 have Xt:=qN vK
 have Qe:=qN zi
 clear qZ xM zS vK zi
 have N:=Fresh.nil w.heap.size
 have p2:=p0.2.1
 have p3:=p0.1.2.1
 refine zcr<|sw<|jb H (yS s qM qL xm xh) fun b1 w2 H=>sw<|jb H (yT t xK xI zB zq xC xy) fun b3 w4 H=>sq 1<|zjc<|sw<|vZ [yI 0,yI 0,yI 0,yI 0,yI 0,yI 0] []<|sw<|x8 H ti129 [yI 0,yI 0,yI 0,yI 0,yI 0,yI 0] fun b5 w6 H=>(sw<|xZ H 0 [yI 0,yI 0,yI 0,yI 0,yI 0,yI 0] sizeOf129 fun w7 H=>zjcc<|sp (yI 0)<|zjn<|xg<|vk ((fun Z0 Z1 Z2 Z3 Z4 Z5 Z6=>fun m' ρ w8=>∃(xR:Env) (c:Nat) (top:yLI),ρ=upd (upd (upd (upd xR 2<|pp b1 0) 3<|pp b3 0) 5<|pp b5 0) 13 (yI c)/\top=minus c/\((c:Int)<=6)/\m'=(6-(c:Int)).toNat/\Fresh w.heap.size []/\St w w8 [.box b5 (top.map<|Value.int .i64) 129,Z0,Z1] [Z2,Z3,Z4,Z5,Z6]) _ _ _ _ _ _ _) ((6-(0:Int)).toNat) ⟨_,0,[0,0,0,0,0,0],uE4,(by rfl),qf,J,N,H⟩ ?_)
 clear H N
 rintro m' ρ w9 ⟨xR,c,top,rfl,rfl,i0,rfl,N,H⟩
 refine zcr<|sp (Bv<|decide ((c:Int)<6))<|zjn<|xO<|cD J (fun cK=>?_)<|fun cK=>?_
 ·refine xe (t_n<|xO<|xg<|zcr<|sp (yI c)<|sp (yI c)<|zjn<|zf<|sp (yI c)<|sw<|o_idxArr c underlying129 ti2 J J qf qf<|sw<|o_storeArr H 0 J (-1) sizeOf2 J J (i:=c) qf (by simp only[List.length_set,List.length_cons,List.length_nil,minus_len,Vf];omega) fun z7 H=>xX<|b_n<|t_n<|zf<|sw<|zY c 1 J J qf<|sq 1<|xX<|xu (m':=(6-((c+1):Int)).toNat) qf ⟨_,c+1,_,uE4,?_,?_,J,N,H⟩)
  ·exact minus_set qf
  ·omega
 refine zx4<|zcc<|oF J<|oL J (H.cell 2 J J)<|oN J<|sp (yI 0)<|zjn<|xg<|vk ((fun Z0 Z1 Z2 Z3 Z4 Z5 Z6=>fun m' ρ Lz=>∃(xR:Env) (k:Nat) (Nl:yLI),ρ=upd (upd (upd (upd (upd (upd xR 2<|pp b1 0) 3<|pp b3 0) 5<|pp b5 0) 20<|Sv xm s.qB.length xh) 21<|yI s.qB.length) 22 (yI k)/\Nl=bests s t (-1) 6 k/\((k:Int)<=s.qB.length)/\m'=(s.qB.length-(k:Int)).toNat/\Fresh w.heap.size []/\St w Lz [.box b5 (Nl.map<|Value.int .i64) 129,Z0,Z1] [Z2,Z3,Z4,Z5,Z6]) _ _ _ _ _ _ _) ((s.qB.length-(0:Int)).toNat) ⟨_,0,(minus c),uE6,(by exact minus_six qf s t),qf,J,N,H⟩ ?_
 clear H N
 rintro m' ρ D9 ⟨xR,k,Nl,rfl,rfl,i0,rfl,N,H⟩
 refine zcr<|sq 1<|zjn<|xO<|cD J (fun gz=>?_)<|fun gz=>?_
 ·have q:=p0.rule (i:=k) qf
  have qc:=q.1
  have q6:s.qB[k]!.qW.toNat<6:=by omega
  refine xe<|t_n<|xO<|xg<|zcr ?_
  obtain⟨GD,o16,rfl⟩:=H.addr 1 rfl qf
  obtain⟨yr,wA,aq1,vQ,yo,akz,yb,vu,apA,vi,wQ,agW,BW,Bx,atW,ye,ya,al8,H⟩:=H.Xd 1 rfl k k qf qf qf
  refine oI J J<|sw<|xW [yI s.qB[k]!.qW,yI s.qB[k]!.yH,Sv yr s.qB[k]!.vg.length wA,Sv vQ s.qB[k]!.jI.length yo,Sv yb s.qB[k]!.jK.length vu,Sv vi s.qB[k]!.jq.length wQ,Sv BW s.qB[k]!.Qz.length Bx,Sv ye s.qB[k]!.xn.length ya,Bv s.qB[k]!.je] isAgg110 sizeOf110 J (qH (H.get 6 J) 0 9)<|sw<|x8 H ti110 [yI 0,yI 0,yN,yN,yN,yN,yN,yN,Bv false] fun LV Pa H=>sw<|xZ H 0 [yI s.qB[k]!.qW,yI s.qB[k]!.yH,Sv yr s.qB[k]!.vg.length wA,Sv vQ s.qB[k]!.jI.length yo,Sv yb s.qB[k]!.jK.length vu,Sv vi s.qB[k]!.jq.length wQ,Sv BW s.qB[k]!.Qz.length Bx,Sv ye s.qB[k]!.xn.length ya,Bv s.qB[k]!.je] sizeOf110 fun NH H=>(zjc<|sw<|xW [yI s.qQ,Sv qM s.qA.length qL,Sv (aa GD o16) s.qB.length xh] isAgg27 sizeOf27 J (qH (H.cells 3 J) 0 3)<|sw<|xW (yT t xK xI zB zq xC xy) isAgg31 sizeOf31 J (qH (H.cells 2 J) 0 3)<|sw<|xW [yI s.qB[k]!.qW,yI s.qB[k]!.yH,Sv yr s.qB[k]!.vg.length wA,Sv vQ s.qB[k]!.jI.length yo,Sv yb s.qB[k]!.jK.length vu,Sv vi s.qB[k]!.jq.length wQ,Sv BW s.qB[k]!.Qz.length Bx,Sv ye s.qB[k]!.xn.length ya,Bv s.qB[k]!.je] isAgg110 sizeOf110 J (qH (H.cells 0 J) 0 9)<|sw<|oq (isEnabled_ok _ s t s.qB[k]! (H.get 7 J).1 (H.get 8 J).1 (H.get 9 J).1 (H.get 10 J).1 (H.get 11 J).1 (H.get 0 J).1 (H.get 1 J).1 (H.get 2 J).1 (H.get 3 J).1 (H.get 4 J).1 (H.get 5 J).1 qg qg qg) H fun E8 H=>zjn<|cP J (fun R4=>?_)<|fun R4=>?_)
  ·refine QG J H [0,2,3] fun H=>?_
   have S:=H.ve [0,2,3]<|zR 0 12
   refine tF 0 J J S ?_
   refine tL 1 J J (fun _ h=>h.cell 0 J J) S ?_
   refine tF 2 J J S ?_
   refine tL 3 J J (fun _ h=>h.cell 0 J J) S ?_
   refine rt 4 _ (y_idxArr b5 (0) 6 s.qB[k]!.qW underlying129 ti2 J J qf qf) S ?_
   refine tF 6 J J S ?_
   refine tL 7 J J (fun _ h=>h.cell 0 J J) S ?_
   refine ro 5 rfl<|zx (yI ((bests s t (-1) 6 k)[s.qB[k]!.qW.toNat]!)) isAgg2 rfl (H.cell 1 rfl<|ints_at (iv:=s.qB[k]!.qW) (i:=s.qB[k]!.qW.toNat) qf<|by simp only[List.length_set,List.length_cons,List.length_nil,minus_len,Vf];omega)<|⟨H.pick [0,2,3]<|zR 0 12,?_⟩
   have S:=H.ve [0,2,3]<|zR 0 12
   refine rt 8 _ (y_max ((bests s t (-1) 6 k)[s.qB[k]!.qW.toNat]!) s.qB[k]!.yH J J) S ?_
   refine rt 9 _ (y_idxArr b5 (0) 6 s.qB[k]!.qW underlying129 ti2 J J qf qf) S ?_
   refine ro 10 J<|o_storeArr H 1 J (max ((bests s t (-1) 6 k)[s.qB[k]!.qW.toNat]!) s.qB[k]!.yH) sizeOf2 J J (i:=s.qB[k]!.qW.toNat) qf (by simp only[List.length_set,List.length_cons,List.length_nil,minus_len,Vf];omega) fun Rn H=>⟨H.pick [0,2,3]<|zR 0 12,(xx qh<|b_n<|t_n<|zf<|sw<|zY k 1 J J qf<|sq 1<|xX<|xu (m':=(s.qB.length-((k+1):Int)).toNat) qf ⟨_,k+1,_,uE6,?_,?_,J,N,H.pick [1,2,3]<|zR 7 5⟩)⟩
   ·exact bests_set ‹_› qf
   ·omega
  refine xe<|b_n<|t_n<|zf<|sw<|zY k 1 J J qf<|sq 1<|xX<|xu (m':=(s.qB.length-((k+1):Int)).toNat) qf ⟨_,k+1,_,uE6,?_,?_,J,N,H.pick [1,2,3]<|zR 7 5⟩
  ·exact bests_skip ‹_›
  ·omega
 refine zx4<|zcr<|sw<|jS H underlying24 ti2 fun b28 Iu H=>sq 1<|zjcc<|oF J<|oL J (H.cell 3 J J)<|oN J<|sp (yI 0)<|zjn<|xg ?_
 replace H:=H.boxRowI 0 [] 0
 refine vk ((fun Z0 Z1 Z2 Z3 Z4 Z5 Z6 Z7=>fun m' ρ Ui=>∃(xR:Env) (yK:yOA) (yA:Nat) (yJ:Nat) (out:yLI) (i:Nat),ρ=upd (upd (upd (upd (upd (upd (upd xR 2<|pp b1 0) 3<|pp b3 0) 5<|pp b5 0) 9<|Sv yK yA yJ) 43<|Sv xm s.qB.length xh) 44<|yI s.qB.length) 45 (yI i)/\out=applL s t i/\((i:Int)<=s.qB.length)/\m'=(s.qB.length-(i:Int)).toNat/\Fresh w.heap.size []/\St w Ui [rr yK yA yJ 2 1<|out.map<|Value.int .i64,Z0,Z1,Z2] [Z3,Z4,Z5,Z6,Z7]) _ _ _ _ _ _ _ _) ((s.qB.length-(0:Int)).toNat) ⟨_,(aa b28 0),0,0,([]:yLI),0,uE7,(by rfl),qf,J,N,H⟩ ?_
 clear H N
 rintro m' ρ w31 ⟨xR,yK,yA,yJ,out,i,rfl,rfl,i0,rfl,N,H⟩
 have VS:=H.yt 0 J
 have ll:=applL_le s t i
 refine zcr<|sq 1<|zjn<|xO<|cD J (fun h32=>?_)<|fun h32=>?_
 ·have q:=p0.rule (i:=i) qf
  have qc:=q.1
  have qr:=q.2.1
  have q6:s.qB[i]!.qW.toNat<6:=by omega
  refine xe<|t_n<|xO<|xg<|zcr<|sp (yI i) ?_
  obtain⟨Bn,o34,rfl⟩:=H.addr 1 rfl qf
  obtain⟨pB,pJ,Mh,qS,pZ,Nw,pc,qe,PW,rb,rm,NV,ug,ui,TK,pa,qv,NA,H⟩:=H.Xd 1 rfl i i qf qf qf
  refine oI J J<|sw<|xW [yI s.qB[i]!.qW,yI s.qB[i]!.yH,Sv pB s.qB[i]!.vg.length pJ,Sv qS s.qB[i]!.jI.length pZ,Sv pc s.qB[i]!.jK.length qe,Sv rb s.qB[i]!.jq.length rm,Sv ug s.qB[i]!.Qz.length ui,Sv pa s.qB[i]!.xn.length qv,Bv s.qB[i]!.je] isAgg110 sizeOf110 J (qH (H.get 6 J) 0 9)<|sw<|x8 H ti110 [yI 0,yI 0,yN,yN,yN,yN,yN,yN,Bv false] fun b37 Qt H=>sp (yI i)<|sw<|xZ H 0 [yI s.qB[i]!.qW,yI s.qB[i]!.yH,Sv pB s.qB[i]!.vg.length pJ,Sv qS s.qB[i]!.jI.length pZ,Sv pc s.qB[i]!.jK.length qe,Sv rb s.qB[i]!.jq.length rm,Sv ug s.qB[i]!.Qz.length ui,Sv pa s.qB[i]!.xn.length qv,Bv s.qB[i]!.je] sizeOf110 fun O1 H=>zjn<|xO<|QY J H fun H=>tF 0 J J H ?_
  refine tL 1 J J (fun _ h=>h.cell 0 J J) H ?_
  refine tF 2 J J H ?_
  refine tL 3 J J (fun _ h=>h.cell 0 J J) H ?_
  refine rt 4 _ (y_idxArr b5 (0) 6 s.qB[i]!.qW underlying129 ti2 J J qf qf) H ?_
  refine tL 5 J J (fun _ h=>h.cell 2 J<|ints_at (iv:=s.qB[i]!.qW) (i:=s.qB[i]!.qW.toNat) qf<|by simp only[List.length_set,List.length_cons,List.length_nil,minus_len,Vf];omega) H ?_
  refine rtp 6 (Bv ((s.qB[i]!.yH:Int) == ((bests s t (-1) 6 k)[s.qB[i]!.qW.toNat]!))) H ?_
  refine rtp 7 (Bv ((s.qB[i]!.yH:Int) == ((bests s t (-1) 6 k)[s.qB[i]!.qW.toNat]!))) H ?_
  cases tZ:((s.qB[i]!.yH:Int) == ((bests s t (-1) 6 k)[s.qB[i]!.qW.toNat]!))
  ·replace tZ:=ne_of_beq_false tZ
   refine vC (zR 8 4) 4 (H)<|rtp 12 (Bv false) H ?_
   refine xx qh<|t_n<|cFr J<|xe<|b_n<|t_n<|zf<|sw<|zY i 1 J J qf<|sq 1<|xX<|xu (m':=(s.qB.length-((i+1):Int)).toNat) qf ⟨_,_,_,_,_,i+1,uE7,?_,?_,J,N,H.pick (zR 1 4)<|zR 7 5⟩
   ·exact applL_no<|appl_no (n:=6) (z:= -1) (k:=k) qf qf qf q6 ‹_›
   ·omega
  replace tZ:=eq_of_beq tZ
  refine rg 8 _ 57 (yP (cs:=[yI s.qQ,Sv qM s.qA.length qL,Sv (aa Bn o34) s.qB.length xh]) isAgg27 sizeOf27 J<|fun _ h=>qH (h.cells 4 J) 0 3) H ?_
  refine rg 9 _ 57 (yP (cs:=(yT t xK xI zB zq xC xy)) isAgg31 sizeOf31 J<|fun _ h=>qH (h.cells 3 J) 0 3) H ?_
  refine rg 10 _ 57 (yP (cs:=[yI s.qB[i]!.qW,yI s.qB[i]!.yH,Sv pB s.qB[i]!.vg.length pJ,Sv qS s.qB[i]!.jI.length pZ,Sv pc s.qB[i]!.jK.length qe,Sv rb s.qB[i]!.jq.length rm,Sv ug s.qB[i]!.Qz.length ui,Sv pa s.qB[i]!.xn.length qv,Bv s.qB[i]!.je]) isAgg110 sizeOf110 J<|fun _ h=>qH (h.cells 0 J) 0 9) H ?_
  refine jw [11] qh qm<|Vu J (e:=57) J J (oq (isEnabled_ok _ s t s.qB[i]! (H.get 7 J).1 (H.get 8 J).1 (H.get 9 J).1 (H.get 10 J).1 (H.get 11 J).1 (H.get 0 J).1 (H.get 1 J).1 (H.get 2 J).1 (H.get 3 J).1 (H.get 4 J).1 (H.get 5 J).1 qg qg qg) H fun w43 H=>⟨H,(rtl 12 H ?_)⟩) jy
  refine xx qh<|t_n<|cP J (fun BC=>?_)<|fun BC=>?_
  ·refine zf (sq 1<|sp (yI i)<|sw<|zH H underlying24 ti2 [yI i] fun b46 w47 H=>sw<|zQ H 2 J 0 J underlying24 ti2 J qj J J J qw qp qf fun a48 c49 w50 H=>?_)
   rw[snocI] at H
   refine sq 1<|xX<|b_n<|t_n<|zf<|sw<|zY i 1 J J qf<|sq 1<|xX<|xu (m':=(s.qB.length-((i+1):Int)).toNat) qf ⟨_,_,_,_,_,i+1,uE7,?_,?_,J,N,H.pick (zR 2 4)<|zR 7 5⟩
   ·exact applL_yes<|appl_yes (n:=6) (z:= -1) (k:=k) qf qf qf q6 ‹_› ‹_›
   ·omega
  refine xe<|b_n<|t_n<|zf<|sw<|zY i 1 J J qf<|sq 1<|xX<|xu (m':=(s.qB.length-((i+1):Int)).toNat) qf ⟨_,_,_,_,_,i+1,uE7,?_,?_,J,N,H.pick (zR 1 4)<|zR 7 5⟩
  ·exact applL_no<|fun h=>‹¬EnOk _ _ _› h.1
  ·omega
 refine zx4<|zcr<|sq 2<|zjr<|rH1 (Sv yK yA yJ) H ?_
 obtain rfl:i=s.qB.length:=by omega
 exact⟨yK,yA,yJ,J,N,H.pick [0] []⟩
theorem firstChoice_ok(w:World)(s:qJ)(t:qV)(qZ:zP w xN qM qL s.qA)(xM:zP w zN xm xh s.qB)(zS:zP w vV xK xI t.qO)(vK:zP w jM zB zq t.qG)(zi:zP w zZ xC xy t.qF)(p0:jW s)(p1:zA s t):Calls Tryz.prog 41 #[.agg #[yI s.qQ,Sv qM s.qA.length qL,Sv xm s.qB.length xh],.agg #[Sv xK t.qO.length xI,Sv zB t.qG.length zq,Sv xC t.qF.length xy]] w (Ret (fun v w'=>∃(ra:yOA) (rn:Nat) (rc:Nat),v=Sv ra rn rc/\Fresh w.heap.size []/\St w w' [rr ra rn rc 2 1 ((xq s t).map<|Value.int .i64)] []) w):=by
 refine en func41 ntmps41 ?_
 have H:=(((((St.start w).arg zi).arg vK).arg zS).arg xM).arg qZ
 have jP:=qN xM
 have QM:=qN zS
 have Xt:=qN vK
 have Qe:=qN zi
 clear qZ xM zS vK zi
 have N:=Fresh.nil w.heap.size
 have p3:=p0.2.1
 have p7:=p1.2.1
 have p9:=p0.1.2.1
 have p11:xJ s=s.qA.length:=rfl
 refine zcr<|sw<|jb H (yS s qM qL xm xh) fun b1 w2 H=>sw<|jb H (yT t xK xI zB zq xC xy) fun b3 w4 H=>sq 1<|zjn<|xO<|c_cut (fun ρ sr=>∃(xR:Env) (b5:Nat) (iL:yOA) (CX:Nat) (rx8:List Value) (rF9:yLN),ρ=upd (upd (upd (upd xR 2<|pp b1 0) 3<|pp b3 0) 5<|Sv (aa b5 0) s.qB.length s.qB.length) 6 (Sv iL t.qG.length CX)/\Fresh w.heap.size []/\St w sr [rr iL t.qG.length CX 24 1 rx8,rr (aa b5 0) s.qB.length s.qB.length 2 1 ((List.replicate s.qB.length (0:Int)).map<|Value.int .i64),.box b3 (yT t xK xI zB zq xC xy) 31,.box b1 (yS s qM qL xm xh) 27] [qX false rF9 rx8 t.qG,sF false xN qM qL s.qA,sF false zN xm xh s.qB,sF false vV xK xI t.qO,sF false jM zB zq t.qG,sF false zZ xC xy t.qF]) ?_ ?_
 ·refine QY J H fun H=>tF 0 J J H ?_
  refine tL 1 J J (fun _ h=>h.cell 1 J J) H ?_
  refine tN 2 J J H ?_
  refine tF 4 J J H ?_
  refine tL 5 J J (fun _ h=>h.cell 0 J J) H ?_
  refine jw [3,6] qh qm<|yl J ?_<|yl J ?_ jy
  ·refine jQ H underlying24 ti2 s.qB.length J J qf qf qf fun rB D9 H=>⟨H.pick [1,2]<|zR 0 5,(ro 6 J ?_)⟩
   refine oc (cloneSS_ok _ t.qG (H.get 3 J).1 qg) ?_
   rintro _ IR ⟨se,acQ,f3,FM,avW,rfl,aBu,K⟩ _
   replace H:=H.mergeIn K 3 J aBu
   obtain rfl:=H.xf (α:=yLI) 0 rfl 0 rfl qj
   refine⟨H.pick [2,3]<|zR 1 5,?_⟩
   have S:=H.ve [2,3]<|zR 1 5
   refine rtl 7 S ?_
   refine rtl 8 S ?_
   refine xx qh ((meet ⟨_,rB,se,f3,FM,avW,uE4,N,H⟩))
  refine oc (cloneSS_ok _ t.qG (H.get 3 J).1 qg) ?_
  rintro _ NH ⟨nO,aLa,kW,aeu,Du,rfl,awU,K⟩ _
  replace H:=H.mergeIn K 3 J awU
  obtain rfl:=H.xf (α:=yLI) 0 rfl 0 rfl qj
  refine⟨H.pick [1,2]<|zR 1 5,(ro 3 J<|jQ H underlying24 ti2 s.qB.length J J qf qf qf fun IC Rn H=>⟨H.pick [2,3]<|zR 1 5,?_⟩)⟩
  have S:=H.ve [2,3]<|zR 1 5
  refine rtl 7 S ?_
  refine rtl 8 S ?_
  refine xx qh ((meet ⟨_,IC,nO,kW,aeu,Du,uE4,N,H.pick [1,0,2,3]<|zR 0 6⟩))
 clear H N
 rintro ρ LE ⟨xR,b5,iL,CX,rx8,rF9,rfl,N,H⟩
 refine t_n<|zcc<|sw<|xW (yS s qM qL xm xh) isAgg27 sizeOf27 J (qH (H.cells 3 J) 0 3)<|sw<|xW (yT t xK xI zB zq xC xy) isAgg31 sizeOf31 J (qH (H.cells 2 J) 0 3)<|sw<|oc (applicable_ok _ s t (H.get 1 J).1 (H.get 2 J).1 (H.get 3 J).1 (H.get 4 J).1 (H.get 5 J).1 qg qg) ?_
 rintro _ Ui ⟨ayg,axo,PL,rfl,M,K⟩ _
 replace H:=H.merge K M
 obtain rfl:=H.yt 0 rfl
 have al:(appls s t).length<=s.qB.length:=applL_le s t s.qB.length
 refine oN J<|sp (yI 0)<|zjn<|xg<|vk ((fun Z0 Z1 Z2 Z3 Z4 Z5 Z6 Z7=>fun m' ρ KW=>∃(xR:Env) (k:Nat) (rest:yLL) (mz:List Value) (mv:yLN) (out:yLI) (m:Nat),ρ=upd (upd (upd (upd (upd (upd xR 2<|pp b1 0) 5<|Sv (aa b5 0) s.qB.length s.qB.length) 6<|Sv iL t.qG.length CX) 19<|Sv ayg ((appls s t).length) PL) 20<|yI ((appls s t).length)) 21 (yI k)/\rest=jL s t m/\out=firstTo s t m s.qB.length/\((k:Int)<=((appls s t).length))/\((applL s t m).length=k)/\(m<=s.qB.length)/\m'=(((appls s t).length)-(k:Int)).toNat/\Fresh w.heap.size []/\St w KW [Z0,rr iL t.qG.length CX 24 1 mz,rr (aa b5 0) s.qB.length s.qB.length 2 1<|out.map<|Value.int .i64,Z1,Z2] [qX false mv mz rest,Z3,Z4,Z5,Z6,Z7]) _ _ _ _ _ _ _ _) ((((appls s t).length)-(0:Int)).toNat) ⟨_,0,t.qG,rx8,rF9,(List.replicate s.qB.length (0:Int)),0,uE6,(by rfl),(by exact firstTo_zero s t _),qf,(by rfl),qf,J,N,H⟩ ?_
 clear H N
 rintro m' ρ JP ⟨xR,k,rest,mz,mv,out,m,rfl,rfl,rfl,i0,hm,hn,rfl,N,H⟩
 have Cz:=H.xf (α:=yLI) 1 J 0 J qj
 have VS:=H.yt 2 J
 refine zcr<|sq 1<|zjn<|xO<|cD J (fun Cj=>?_)<|fun Cj=>?_
 ·obtain⟨a0,a1,a2,a3,a4,a5⟩:=appls_at' hm hn qf
  have q:=p0.rule (i:=((appls s t)[k]!).toNat) qf
  have qc:=q.1
  have qk:=q.cell
  have Jx:=q.2.2.2.2.1
  have ex:((firstTo s t m s.qB.length).set ((appls s t)[k]!).toNat<|XU (s.qB[((appls s t)[k]!).toNat]!).vg ((jL s t m)[(s.qB[((appls s t)[k]!).toNat]!).qW.toNat]!))[((appls s t)[k]!).toNat]! =(XU (s.qB[((appls s t)[k]!).toNat]!).vg ((jL s t m)[(s.qB[((appls s t)[k]!).toNat]!).qW.toNat]!)):=by rw[getset<|by rw[yw];omega,if_pos J]
  have xb:=firstC_bd p0 p1 (k:=((appls s t)[k]!).toNat) a2
  rw[←firstC_step a1 a3 a4] at xb
  refine xe<|t_n<|xO<|xg<|zcr ?_
  obtain⟨b38,rfl⟩:=H.jm 0 rfl qf
  refine oI J J<|oL J (H.Vx 0 J (iv:=k) (i:=k) qf qf)<|sq 1<|zjc<|oF J<|oL J (H.cell 4 J J)<|sq 1 ?_
  obtain⟨b39,o40,rfl⟩:=H.addr 2 rfl qf
  obtain⟨C7,DL,ana,Dl,D1,aqM,Dq,Dh,apd,Ef,C3,apc,He,GV,aul,Do,De,ag3,H⟩:=H.Xd 2 rfl ((appls s t)[k]!) (((appls s t)[k]!).toNat) qf qf qf
  refine oI J J<|sw<|xW [yI ((s.qB[((appls s t)[k]!).toNat]!).qW),yI ((s.qB[((appls s t)[k]!).toNat]!).yH),Sv C7 (((s.qB[((appls s t)[k]!).toNat]!).vg).length) DL,Sv Dl (((s.qB[((appls s t)[k]!).toNat]!).jI).length) D1,Sv Dq (((s.qB[((appls s t)[k]!).toNat]!).jK).length) Dh,Sv Ef (((s.qB[((appls s t)[k]!).toNat]!).jq).length) C3,Sv He (((s.qB[((appls s t)[k]!).toNat]!).Qz).length) GV,Sv Do (((s.qB[((appls s t)[k]!).toNat]!).xn).length) De,Bv ((s.qB[((appls s t)[k]!).toNat]!).je)] isAgg110 sizeOf110 J (qH (H.get 6 J) 0 9)<|sw<|x8 H ti110 [yI 0,yI 0,yN,yN,yN,yN,yN,yN,Bv false] fun TB L7 H=>(sw<|xZ H 0 [yI ((s.qB[((appls s t)[k]!).toNat]!).qW),yI ((s.qB[((appls s t)[k]!).toNat]!).yH),Sv C7 (((s.qB[((appls s t)[k]!).toNat]!).vg).length) DL,Sv Dl (((s.qB[((appls s t)[k]!).toNat]!).jI).length) D1,Sv Dq (((s.qB[((appls s t)[k]!).toNat]!).jK).length) Dh,Sv Ef (((s.qB[((appls s t)[k]!).toNat]!).jq).length) C3,Sv He (((s.qB[((appls s t)[k]!).toNat]!).Qz).length) GV,Sv Do (((s.qB[((appls s t)[k]!).toNat]!).xn).length) De,Bv ((s.qB[((appls s t)[k]!).toNat]!).je)] sizeOf110 fun w45 H=>(zjn<|xO<|QG J H [0,1,2,4,5] fun H=>?_))
  have S:=H.ve [0,1,2,4,5]<|zR 0 13
  refine rtl 0 S ?_
  refine rtl 1 S ?_
  refine tF 2 J J S ?_
  refine tL 3 J J (fun _ h=>h.cell 0 J J) S ?_
  refine rtl 4 S ?_
  refine tF 5 J J S ?_
  refine tL 6 J J (fun _ h=>h.cell 0 J J) S ?_
  obtain⟨b47,rfl⟩:=H.jm 2 rfl qf
  refine tI 7 J J J (H.pick [0,1,2,4,5]<|zR 0 13)<|ro 8 J ?_
  obtain⟨a48,c49,G50,s51,J4,H⟩:=H.Qa 2 rfl 7 rfl (iv:=(s.qB[((appls s t)[k]!).toNat]!).qW) (((s.qB[((appls s t)[k]!).toNat]!).qW).toNat) qf qf
  refine zx (Sv a48 (((jL s t m)[((s.qB[((appls s t)[k]!).toNat]!).qW).toNat]!).length) c49) isAgg24 rfl (J4)<|⟨H.pick [0,1,2,4,5]<|zR 1 13,(ro 9 rfl ?_)⟩
  obtain⟨u1,u2,u5⟩:=firstR_row (c:=(s.qB[((appls s t)[k]!).toNat]!).qW.toNat) p0 p1 (show m<=_ by omega) qk
  have u3:=Jx.len
  have u6:∀q,q<((s.qB[((appls s t)[k]!).toNat]!).vg).length->0<=((jL s t m)[(s.qB[((appls s t)[k]!).toNat]!).qW.toNat]!)[q]! /\((jL s t m)[(s.qB[((appls s t)[k]!).toNat]!).qW.toNat]!)[q]! <=1000:=fun q hq=>u5 q qf
  refine oq (timesIn_ok _ ((s.qB[((appls s t)[k]!).toNat]!).vg) ((jL s t m)[((s.qB[((appls s t)[k]!).toNat]!).qW).toNat]!) (H.get 1 J).1 (H.get 0 J).1 qg qg) H fun w54 H=>⟨H.pick [0,1,2,4,5]<|zR 1 13,(tI 10 J J J (H.pick [0,1,2,4,5]<|zR 1 13) ?_)⟩
  refine ro 11 J<|o_storeInt H 3 J (XU ((s.qB[((appls s t)[k]!).toNat]!).vg) ((jL s t m)[((s.qB[((appls s t)[k]!).toNat]!).qW).toNat]!)) sizeOf2 J J (i:=(((appls s t)[k]!).toNat)) qf qf fun R7 H=>⟨H.pick [0,1,2,4,5]<|zR 1 13,(xx qh<|t_n ?_)⟩
  refine QG J H [0,1,3,4,5] fun H=>?_
  have S:=H.ve [0,1,3,4,5]<|zR 0 14
  refine rtl 0 S ?_
  refine tF 1 J J S ?_
  refine tL 2 J J (fun _ h=>h.cell 0 J J) S ?_
  refine rtl 3 S ?_
  refine tF 4 J J S ?_
  refine tL 5 J J (fun _ h=>h.cell 0 J J) S ?_
  refine tI 6 J J J S ?_
  refine tF 8 J J S ?_
  refine tL 9 J J (fun _ h=>h.cell 0 J J) S ?_
  refine rtl 10 S ?_
  refine rtl 11 S ?_
  refine tI 12 J J J S ?_
  refine tL 13 J J (fun _ h=>h.Vx 2 J (iv:=(appls s t)[k]!) (i:=(((appls s t)[k]!).toNat)) qf qf) S ?_
  refine rt 14 _ (y_neg (((firstTo s t m s.qB.length).set (((appls s t)[k]!).toNat)<|XU ((s.qB[((appls s t)[k]!).toNat]!).vg) ((jL s t m)[((s.qB[((appls s t)[k]!).toNat]!).qW).toNat]!))[((appls s t)[k]!).toNat]!) J qf) S ?_
  refine ro 7 J ?_
  obtain⟨a58,c59,G60,s61,h62,H⟩:=H.Qa 2 rfl 8 rfl (iv:=(s.qB[((appls s t)[k]!).toNat]!).qW) (((s.qB[((appls s t)[k]!).toNat]!).qW).toNat) qf qf
  refine zx (Sv a58 (((jL s t m)[((s.qB[((appls s t)[k]!).toNat]!).qW).toNat]!).length) c59) isAgg24 rfl (h62)<|⟨H.pick [0,1,3,4,5]<|zR 1 14,(ro 15 rfl ?_)⟩
  obtain⟨u1,u2,u5⟩:=firstR_row (c:=(s.qB[((appls s t)[k]!).toNat]!).qW.toNat) p0 p1 (show m<=_ by omega) qk
  have u4:=Jx.jT (t:= -(((firstTo s t m s.qB.length).set ((appls s t)[k]!).toNat<|XU (s.qB[((appls s t)[k]!).toNat]!).vg ((jL s t m)[(s.qB[((appls s t)[k]!).toNat]!).qW.toNat]!))[((appls s t)[k]!).toNat]!)) qf
  refine oc (Vy _ ((jL s t m)[((s.qB[((appls s t)[k]!).toNat]!).qW).toNat]!) ((s.qB[((appls s t)[k]!).toNat]!).vg) (-(((firstTo s t m s.qB.length).set (((appls s t)[k]!).toNat)<|XU ((s.qB[((appls s t)[k]!).toNat]!).vg) ((jL s t m)[((s.qB[((appls s t)[k]!).toNat]!).qW).toNat]!))[((appls s t)[k]!).toNat]!)) (H.get 0 J).1 (H.get 2 J).1 qg qg qg) ?_
  rintro v68 w66 r68 x67
  replace H:=H.zy x67 r68
  obtain⟨a69,c70,rfl,aMz,aIE⟩:=H.jB 0 rfl
  refine⟨H.pick [1,2,4,5,6]<|zR 1 14,(tI 16 J J J (H.pick [1,2,4,5,6]<|zR 1 14) ?_)⟩
  refine ro 17 J ?_
  obtain⟨G74,N,ao9,H⟩:=H.vJ 0 rfl N<|H.XE []
  refine jJ false H 3 J 10 J (Sv a69 ((vX ((jL s t m)[((s.qB[((appls s t)[k]!).toNat]!).qW).toNat]!) ((s.qB[((appls s t)[k]!).toNat]!).vg) (-(((firstTo s t m s.qB.length).set (((appls s t)[k]!).toNat)<|XU ((s.qB[((appls s t)[k]!).toNat]!).vg) ((jL s t m)[((s.qB[((appls s t)[k]!).toNat]!).qW).toNat]!))[((appls s t)[k]!).toNat]!))).length) c70) 0 J J sizeOf24 J J (i:=(((s.qB[((appls s t)[k]!).toNat]!).qW).toNat)) qf qf qm fun w73 ahu F77 abT H=>⟨H.pick [1,2,4,5,6]<|zR 3 14,(xx qh<|b_n<|t_n<|zf ?_)⟩
  refine sw<|zY k 1 J J qf<|sq 1<|xX<|xu (m':=(((appls s t).length)-((k+1):Int)).toNat) qf ⟨_,k+1,_,_,_,_,((appls s t)[k]!).toNat+1,uE6,?_,?_,?_,?_,?_,J,(N.pick []),H.pick (zR 2 5) (0::zR 12 5)⟩
  ·exact firstR_step a1 a2 a3 a4 ex
  ·exact firstTo_set a1 a2 a4<|firstC_step a1 a3 a4
  ·omega
  ·exact a5
  ·exact a2
 refine zx4<|zcr<|sq 2<|zjr<|rH1 (Sv (aa b5 0) s.qB.length s.qB.length) H ?_
 rw[firstTo_end hn<|appls_end hm hn qf] at H
 exact⟨(aa b5 0),s.qB.length,s.qB.length,J,N,H.pick [2] []⟩
end
end Go.Proofs.YtghikkinnchndaaGreat
