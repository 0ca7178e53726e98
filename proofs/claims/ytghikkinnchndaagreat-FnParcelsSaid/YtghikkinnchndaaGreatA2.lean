/- Walks and laws, printed by program and by hand: what each function comes to, for all arguments, part 2. -/
import Derived.Test.YtghikkinnchndaaGreatA1
namespace Go.Proofs.YtghikkinnchndaaGreat
open Go.Proofs.Tryz
set_option linter.unusedVariables false
set_option linter.unusedSimpArgs false
set_option maxRecDepth 100000
set_option maxHeartbeats 4000000
open Go.RowKit
open Go.Proofs.Tryz
open Go.Proofs.YtghikkinnchndaaGreat.Tot (tot)
open Go.Proofs.YtghikkinnchndaaGreat.Mark (dN mrk mkd mkd_mark cnt_mark)
variable{B D gP x z:Int}{Fl Fm AC AK AP Br AO HX Qe jY je xY zX:yLN}{K Vs br c cl gc ga gm gj lp i j k n or p q:Nat}{Vt al am hX gS hP g0 mf qU vC xC zK zg:yOA}{a l m:yLI}{b:yLL}{r:yu}{s:qO}{t:xn}
section
variable{bs os qR xx bt ot zI vk zf : Nat}
theorem l01Bag_ok(w:World)(l:yLI)(hl:zP w Fl al cl l):Calls Tryz.prog 132 #[Sv al l.length cl] w (Ret (fun v w'=>v=Bv (dec<|VM l)) w):=by
 refine en func132 ntmps132 ?_
 have H:=(St.start w).arg hl
 have C5:=qM hl
 clear hl
 refine zcr<|sp (Bv false)<|zjcc<|sp (yI 0)<|zjn<|xe<|zT ((fun Z0=>fun m' ρ w1=>∃(xP:Env) (k:Nat),ρ=upd (upd xP 0<|Sv al l.length cl) 3 (yI k)/\(k<=l.length)/\(Counts l k)/\m'=l.length-k/\St w w1 [] [Z0]) _) (l.length-0) ⟨_,0,uE2,qf,(by exact Counts.zero l),rfl,H⟩ ?_
 clear H
 rintro m' ρ w2 ⟨xP,k,rfl,i0,i1,rfl,H⟩
 refine zcc<|sp (yI k)<|sq 1<|oN rfl<|sq 1<|zjn<|cD rfl (fun h3=>?_)<|fun h3=>?_
 ·refine qW (t_n<|xM<|xe<|zcr<|sq 1<|sp (yI k) ?_)
  obtain⟨b4,o5,rfl⟩:=H.addr 0 rfl qf
  refine oI rfl rfl<|oL rfl (H.vG 0 rfl k qf)<|sw<|oq (Vd w2 (l[k]!) 0 1000) H fun w6 H=>sq 1<|zjn<|vg _ rfl (fun h8=>?_)<|fun h8=>?_
  ·replace h8:=xq h8
   replace h8:=QZ h8
   refine zcr<|sp (Bv false)<|zjr<|zr5<|rH1 (Bv false) H ?_
   rw[xE<|fun h=>‹¬(0<=l[k]! /\l[k]! <=1000)› (h.1 k qf)]
  replace h8:=xf h8
  replace h8:=QM.1 h8
  refine qW<|b_n<|t_n<|xX<|sp (yI k)<|sw<|zS k 1 rfl rfl qf<|sq 1<|xU<|xu (m':=l.length-(k+1)) qf ⟨_,k+1,uE2,?_,?_,rfl,H⟩
  ·omega
  ·exact i1.succ ‹_›
 refine zx4<|zcr<|sq 1<|oN rfl<|sw<|oq (Vd w2 l.length 1 8) H fun w9 H=>sq 1<|zjr<|rH1 (Bv<|inR l.length 1 8) H ?_
 obtain rfl:k=l.length:=by omega
 refine congrArg Value.bool<|dec_eq ?_
 rw[QM]
 exact⟨fun h=>⟨i1,by omega,by omega⟩,fun h=>by have:=h.2;omega⟩
theorem Xc(w:World)(s:qO)(b:yLI){ab:yOA}{cb:Nat}{Fb:yLN}(hs:jI w bs os (yS s qU qR xC xx))(xh:zP w xY qU qR s.qA)(xI:zP w zX xC xx s.qB)(hb:zP w Fb ab cb b):Calls Tryz.prog 89 #[pp bs os,Sv ab b.length cb] w (Ret (fun v w'=>v=Bv (dec<|vW s.qN b)) w):=by
 refine en func89 ntmps89 ?_
 have H:=((((St.start w).arg hb).arg xI).arg xh).argAt hs
 clear hs xh xI hb
 refine zcr<|sp (Bv false)<|zjc<|sq 1<|sw<|oq (l01Bag_ok _ b (H.get 3 rfl).1) H fun w1 H=>sp (Bv<|dec<|VM b) ?_
 cases h3:(dec (VM b))
 ·replace h3:=vF h3
  refine xO (zR 8 7)<|sp (Bv false)<|sp (Bv false)<|zjr<|rH1 (Bv false) H ?_
  rw[xE<|fun h=>‹¬VM b› h.1]
 replace h3:=Qz h3
 refine qJ 7 rfl rfl<|sq 1<|qJ 7 rfl rfl<|oN rfl<|qJ 7 rfl rfl<|sq 1<|qJ 7 rfl rfl<|sq 1<|qJ 7 rfl rfl<|oF rfl<|qJ 7 rfl rfl<|oL rfl (H.zG 0 rfl 0 rfl)<|qJ 7 rfl rfl<|sq 3<|zjr<|rH1 (Bv ((b.length:Int) == s.qN)) H<|congrArg Value.bool<|dec_eq ?_
 rw[beq_iff_eq]
 exact⟨fun h=>⟨‹_›,h⟩,fun h=>h.2⟩
theorem l02Frame_ok(w:World)(s:qO)(hs:jI w bs os (yS s qU qR xC xx))(xh:zP w xY qU qR s.qA)(xI:zP w zX xC xx s.qB):Calls Tryz.prog 87 #[pp bs os] w (Ret (fun v w'=>v=Bv (dec<|jZ s)) w):=by
 refine en func87 ntmps87 ?_
 have H:=(((St.start w).arg xI).arg xh).argAt hs
 have vS:=qM xh
 clear hs xh xI
 refine zcr<|sp (Bv false)<|zjcc<|sq 2<|oF rfl<|oL rfl (H.zG 0 rfl 0 rfl)<|sw<|oq (Vd w s.qN 1 8) H fun w1 H=>sp (Bv (!(inR s.qN 1 8)))<|sp (Bv (!(inR s.qN 1 8))) ?_
 cases h3:(!(inR s.qN 1 8))
 ·replace h3:=xf h3
  replace h3:=QM.1 h3
  refine qJ 10 rfl rfl<|sq 1<|qJ 10 rfl rfl<|sq 1<|qJ 10 rfl rfl<|oF rfl<|qJ 10 rfl rfl<|oL rfl (H.zG 0 rfl 1 rfl)<|qJ 10 rfl rfl<|oN rfl<|qJ 10 rfl rfl<|sw<|oq (Vd w1 s.qA.length 1 6) H fun w4 H=>qJ 10 rfl rfl<|sp (Bv (!(inR s.qA.length 1 6)))<|sp (Bv (!(inR s.qA.length 1 6)))<|sp (Bv (!(inR s.qA.length 1 6))) ?_
  cases h6:(!(inR s.qA.length 1 6))
  ·replace h6:=xf h6
   replace h6:=QM.1 h6
   refine qJ 19 rfl rfl<|sq 1<|qJ 19 rfl rfl<|sq 1<|qJ 19 rfl rfl<|oF rfl<|qJ 19 rfl rfl<|oL rfl (H.zG 0 rfl 1 rfl)<|qJ 19 rfl rfl ?_
   obtain⟨b7,o8,rfl⟩:=H.addr 1 rfl qf
   refine oI rfl rfl<|qJ 19 rfl rfl<|oL rfl (H.vG 1 rfl 0 qf)<|qJ 19 rfl rfl<|sp (Bv ((s.qA[0]! :Int) != (-1)))<|sp (Bv ((s.qA[0]! :Int) != (-1)))<|zjn<|vg ((s.qA[0]! :Int) != (-1)) rfl (fun h9=>?_)<|fun h9=>?_
   ·replace h9:=bne_iff_ne.1 h9
    refine zcr<|sp (Bv false)<|zjr<|t_r<|rH1 (Bv false) H ?_
    rw[xE (fun h=>by obtain⟨h1,h2,h3,h4⟩:=h;omega)]
   replace h9:=xK h9
   refine qW<|t_n<|zcc<|sp (yI 1)<|zjn<|xe<|zT ((fun Z0 Z1 Z2=>fun m' ρ sI=>∃(xP:Env) (k:Nat),ρ=upd (upd xP 0<|pp bs os) 3 (yI k)/\(k<=s.qA.length)/\(1<=k)/\(FrameTo s k)/\m'=s.qA.length-k/\St w sI [] [Z0,Z1,Z2]) _ _ _) (s.qA.length-1) ⟨_,1,uE2,qf,qf,(by exact FrameTo.one s),rfl,H⟩ ?_
   clear H
   rintro m' ρ BF ⟨xP,k,rfl,i0,i2,i1,rfl,H⟩
   refine zcc<|sp (yI k)<|sq 2<|oF rfl<|oL rfl (H.zG 0 rfl 1 rfl)<|oN rfl<|sq 1<|zjn<|cD rfl (fun lw=>?_)<|fun lw=>?_
   ·refine qW (t_n<|xM<|xe<|zcr<|sq 2<|oF rfl<|oL rfl (H.zG 0 rfl 1 rfl)<|sp (yI k)<|oI rfl rfl<|oL rfl (H.vG 1 rfl k qf)<|sp (yI k)<|sw<|o_sub k 1 rfl rfl qf<|sw<|oq (Vd BF (s.qA[k]!) 0<|k-1) H fun Dv H=>sq 1<|zjn<|vg _ rfl (fun rV=>?_)<|fun rV=>?_)
    ·replace rV:=xq rV
     replace rV:=QZ rV
     refine zcr<|sp (Bv false)<|zjr<|zr5<|rH1 (Bv false) H ?_
     rw[xE (fun h=>by obtain⟨h1,h2,h3,h4⟩:=h;(have:=h4 k qf qf;omega))]
    replace rV:=xf rV
    replace rV:=QM.1 rV
    refine qW<|b_n<|t_n<|xX<|sp (yI k)<|sw<|zS k 1 rfl rfl qf<|sq 1<|xU<|xu (m':=s.qA.length-(k+1)) qf ⟨_,k+1,uE2,?_,?_,?_,rfl,H⟩
    ·omega
    ·omega
    ·exact i1.succ ‹_›
   refine zx4<|zcr<|sp (Bv true)<|zjr<|rH1 (Bv true) H ?_
   obtain rfl:k=s.qA.length:=by omega
   rw[Qx ⟨by omega,by omega,by omega,i1⟩]
  replace h6:=xq h6
  replace h6:=QZ h6
  refine xO (zR 20 7)<|sp (Bv true)<|zjn<|cTr rfl<|zcr<|sp (Bv false)<|zjr<|t_r<|rH1 (Bv false) H ?_
  rw[xE (fun h=>by obtain⟨h1,h2,h3,h4⟩:=h;omega)]
 replace h3:=xq h3
 replace h3:=QZ h3
 refine xO (zR 11 7)<|sp (Bv true)<|sp (Bv true)<|xO (zR 20 7)<|sp (Bv true)<|zjn<|cTr rfl<|zcr<|sp (Bv false)<|zjr<|t_r<|rH1 (Bv false) H ?_
 rw[xE (fun h=>by obtain⟨h1,h2,h3,h4⟩:=h;omega)]
theorem l02In_ok(w:World)(s:qO)(c:Int)(DJ:Int)(hs:jI w bs os (yS s qU qR xC xx))(xh:zP w xY qU qR s.qA)(xI:zP w zX xC xx s.qB)(p0:jZ s)(p1:CellIn s c):Calls Tryz.prog 131 #[pp bs os,yI c,yI DJ] w (Ret (fun v w'=>v=Bv (dec<|Lies s.qA DJ c)) w):=by
 refine en func131 ntmps131 ?_
 have H:=(((St.start w).arg xI).arg xh).argAt hs
 have vS:=qM xh
 clear hs xh xI
 refine zcr<|sp (Bv false)<|zjn<|xM<|xe<|zT ((fun Z0 Z1 Z2=>fun m' ρ w1=>∃(xP:Env) (y:Int),ρ=upd (upd (upd xP 0<|pp bs os) 1<|yI y) 2 (yI DJ)/\(0<=y/\y<=(s.qA.length:Int)-1)/\(Lies s.qA DJ c<->Lies s.qA DJ y)/\m'=y.toNat/\St w w1 [] [Z0,Z1,Z2]) _ _ _) (c.toNat) ⟨_,c,uE3,(by exact p1),(by exact Iff.rfl),rfl,H⟩ ?_
 clear H
 rintro m' ρ w2 ⟨xP,y,rfl,i0,i1,rfl,H⟩
 have up:=fun h=>p0.up (c:=y) h i0.2
 refine zcc<|sp (yI y)<|sp (Bv<|decide ((y:Int)>0))<|zjn<|cD rfl (fun h3=>?_)<|fun h3=>?_
 ·refine qW (t_n<|xe<|zcr<|sq 2<|oF rfl<|oL rfl (H.zG 0 rfl 1 rfl)<|sp (yI y) ?_)
  obtain⟨b4,o5,rfl⟩:=H.addr 1 rfl qf
  refine oI rfl rfl<|oL rfl (H.elemInt 1 rfl y qf qf)<|sq 1<|zjc<|sq 3<|zjn<|cE rfl (fun h6=>?_)<|fun h6=>?_
  ·refine zcr (sp (Bv true)<|zjr<|b_r<|t_r<|b_r<|t_r<|rH1 (Bv true) H ?_)
   rw[Qx<|i1.2<|.here qf ‹_›]
  refine qW<|b_n ?_
  have up1:=up qf
  refine xu (m':=(s.qA[y.toNat]!).toNat) qf ⟨_,(s.qA[y.toNat]!),uE3,?_,?_,rfl,H⟩
  ·have:=up qf;omega
  ·exact i1.trans<|lies_iff.trans ⟨fun h=>h.2.resolve_left ‹_›,fun h=>⟨by omega,.inr h⟩⟩
 refine zx4<|zcr<|sp (Bv false)<|zjr<|rH1 (Bv false) H ?_
 rw[xE (fun h=>by have:=(lies_iff.1<|i1.1 h).1;omega)]
theorem l02Rule_ok(w:World)(s:qO)(r:yu)(hs:jI w bs os (yS s qU qR xC xx))(xh:zP w xY qU qR s.qA)(xI:zP w zX xC xx s.qB)(hr:jI w br or [yI r.qZ,yI r.yJ,Sv g0 r.zU.length gj,Sv hX r.jJ.length gc,Sv hP r.jK.length gm,Sv gS r.jF.length ga,Sv mf r.QL.length lp,Sv Vt r.xw.length Vs,Bv r.jw])(gQ:zP w AO g0 gj r.zU)(iS:zP w AC hX gc r.jJ)(jx:zP w Br hP gm r.jK)(jN:zP w AK gS ga r.jF)(my:zP w HX mf lp r.QL)(fw:zP w AP Vt Vs r.xw)(p0:jZ s):Calls Tryz.prog 88 #[pp bs os,pp br or] w (Ret (fun v w'=>v=Bv (dec<|RuleOk s r)) w):=by
 refine en func88 ntmps88 ?_
 have H:=((((((((((St.start w).arg fw).arg my).arg jN).arg jx).arg iS).arg gQ).argAt hr).arg xI).arg xh).argAt hs
 have vS:=qM xh
 have Ax:=qM fw
 clear hs xh xI hr gQ iS jx jN my fw
 refine zcr<|sp (Bv false)<|zjn<|xM<|xM<|QE rfl H fun H=>rtl 0 H ?_
 refine rtl 1 H ?_
 refine tF 2 rfl rfl H ?_
 refine tL 3 rfl rfl (fun _ h=>h.zG 3 rfl 0 rfl) H ?_
 refine rtl 4 H ?_
 refine rtl 5 H ?_
 refine tF 6 rfl rfl H ?_
 refine tL 7 rfl rfl (fun _ h=>h.zG 0 rfl 1 rfl) H ?_
 refine tN 8 rfl rfl H ?_
 refine rt 9 _ (y_sub s.qA.length 1 rfl rfl qf) H ?_
 refine ro 10 rfl<|oq (Vd w.drew r.qZ 0<|s.qA.length-1) H fun w2 H=>⟨H,(rtp 11 (Bv (!(inR r.qZ 0<|s.qA.length-1))) H ?_)⟩
 refine rtp 12 (Bv (!(inR r.qZ 0<|s.qA.length-1))) H ?_
 cases h4:(!(inR r.qZ 0 (s.qA.length-1)))
 ·replace h4:=xf h4
  replace h4:=QM.1 h4
  refine rgl 13 19 H ?_
  refine rgl 14 19 H ?_
  refine gF 15 rfl rfl H ?_
  refine gL 16 rfl rfl (fun _ h=>h.zG 3 rfl 1 rfl) H ?_
  refine jC [17] qh qm<|Xj rfl (e:=19) rfl rfl (oq (Vd w2 r.yJ 0 9) H fun w5 H=>⟨H,(rgp 18 (Bv (!(inR r.yJ 0 9))) 19 H ?_)⟩) jD
  refine rtp 19 (Bv (!(inR r.yJ 0 9))) H ?_
  refine rtp 20 (Bv (!(inR r.yJ 0 9))) H ?_
  cases h7:(!(inR r.yJ 0 9))
  ·replace h7:=xf h7
   replace h7:=QM.1 h7
   refine rgl 21 27 H ?_
   refine rgl 22 27 H ?_
   refine gF 23 rfl rfl H ?_
   refine gL 24 rfl rfl (fun _ h=>h.zG 3 rfl 8 rfl) H ?_
   refine rgp 25 (Bv r.jw) 27 H ?_
   cases h8:(r.jw)
   ·rw[h8] at H
    refine zZ (zR 26 5) 5 (H)<|rgp 31 (Bv false) 27 H ?_
    refine rtp 32 (Bv false) H ?_
    refine rtp 33 (Bv false) H ?_
    refine rgl 34 40 H ?_
    refine rgl 35 40 H ?_
    refine gF 36 rfl rfl H ?_
    refine gL 37 rfl rfl (fun _ h=>h.zG 3 rfl 7 rfl) H ?_
    refine gN 38 rfl rfl H ?_
    refine rgp 39 (Bv<|decide ((r.xw.length:Int)>3)) 40 H ?_
    refine rtp 40 (Bv<|decide ((r.xw.length:Int)>3)) H ?_
    refine xy qh<|t_n<|cD rfl (fun h9=>?_)<|fun h9=>?_
    ·refine zcr (sp (Bv false)<|zjr<|t_r<|rH1 (Bv false) H ?_)
     rw[xE (fun h=>by obtain⟨h1,h2,h3,h4,h5,h6,h7,h8,h9,dD,cZ⟩:=h;omega)]
    refine qW<|t_n<|zcc<|sq 3<|oF rfl<|oL rfl (H.zG 3 rfl 2 rfl)<|sw<|oq (Xc _ s r.zU (qH (H.get 0 rfl) 0 3) (H.get 1 rfl).1 (H.get 2 rfl).1 (H.get 4 rfl).1) H fun sI H=>sp (Bv (!(dec<|vW s.qN r.zU)))<|sp (Bv (!(dec<|vW s.qN r.zU))) ?_
    cases lw:(!(dec (vW s.qN r.zU)))
    ·replace lw:=xf lw
     replace lw:=Qz lw
     refine qJ 55 rfl rfl<|sq 1<|qJ 55 rfl rfl<|sq 1<|qJ 55 rfl rfl<|sq 1<|qJ 55 rfl rfl<|oF rfl<|qJ 55 rfl rfl<|oL rfl (H.zG 3 rfl 3 rfl)<|qJ 55 rfl rfl<|sw<|oq (Xc _ s r.jJ (qH (H.get 0 rfl) 0 3) (H.get 1 rfl).1 (H.get 2 rfl).1 (H.get 5 rfl).1) H fun Dv H=>qJ 55 rfl rfl<|sp (Bv (!(dec<|vW s.qN r.jJ)))<|sp (Bv (!(dec<|vW s.qN r.jJ)))<|sp (Bv (!(dec<|vW s.qN r.jJ))) ?_
     cases rV:(!(dec (vW s.qN r.jJ)))
     ·replace rV:=xf rV
      replace rV:=Qz rV
      refine qJ 64 rfl rfl<|sq 1<|qJ 64 rfl rfl<|sq 1<|qJ 64 rfl rfl<|sq 1<|qJ 64 rfl rfl<|oF rfl<|qJ 64 rfl rfl<|oL rfl (H.zG 3 rfl 4 rfl)<|qJ 64 rfl rfl<|sw<|oq (Xc _ s r.jK (qH (H.get 0 rfl) 0 3) (H.get 1 rfl).1 (H.get 2 rfl).1 (H.get 6 rfl).1) H fun If H=>qJ 64 rfl rfl<|sp (Bv (!(dec<|vW s.qN r.jK)))<|sp (Bv (!(dec<|vW s.qN r.jK)))<|sp (Bv (!(dec<|vW s.qN r.jK))) ?_
      cases lF:(!(dec (vW s.qN r.jK)))
      ·replace lF:=xf lF
       replace lF:=Qz lF
       refine qJ 73 rfl rfl<|sq 1<|qJ 73 rfl rfl<|sq 1<|qJ 73 rfl rfl<|sq 1<|qJ 73 rfl rfl<|oF rfl<|qJ 73 rfl rfl<|oL rfl (H.zG 3 rfl 5 rfl)<|qJ 73 rfl rfl<|sw<|oq (Xc _ s r.jF (qH (H.get 0 rfl) 0 3) (H.get 1 rfl).1 (H.get 2 rfl).1 (H.get 7 rfl).1) H fun Kk H=>qJ 73 rfl rfl<|sp (Bv (!(dec<|vW s.qN r.jF)))<|sp (Bv (!(dec<|vW s.qN r.jF)))<|sp (Bv (!(dec<|vW s.qN r.jF))) ?_
       cases wO:(!(dec (vW s.qN r.jF)))
       ·replace wO:=xf wO
        replace wO:=Qz wO
        refine qJ 82 rfl rfl<|sq 1<|qJ 82 rfl rfl<|sq 1<|qJ 82 rfl rfl<|sq 1<|qJ 82 rfl rfl<|oF rfl<|qJ 82 rfl rfl<|oL rfl (H.zG 3 rfl 6 rfl)<|qJ 82 rfl rfl<|sw<|oq (Xc _ s r.QL (qH (H.get 0 rfl) 0 3) (H.get 1 rfl).1 (H.get 2 rfl).1 (H.get 8 rfl).1) H fun Ke H=>qJ 82 rfl rfl<|sp (Bv (!(dec<|vW s.qN r.QL)))<|sp (Bv (!(dec<|vW s.qN r.QL)))<|sp (Bv (!(dec<|vW s.qN r.QL))) ?_
        cases BH:(!(dec (vW s.qN r.QL)))
        ·replace BH:=xf BH
         replace BH:=Qz BH
         refine qJ 91 rfl rfl<|sq 1<|qJ 91 rfl rfl<|sq 1<|qJ 91 rfl rfl<|oF rfl<|qJ 91 rfl rfl<|oL rfl (H.zG 3 rfl 2 rfl)<|qJ 91 rfl rfl<|sw<|oq (l01Size_ok _ r.zU (H.get 4 rfl).1<|by exact vP ql) H fun D0 H=>qJ 91 rfl rfl<|sp (Bv ((VN r.zU:Int) == 0))<|sp (Bv ((VN r.zU:Int) == 0))<|zjn<|cE rfl (fun oz=>?_)<|fun oz=>?_
         ·refine zcr (sp (Bv false)<|zjr<|t_r<|rH1 (Bv false) H ?_)
          rw[xE (fun h=>by obtain⟨h1,h2,h3,h4,h5,h6,h7,h8,h9,dD,cZ⟩:=h;contradiction)]
         refine qW<|t_n<|zcc<|sp (yI 0)<|zjn<|xe<|zT ((fun Z0 Z1 Z2 Z3 Z4 Z5 Z6 Z7 Z8 Z9=>fun m' ρ I8=>∃(xP:Env) (k:Nat),ρ=upd (upd (upd xP 0<|pp bs os) 1<|pp br or) 5 (yI k)/\(k<=r.xw.length)/\(IntosTo s r k)/\m'=r.xw.length-k/\St w I8 [] [Z0,Z1,Z2,Z3,Z4,Z5,Z6,Z7,Z8,Z9]) _ _ _ _ _ _ _ _ _ _) (r.xw.length-0) ⟨_,0,uE3,qf,qx,rfl,H⟩ ?_
         clear H
         rintro m' ρ JJ ⟨xP,k,rfl,i0,i1,rfl,H⟩
         refine zcc<|sp (yI k)<|sq 2<|oF rfl<|oL rfl (H.zG 3 rfl 7 rfl)<|oN rfl<|sq 1<|zjn<|cD rfl (fun pn=>?_)<|fun pn=>?_
         ·refine qW (t_n<|xM<|xe<|zcr<|sq 2<|oF rfl<|oL rfl (H.zG 3 rfl 7 rfl)<|sp (yI k) ?_)
          obtain⟨b31,o32,rfl⟩:=H.addr 9 rfl qf
          obtain⟨BB,A1,RU,H⟩:=H.Qw 9 rfl k k qf qf qf
          refine oI rfl rfl<|sq 1<|zjn<|xM<|xM<|QE rfl H fun H=>rtl 0 H ?_
          refine rtl 1 H ?_
          refine tF 2 rfl rfl H ?_
          refine tL 3 rfl rfl (fun _ h=>h.zG 1 rfl 0 rfl) H ?_
          refine rtl 4 H ?_
          refine rtl 5 H ?_
          refine tF 6 rfl rfl H ?_
          refine tL 7 rfl rfl (fun _ h=>h.zG 2 rfl 1 rfl) H ?_
          refine tN 8 rfl rfl H ?_
          refine rt 9 _ (y_sub s.qA.length 1 rfl rfl qf) H ?_
          refine ro 10 rfl<|oq (Vd JJ.drew ((r.xw[k]!).qZ) 0<|s.qA.length-1) H fun Na H=>⟨H,(rtp 11 (Bv (!(inR ((r.xw[k]!).qZ) 0<|s.qA.length-1))) H ?_)⟩
          refine rtp 12 (Bv (!(inR ((r.xw[k]!).qZ) 0<|s.qA.length-1))) H ?_
          cases Az:(!(inR ((r.xw[k]!).qZ) 0 (s.qA.length-1)))
          ·replace Az:=xf Az
           replace Az:=QM.1 Az
           refine rgl 13 126 H ?_
           refine rgl 14 126 H ?_
           refine rgl 15 126 H ?_
           refine gF 16 rfl rfl H ?_
           refine gL 17 rfl rfl (fun _ h=>h.zG 1 rfl 0 rfl) H ?_
           refine rgl 18 126 H ?_
           refine rgl 19 126 H ?_
           refine gF 20 rfl rfl H ?_
           refine gL 21 rfl rfl (fun _ h=>h.zG 5 rfl 0 rfl) H ?_
           refine jC [22] qh qm<|Xj rfl (e:=126) rfl rfl (oq (l02In_ok _ s ((r.xw[k]!).qZ) r.qZ (qH (H.get 2 rfl) 0 3) (H.get 3 rfl).1 (H.get 4 rfl).1 ql ql) H fun R0 H=>⟨H,(rgp 23 (Bv (!(dec<|Lies s.qA r.qZ ((r.xw[k]!).qZ)))) 126 H ?_)⟩) jD
           refine rtp 24 (Bv (!(dec<|Lies s.qA r.qZ ((r.xw[k]!).qZ)))) H ?_
           refine rtp 25 (Bv (!(dec<|Lies s.qA r.qZ ((r.xw[k]!).qZ)))) H ?_
           cases sG:(!(dec (Lies s.qA r.qZ ((r.xw[k]!).qZ))))
           ·replace sG:=xf sG
            replace sG:=Qz sG
            refine rgl 26 139 H ?_
            refine rgl 27 139 H ?_
            refine rgl 28 139 H ?_
            refine gF 29 rfl rfl H ?_
            refine gL 30 rfl rfl (fun _ h=>h.zG 1 rfl 1 rfl) H ?_
            refine jC [31] qh qm<|Xj rfl (e:=139) rfl rfl (oq (Xc _ s ((r.xw[k]!).Xa) (qH (H.get 2 rfl) 0 3) (H.get 3 rfl).1 (H.get 4 rfl).1 (H.get 0 rfl).1) H fun w41 H=>⟨H,(rgp 32 (Bv (!(dec<|vW s.qN ((r.xw[k]!).Xa)))) 139 H ?_)⟩) jD
            refine rtp 33 (Bv (!(dec<|vW s.qN ((r.xw[k]!).Xa)))) H ?_
            refine rtp 34 (Bv (!(dec<|vW s.qN ((r.xw[k]!).Xa)))) H ?_
            cases JB:(!(dec (vW s.qN ((r.xw[k]!).Xa))))
            ·replace JB:=xf JB
             replace JB:=Qz JB
             refine rgl 35 148 H ?_
             refine rgl 36 148 H ?_
             refine gF 37 rfl rfl H ?_
             refine gL 38 rfl rfl (fun _ h=>h.zG 1 rfl 1 rfl) H ?_
             refine jC [39] qh qm<|Xj rfl (e:=148) rfl rfl (oq (l01Size_ok _ ((r.xw[k]!).Xa) (H.get 0 rfl).1<|by exact vP ql) H fun Pr H=>⟨H,(rgp 40 (Bv ((VN ((r.xw[k]!).Xa):Int) == 0)) 148 H ?_)⟩) jD
             refine rtp 41 (Bv ((VN ((r.xw[k]!).Xa):Int) == 0)) H ?_
             refine xy qh<|t_n<|cE rfl (fun Sc=>?_)<|fun Sc=>?_
             ·refine zcr (sp (Bv false)<|zjr<|t_r<|zr5<|rH1 (Bv false) H ?_)
              rw[xE (fun h=>by obtain⟨h1,h2,h3,h4,h5,h6,h7,h8,h9,dD,cZ⟩:=h;(obtain⟨q1,q2,q3,q4,q5⟩:=cZ k qf;contradiction))]
             refine qW<|t_n<|xM<|QE rfl H fun H=>rtp 0 (yI k) H ?_
             refine rtp 1 (Bv<|decide ((k:Int)>0)) H ?_
             refine rtp 2 (Bv<|decide ((k:Int)>0)) H ?_
             cases EE:(decide ((k:Int)>0))
             ·replace EE:=of_decide_eq_false EE
              refine zZ (zR 3 14) 14 (H)<|rtp 17 (Bv false) H ?_
              refine xy qh<|t_n<|cFr rfl<|qW<|b_n<|t_n<|xX<|sp (yI k)<|sw<|zS k 1 rfl rfl qf<|sq 1<|xU<|xu (m':=r.xw.length-(k+1)) qf ⟨_,k+1,uE3,?_,?_,rfl,H.sel _ (.refl _) _ qm⟩
              ·omega
              ·exact i1.succ ⟨‹_›,‹_›,‹_›,‹_›,fun hk=>by omega⟩
             replace EE:=of_decide_eq_true EE
             refine rgl 3 158 H ?_
             refine rgl 4 158 H ?_
             refine gF 5 rfl rfl H ?_
             refine gL 6 rfl rfl (fun _ h=>h.zG 5 rfl 7 rfl) H ?_
             refine rgp 7 (yI k) 158 H ?_
             refine rg 8 _ 158 (y_sub k 1 rfl rfl qf) H ?_
             obtain⟨aqL,arb,ary,H⟩:=H.Qw 11 rfl (k-1) (k-1) qf qf qf
             refine gI 9 rfl rfl rfl (H.sel _ (.refl _) _<|fun _ h=>List.mem_cons_of_mem _<|List.mem_cons_of_mem _<|h) ?_
             refine gF 10 rfl rfl (H.sel _ (.refl _) _<|fun _ h=>List.mem_cons_of_mem _<|List.mem_cons_of_mem _<|h) ?_
             refine rgl 12 158 (H.sel _ (.refl _) _<|fun _ h=>List.mem_cons_of_mem _<|List.mem_cons_of_mem _<|h) ?_
             refine rgl 13 158 (H.sel _ (.refl _) _<|fun _ h=>List.mem_cons_of_mem _<|List.mem_cons_of_mem _<|h) ?_
             refine gF 14 rfl rfl (H.sel _ (.refl _) _<|fun _ h=>List.mem_cons_of_mem _<|List.mem_cons_of_mem _<|h) ?_
             refine gL 15 rfl rfl (fun _ h=>h.zG 1 rfl 0 rfl) (H.sel _ (.refl _) _<|fun _ h=>List.mem_cons_of_mem _<|List.mem_cons_of_mem _<|h) ?_
             refine jC [11] qh qm<|Xj rfl (e:=158) rfl rfl (zJ (yI ((r.xw[k-1]!).qZ)) isAgg2 rfl (H.zG 1 rfl 0 rfl)<|⟨H.dF 2,(rgl 16 158 (H.sel _ (.refl _) _<|fun _ h=>List.mem_cons_of_mem _<|List.mem_cons_of_mem _<|h) ?_)⟩) jD
             refine rtl 17 (H.sel _ (.refl _) _<|fun _ h=>List.mem_cons_of_mem _<|List.mem_cons_of_mem _<|h) ?_
             refine xy qh<|t_n<|cD rfl (fun h50=>?_)<|fun h50=>?_
             ·refine zcr (sp (Bv false)<|zjr<|zr5<|rH1 (Bv false) H ?_)
              rw[xE (fun h=>by obtain⟨h1,h2,h3,h4,h5,h6,h7,h8,h9,dD,cZ⟩:=h;(obtain⟨q1,q2,q3,q4,q5⟩:=cZ k qf;omega))]
             refine qW<|b_n<|t_n<|xX<|sp (yI k)<|sw<|zS k 1 rfl rfl qf<|sq 1<|xU<|xu (m':=r.xw.length-(k+1)) qf ⟨_,k+1,uE3,?_,?_,rfl,H.sel _ (.refl _) _ qm⟩
             ·omega
             ·exact i1.succ ⟨‹_›,‹_›,‹_›,‹_›,fun hk=>by omega⟩
            replace JB:=xq JB
            replace JB:=vF JB
            refine zZ (zR 35 6) 6 (H)<|rtp 41 (Bv true) H ?_
            refine xy qh<|t_n<|cTr rfl<|zcr<|sp (Bv false)<|zjr<|t_r<|zr5<|rH1 (Bv false) H ?_
            rw[xE (fun h=>by obtain⟨h1,h2,h3,h4,h5,h6,h7,h8,h9,dD,cZ⟩:=h;(obtain⟨q1,q2,q3,q4,q5⟩:=cZ k qf;contradiction))]
           replace sG:=xq sG
           replace sG:=vF sG
           refine zZ (zR 26 7) 7 (H)<|rtp 33 (Bv true) H ?_
           refine rtp 34 (Bv true) H ?_
           refine zZ (zR 35 6) 6 (H)<|rtp 41 (Bv true) H ?_
           refine xy qh<|t_n<|cTr rfl<|zcr<|sp (Bv false)<|zjr<|t_r<|zr5<|rH1 (Bv false) H ?_
           rw[xE (fun h=>by obtain⟨h1,h2,h3,h4,h5,h6,h7,h8,h9,dD,cZ⟩:=h;(obtain⟨q1,q2,q3,q4,q5⟩:=cZ k qf;contradiction))]
          replace Az:=xq Az
          replace Az:=QZ Az
          refine zZ (zR 13 11) 11 (H)<|rtp 24 (Bv true) H ?_
          refine rtp 25 (Bv true) H ?_
          refine zZ (zR 26 7) 7 (H)<|rtp 33 (Bv true) H ?_
          refine rtp 34 (Bv true) H ?_
          refine zZ (zR 35 6) 6 (H)<|rtp 41 (Bv true) H ?_
          refine xy qh<|t_n<|cTr rfl<|zcr<|sp (Bv false)<|zjr<|t_r<|zr5<|rH1 (Bv false) H ?_
          rw[xE (fun h=>by obtain⟨h1,h2,h3,h4,h5,h6,h7,h8,h9,dD,cZ⟩:=h;(obtain⟨q1,q2,q3,q4,q5⟩:=cZ k qf;contradiction))]
         refine zx4<|zcr<|sp (Bv true)<|zjr<|rH1 (Bv true) H ?_
         obtain rfl:k=r.xw.length:=by omega
         rw[Qx ⟨by assumption,by omega,by simp_all,by omega,by assumption,by assumption,by assumption,by assumption,by assumption,by assumption,i1⟩]
        replace BH:=xq BH
        replace BH:=vF BH
        refine xO (zR 92 6)<|sp (Bv true)<|zjn<|cTr rfl<|zcr<|sp (Bv false)<|zjr<|t_r<|rH1 (Bv false) H ?_
        rw[xE (fun h=>by obtain⟨h1,h2,h3,h4,h5,h6,h7,h8,h9,dD,cZ⟩:=h;contradiction)]
       replace wO:=xq wO
       replace wO:=vF wO
       refine xO (zR 83 7)<|sp (Bv true)<|sp (Bv true)<|xO (zR 92 6)<|sp (Bv true)<|zjn<|cTr rfl<|zcr<|sp (Bv false)<|zjr<|t_r<|rH1 (Bv false) H ?_
       rw[xE (fun h=>by obtain⟨h1,h2,h3,h4,h5,h6,h7,h8,h9,dD,cZ⟩:=h;contradiction)]
      replace lF:=xq lF
      replace lF:=vF lF
      refine xO (zR 74 7)<|sp (Bv true)<|sp (Bv true)<|xO (zR 83 7)<|sp (Bv true)<|sp (Bv true)<|xO (zR 92 6)<|sp (Bv true)<|zjn<|cTr rfl<|zcr<|sp (Bv false)<|zjr<|t_r<|rH1 (Bv false) H ?_
      rw[xE (fun h=>by obtain⟨h1,h2,h3,h4,h5,h6,h7,h8,h9,dD,cZ⟩:=h;contradiction)]
     replace rV:=xq rV
     replace rV:=vF rV
     refine xO (zR 65 7)<|sp (Bv true)<|sp (Bv true)<|xO (zR 74 7)<|sp (Bv true)<|sp (Bv true)<|xO (zR 83 7)<|sp (Bv true)<|sp (Bv true)<|xO (zR 92 6)<|sp (Bv true)<|zjn<|cTr rfl<|zcr<|sp (Bv false)<|zjr<|t_r<|rH1 (Bv false) H ?_
     rw[xE (fun h=>by obtain⟨h1,h2,h3,h4,h5,h6,h7,h8,h9,dD,cZ⟩:=h;contradiction)]
    replace lw:=xq lw
    replace lw:=vF lw
    refine xO (zR 56 7)<|sp (Bv true)<|sp (Bv true)<|xO (zR 65 7)<|sp (Bv true)<|sp (Bv true)<|xO (zR 74 7)<|sp (Bv true)<|sp (Bv true)<|xO (zR 83 7)<|sp (Bv true)<|sp (Bv true)<|xO (zR 92 6)<|sp (Bv true)<|zjn<|cTr rfl<|zcr<|sp (Bv false)<|zjr<|t_r<|rH1 (Bv false) H ?_
    rw[xE (fun h=>by obtain⟨h1,h2,h3,h4,h5,h6,h7,h8,h9,dD,cZ⟩:=h;contradiction)]
   rw[h8] at H
   refine rgl 26 32 H ?_
   refine rgl 27 32 H ?_
   refine gF 28 rfl rfl H ?_
   refine gL 29 rfl rfl (fun _ h=>h.zG 3 rfl 0 rfl) H ?_
   refine rgp 30 (Bv ((r.qZ:Int) == 0)) 32 H ?_
   refine rgp 31 (Bv ((r.qZ:Int) == 0)) 27 H ?_
   refine rtp 32 (Bv ((r.qZ:Int) == 0)) H ?_
   refine rtp 33 (Bv ((r.qZ:Int) == 0)) H ?_
   cases Rf:((r.qZ:Int) == 0)
   ·replace Rf:=ne_of_beq_false Rf
    refine rgl 34 40 H ?_
    refine rgl 35 40 H ?_
    refine gF 36 rfl rfl H ?_
    refine gL 37 rfl rfl (fun _ h=>h.zG 3 rfl 7 rfl) H ?_
    refine gN 38 rfl rfl H ?_
    refine rgp 39 (Bv<|decide ((r.xw.length:Int)>3)) 40 H ?_
    refine rtp 40 (Bv<|decide ((r.xw.length:Int)>3)) H ?_
    refine xy qh<|t_n<|cD rfl (fun J2=>?_)<|fun J2=>?_
    ·refine zcr (sp (Bv false)<|zjr<|t_r<|rH1 (Bv false) H ?_)
     rw[xE (fun h=>by obtain⟨h1,h2,h3,h4,h5,h6,h7,h8,h9,dD,cZ⟩:=h;omega)]
    refine qW<|t_n<|zcc<|sq 3<|oF rfl<|oL rfl (H.zG 3 rfl 2 rfl)<|sw<|oq (Xc _ s r.zU (qH (H.get 0 rfl) 0 3) (H.get 1 rfl).1 (H.get 2 rfl).1 (H.get 4 rfl).1) H fun w53 H=>sp (Bv (!(dec<|vW s.qN r.zU)))<|sp (Bv (!(dec<|vW s.qN r.zU))) ?_
    cases Yj:(!(dec (vW s.qN r.zU)))
    ·replace Yj:=xf Yj
     replace Yj:=Qz Yj
     refine qJ 55 rfl rfl<|sq 1<|qJ 55 rfl rfl<|sq 1<|qJ 55 rfl rfl<|sq 1<|qJ 55 rfl rfl<|oF rfl<|qJ 55 rfl rfl<|oL rfl (H.zG 3 rfl 3 rfl)<|qJ 55 rfl rfl<|sw<|oq (Xc _ s r.jJ (qH (H.get 0 rfl) 0 3) (H.get 1 rfl).1 (H.get 2 rfl).1 (H.get 5 rfl).1) H fun w56 H=>qJ 55 rfl rfl<|sp (Bv (!(dec<|vW s.qN r.jJ)))<|sp (Bv (!(dec<|vW s.qN r.jJ)))<|sp (Bv (!(dec<|vW s.qN r.jJ))) ?_
     cases Ko:(!(dec (vW s.qN r.jJ)))
     ·replace Ko:=xf Ko
      replace Ko:=Qz Ko
      refine qJ 64 rfl rfl<|sq 1<|qJ 64 rfl rfl<|sq 1<|qJ 64 rfl rfl<|sq 1<|qJ 64 rfl rfl<|oF rfl<|qJ 64 rfl rfl<|oL rfl (H.zG 3 rfl 4 rfl)<|qJ 64 rfl rfl<|sw<|oq (Xc _ s r.jK (qH (H.get 0 rfl) 0 3) (H.get 1 rfl).1 (H.get 2 rfl).1 (H.get 6 rfl).1) H fun w59 H=>qJ 64 rfl rfl<|sp (Bv (!(dec<|vW s.qN r.jK)))<|sp (Bv (!(dec<|vW s.qN r.jK)))<|sp (Bv (!(dec<|vW s.qN r.jK))) ?_
      cases xp:(!(dec (vW s.qN r.jK)))
      ·replace xp:=xf xp
       replace xp:=Qz xp
       refine qJ 73 rfl rfl<|sq 1<|qJ 73 rfl rfl<|sq 1<|qJ 73 rfl rfl<|sq 1<|qJ 73 rfl rfl<|oF rfl<|qJ 73 rfl rfl<|oL rfl (H.zG 3 rfl 5 rfl)<|qJ 73 rfl rfl<|sw<|oq (Xc _ s r.jF (qH (H.get 0 rfl) 0 3) (H.get 1 rfl).1 (H.get 2 rfl).1 (H.get 7 rfl).1) H fun w62 H=>qJ 73 rfl rfl<|sp (Bv (!(dec<|vW s.qN r.jF)))<|sp (Bv (!(dec<|vW s.qN r.jF)))<|sp (Bv (!(dec<|vW s.qN r.jF))) ?_
       cases Wy:(!(dec (vW s.qN r.jF)))
       ·replace Wy:=xf Wy
        replace Wy:=Qz Wy
        refine qJ 82 rfl rfl<|sq 1<|qJ 82 rfl rfl<|sq 1<|qJ 82 rfl rfl<|sq 1<|qJ 82 rfl rfl<|oF rfl<|qJ 82 rfl rfl<|oL rfl (H.zG 3 rfl 6 rfl)<|qJ 82 rfl rfl<|sw<|oq (Xc _ s r.QL (qH (H.get 0 rfl) 0 3) (H.get 1 rfl).1 (H.get 2 rfl).1 (H.get 8 rfl).1) H fun w65 H=>qJ 82 rfl rfl<|sp (Bv (!(dec<|vW s.qN r.QL)))<|sp (Bv (!(dec<|vW s.qN r.QL)))<|sp (Bv (!(dec<|vW s.qN r.QL))) ?_
        cases Uw:(!(dec (vW s.qN r.QL)))
        ·replace Uw:=xf Uw
         replace Uw:=Qz Uw
         refine qJ 91 rfl rfl<|sq 1<|qJ 91 rfl rfl<|sq 1<|qJ 91 rfl rfl<|oF rfl<|qJ 91 rfl rfl<|oL rfl (H.zG 3 rfl 2 rfl)<|qJ 91 rfl rfl<|sw<|oq (l01Size_ok _ r.zU (H.get 4 rfl).1<|by exact vP ql) H fun w68 H=>qJ 91 rfl rfl<|sp (Bv ((VN r.zU:Int) == 0))<|sp (Bv ((VN r.zU:Int) == 0))<|zjn<|cE rfl (fun h70=>?_)<|fun h70=>?_
         ·refine zcr (sp (Bv false)<|zjr<|t_r<|rH1 (Bv false) H ?_)
          rw[xE (fun h=>by obtain⟨h1,h2,h3,h4,h5,h6,h7,h8,h9,dD,cZ⟩:=h;contradiction)]
         refine qW<|t_n<|zcc<|sp (yI 0)<|zjn<|xe<|zT ((fun Z0 Z1 Z2 Z3 Z4 Z5 Z6 Z7 Z8 Z9=>fun m' ρ w71=>∃(xP:Env) (k:Nat),ρ=upd (upd (upd xP 0<|pp bs os) 1<|pp br or) 5 (yI k)/\(k<=r.xw.length)/\(IntosTo s r k)/\m'=r.xw.length-k/\St w w71 [] [Z0,Z1,Z2,Z3,Z4,Z5,Z6,Z7,Z8,Z9]) _ _ _ _ _ _ _ _ _ _) (r.xw.length-0) ⟨_,0,uE3,qf,qx,rfl,H⟩ ?_
         clear H
         rintro m' ρ Kc ⟨xP,k,rfl,i0,i1,rfl,H⟩
         refine zcc<|sp (yI k)<|sq 2<|oF rfl<|oL rfl (H.zG 3 rfl 7 rfl)<|oN rfl<|sq 1<|zjn<|cD rfl (fun h73=>?_)<|fun h73=>?_
         ·refine qW (t_n<|xM<|xe<|zcr<|sq 2<|oF rfl<|oL rfl (H.zG 3 rfl 7 rfl)<|sp (yI k) ?_)
          obtain⟨b74,o75,rfl⟩:=H.addr 9 rfl qf
          obtain⟨ard,aqo,aqU,H⟩:=H.Qw 9 rfl k k qf qf qf
          refine oI rfl rfl<|sq 1<|zjn<|xM<|xM<|QE rfl H fun H=>rtl 0 H ?_
          refine rtl 1 H ?_
          refine tF 2 rfl rfl H ?_
          refine tL 3 rfl rfl (fun _ h=>h.zG 1 rfl 0 rfl) H ?_
          refine rtl 4 H ?_
          refine rtl 5 H ?_
          refine tF 6 rfl rfl H ?_
          refine tL 7 rfl rfl (fun _ h=>h.zG 2 rfl 1 rfl) H ?_
          refine tN 8 rfl rfl H ?_
          refine rt 9 _ (y_sub s.qA.length 1 rfl rfl qf) H ?_
          refine ro 10 rfl<|oq (Vd Kc.drew ((r.xw[k]!).qZ) 0<|s.qA.length-1) H fun w78 H=>⟨H,(rtp 11 (Bv (!(inR ((r.xw[k]!).qZ) 0<|s.qA.length-1))) H ?_)⟩
          refine rtp 12 (Bv (!(inR ((r.xw[k]!).qZ) 0<|s.qA.length-1))) H ?_
          cases VS:(!(inR ((r.xw[k]!).qZ) 0 (s.qA.length-1)))
          ·replace VS:=xf VS
           replace VS:=QM.1 VS
           refine rgl 13 126 H ?_
           refine rgl 14 126 H ?_
           refine rgl 15 126 H ?_
           refine gF 16 rfl rfl H ?_
           refine gL 17 rfl rfl (fun _ h=>h.zG 1 rfl 0 rfl) H ?_
           refine rgl 18 126 H ?_
           refine rgl 19 126 H ?_
           refine gF 20 rfl rfl H ?_
           refine gL 21 rfl rfl (fun _ h=>h.zG 5 rfl 0 rfl) H ?_
           refine jC [22] qh qm<|Xj rfl (e:=126) rfl rfl (oq (l02In_ok _ s ((r.xw[k]!).qZ) r.qZ (qH (H.get 2 rfl) 0 3) (H.get 3 rfl).1 (H.get 4 rfl).1 ql ql) H fun w81 H=>⟨H,(rgp 23 (Bv (!(dec<|Lies s.qA r.qZ ((r.xw[k]!).qZ)))) 126 H ?_)⟩) jD
           refine rtp 24 (Bv (!(dec<|Lies s.qA r.qZ ((r.xw[k]!).qZ)))) H ?_
           refine rtp 25 (Bv (!(dec<|Lies s.qA r.qZ ((r.xw[k]!).qZ)))) H ?_
           cases wM:(!(dec (Lies s.qA r.qZ ((r.xw[k]!).qZ))))
           ·replace wM:=xf wM
            replace wM:=Qz wM
            refine rgl 26 139 H ?_
            refine rgl 27 139 H ?_
            refine rgl 28 139 H ?_
            refine gF 29 rfl rfl H ?_
            refine gL 30 rfl rfl (fun _ h=>h.zG 1 rfl 1 rfl) H ?_
            refine jC [31] qh qm<|Xj rfl (e:=139) rfl rfl (oq (Xc _ s ((r.xw[k]!).Xa) (qH (H.get 2 rfl) 0 3) (H.get 3 rfl).1 (H.get 4 rfl).1 (H.get 0 rfl).1) H fun w84 H=>⟨H,(rgp 32 (Bv (!(dec<|vW s.qN ((r.xw[k]!).Xa)))) 139 H ?_)⟩) jD
            refine rtp 33 (Bv (!(dec<|vW s.qN ((r.xw[k]!).Xa)))) H ?_
            refine rtp 34 (Bv (!(dec<|vW s.qN ((r.xw[k]!).Xa)))) H ?_
            cases Cr:(!(dec (vW s.qN ((r.xw[k]!).Xa))))
            ·replace Cr:=xf Cr
             replace Cr:=Qz Cr
             refine rgl 35 148 H ?_
             refine rgl 36 148 H ?_
             refine gF 37 rfl rfl H ?_
             refine gL 38 rfl rfl (fun _ h=>h.zG 1 rfl 1 rfl) H ?_
             refine jC [39] qh qm<|Xj rfl (e:=148) rfl rfl (oq (l01Size_ok _ ((r.xw[k]!).Xa) (H.get 0 rfl).1<|by exact vP ql) H fun w87 H=>⟨H,(rgp 40 (Bv ((VN ((r.xw[k]!).Xa):Int) == 0)) 148 H ?_)⟩) jD
             refine rtp 41 (Bv ((VN ((r.xw[k]!).Xa):Int) == 0)) H ?_
             refine xy qh<|t_n<|cE rfl (fun h89=>?_)<|fun h89=>?_
             ·refine zcr (sp (Bv false)<|zjr<|t_r<|zr5<|rH1 (Bv false) H ?_)
              rw[xE (fun h=>by obtain⟨h1,h2,h3,h4,h5,h6,h7,h8,h9,dD,cZ⟩:=h;(obtain⟨q1,q2,q3,q4,q5⟩:=cZ k qf;contradiction))]
             refine qW<|t_n<|xM<|QE rfl H fun H=>rtp 0 (yI k) H ?_
             refine rtp 1 (Bv<|decide ((k:Int)>0)) H ?_
             refine rtp 2 (Bv<|decide ((k:Int)>0)) H ?_
             cases h91:(decide ((k:Int)>0))
             ·replace h91:=of_decide_eq_false h91
              refine zZ (zR 3 14) 14 (H)<|rtp 17 (Bv false) H ?_
              refine xy qh<|t_n<|cFr rfl<|qW<|b_n<|t_n<|xX<|sp (yI k)<|sw<|zS k 1 rfl rfl qf<|sq 1<|xU<|xu (m':=r.xw.length-(k+1)) qf ⟨_,k+1,uE3,?_,?_,rfl,H.sel _ (.refl _) _ qm⟩
              ·omega
              ·exact i1.succ ⟨‹_›,‹_›,‹_›,‹_›,fun hk=>by omega⟩
             replace h91:=of_decide_eq_true h91
             refine rgl 3 158 H ?_
             refine rgl 4 158 H ?_
             refine gF 5 rfl rfl H ?_
             refine gL 6 rfl rfl (fun _ h=>h.zG 5 rfl 7 rfl) H ?_
             refine rgp 7 (yI k) 158 H ?_
             refine rg 8 _ 158 (y_sub k 1 rfl rfl qf) H ?_
             obtain⟨tn,tg,Re,H⟩:=H.Qw 11 rfl (k-1) (k-1) qf qf qf
             refine gI 9 rfl rfl rfl (H.sel _ (.refl _) _<|fun _ h=>List.mem_cons_of_mem _<|List.mem_cons_of_mem _<|h) ?_
             refine gF 10 rfl rfl (H.sel _ (.refl _) _<|fun _ h=>List.mem_cons_of_mem _<|List.mem_cons_of_mem _<|h) ?_
             refine rgl 12 158 (H.sel _ (.refl _) _<|fun _ h=>List.mem_cons_of_mem _<|List.mem_cons_of_mem _<|h) ?_
             refine rgl 13 158 (H.sel _ (.refl _) _<|fun _ h=>List.mem_cons_of_mem _<|List.mem_cons_of_mem _<|h) ?_
             refine gF 14 rfl rfl (H.sel _ (.refl _) _<|fun _ h=>List.mem_cons_of_mem _<|List.mem_cons_of_mem _<|h) ?_
             refine gL 15 rfl rfl (fun _ h=>h.zG 1 rfl 0 rfl) (H.sel _ (.refl _) _<|fun _ h=>List.mem_cons_of_mem _<|List.mem_cons_of_mem _<|h) ?_
             refine jC [11] qh qm<|Xj rfl (e:=158) rfl rfl (zJ (yI ((r.xw[k-1]!).qZ)) isAgg2 rfl (H.zG 1 rfl 0 rfl)<|⟨H.dF 2,(rgl 16 158 (H.sel _ (.refl _) _<|fun _ h=>List.mem_cons_of_mem _<|List.mem_cons_of_mem _<|h) ?_)⟩) jD
             refine rtl 17 (H.sel _ (.refl _) _<|fun _ h=>List.mem_cons_of_mem _<|List.mem_cons_of_mem _<|h) ?_
             refine xy qh<|t_n<|cD rfl (fun Kb=>?_)<|fun Kb=>?_
             ·refine zcr (sp (Bv false)<|zjr<|zr5<|rH1 (Bv false) H ?_)
              rw[xE (fun h=>by obtain⟨h1,h2,h3,h4,h5,h6,h7,h8,h9,dD,cZ⟩:=h;(obtain⟨q1,q2,q3,q4,q5⟩:=cZ k qf;omega))]
             refine qW<|b_n<|t_n<|xX<|sp (yI k)<|sw<|zS k 1 rfl rfl qf<|sq 1<|xU<|xu (m':=r.xw.length-(k+1)) qf ⟨_,k+1,uE3,?_,?_,rfl,H.sel _ (.refl _) _ qm⟩
             ·omega
             ·exact i1.succ ⟨‹_›,‹_›,‹_›,‹_›,fun hk=>by omega⟩
            replace Cr:=xq Cr
            replace Cr:=vF Cr
            refine zZ (zR 35 6) 6 (H)<|rtp 41 (Bv true) H ?_
            refine xy qh<|t_n<|cTr rfl<|zcr<|sp (Bv false)<|zjr<|t_r<|zr5<|rH1 (Bv false) H ?_
            rw[xE (fun h=>by obtain⟨h1,h2,h3,h4,h5,h6,h7,h8,h9,dD,cZ⟩:=h;(obtain⟨q1,q2,q3,q4,q5⟩:=cZ k qf;contradiction))]
           replace wM:=xq wM
           replace wM:=vF wM
           refine zZ (zR 26 7) 7 (H)<|rtp 33 (Bv true) H ?_
           refine rtp 34 (Bv true) H ?_
           refine zZ (zR 35 6) 6 (H)<|rtp 41 (Bv true) H ?_
           refine xy qh<|t_n<|cTr rfl<|zcr<|sp (Bv false)<|zjr<|t_r<|zr5<|rH1 (Bv false) H ?_
           rw[xE (fun h=>by obtain⟨h1,h2,h3,h4,h5,h6,h7,h8,h9,dD,cZ⟩:=h;(obtain⟨q1,q2,q3,q4,q5⟩:=cZ k qf;contradiction))]
          replace VS:=xq VS
          replace VS:=QZ VS
          refine zZ (zR 13 11) 11 (H)<|rtp 24 (Bv true) H ?_
          refine rtp 25 (Bv true) H ?_
          refine zZ (zR 26 7) 7 (H)<|rtp 33 (Bv true) H ?_
          refine rtp 34 (Bv true) H ?_
          refine zZ (zR 35 6) 6 (H)<|rtp 41 (Bv true) H ?_
          refine xy qh<|t_n<|cTr rfl<|zcr<|sp (Bv false)<|zjr<|t_r<|zr5<|rH1 (Bv false) H ?_
          rw[xE (fun h=>by obtain⟨h1,h2,h3,h4,h5,h6,h7,h8,h9,dD,cZ⟩:=h;(obtain⟨q1,q2,q3,q4,q5⟩:=cZ k qf;contradiction))]
         refine zx4<|zcr<|sp (Bv true)<|zjr<|rH1 (Bv true) H ?_
         obtain rfl:k=r.xw.length:=by omega
         rw[Qx ⟨by assumption,by omega,by simp_all,by omega,by assumption,by assumption,by assumption,by assumption,by assumption,by assumption,i1⟩]
        replace Uw:=xq Uw
        replace Uw:=vF Uw
        refine xO (zR 92 6)<|sp (Bv true)<|zjn<|cTr rfl<|zcr<|sp (Bv false)<|zjr<|t_r<|rH1 (Bv false) H ?_
        rw[xE (fun h=>by obtain⟨h1,h2,h3,h4,h5,h6,h7,h8,h9,dD,cZ⟩:=h;contradiction)]
       replace Wy:=xq Wy
       replace Wy:=vF Wy
       refine xO (zR 83 7)<|sp (Bv true)<|sp (Bv true)<|xO (zR 92 6)<|sp (Bv true)<|zjn<|cTr rfl<|zcr<|sp (Bv false)<|zjr<|t_r<|rH1 (Bv false) H ?_
       rw[xE (fun h=>by obtain⟨h1,h2,h3,h4,h5,h6,h7,h8,h9,dD,cZ⟩:=h;contradiction)]
      replace xp:=xq xp
      replace xp:=vF xp
      refine xO (zR 74 7)<|sp (Bv true)<|sp (Bv true)<|xO (zR 83 7)<|sp (Bv true)<|sp (Bv true)<|xO (zR 92 6)<|sp (Bv true)<|zjn<|cTr rfl<|zcr<|sp (Bv false)<|zjr<|t_r<|rH1 (Bv false) H ?_
      rw[xE (fun h=>by obtain⟨h1,h2,h3,h4,h5,h6,h7,h8,h9,dD,cZ⟩:=h;contradiction)]
     replace Ko:=xq Ko
     replace Ko:=vF Ko
     refine xO (zR 65 7)<|sp (Bv true)<|sp (Bv true)<|xO (zR 74 7)<|sp (Bv true)<|sp (Bv true)<|xO (zR 83 7)<|sp (Bv true)<|sp (Bv true)<|xO (zR 92 6)<|sp (Bv true)<|zjn<|cTr rfl<|zcr<|sp (Bv false)<|zjr<|t_r<|rH1 (Bv false) H ?_
     rw[xE (fun h=>by obtain⟨h1,h2,h3,h4,h5,h6,h7,h8,h9,dD,cZ⟩:=h;contradiction)]
    replace Yj:=xq Yj
    replace Yj:=vF Yj
    refine xO (zR 56 7)<|sp (Bv true)<|sp (Bv true)<|xO (zR 65 7)<|sp (Bv true)<|sp (Bv true)<|xO (zR 74 7)<|sp (Bv true)<|sp (Bv true)<|xO (zR 83 7)<|sp (Bv true)<|sp (Bv true)<|xO (zR 92 6)<|sp (Bv true)<|zjn<|cTr rfl<|zcr<|sp (Bv false)<|zjr<|t_r<|rH1 (Bv false) H ?_
    rw[xE (fun h=>by obtain⟨h1,h2,h3,h4,h5,h6,h7,h8,h9,dD,cZ⟩:=h;contradiction)]
   replace Rf:=eq_of_beq Rf
   refine zZ (zR 34 6) 6 (H)<|rtp 40 (Bv true) H ?_
   refine xy qh<|t_n<|cTr rfl<|zcr<|sp (Bv false)<|zjr<|t_r<|rH1 (Bv false) H ?_
   rw[xE (fun h=>by obtain⟨h1,h2,h3,h4,h5,h6,h7,h8,h9,dD,cZ⟩:=h;exact h3 ⟨‹_›,‹_›⟩)]
  replace h7:=xq h7
  replace h7:=QZ h7
  refine zZ (zR 21 11) 11 (H)<|rtp 32 (Bv true) H ?_
  refine rtp 33 (Bv true) H ?_
  refine zZ (zR 34 6) 6 (H)<|rtp 40 (Bv true) H ?_
  refine xy qh<|t_n<|cTr rfl<|zcr<|sp (Bv false)<|zjr<|t_r<|rH1 (Bv false) H ?_
  rw[xE (fun h=>by obtain⟨h1,h2,h3,h4,h5,h6,h7,h8,h9,dD,cZ⟩:=h;contradiction)]
 replace h4:=xq h4
 replace h4:=QZ h4
 refine zZ (zR 13 6) 6 (H)<|rtp 19 (Bv true) H ?_
 refine rtp 20 (Bv true) H ?_
 refine zZ (zR 21 11) 11 (H)<|rtp 32 (Bv true) H ?_
 refine rtp 33 (Bv true) H ?_
 refine zZ (zR 34 6) 6 (H)<|rtp 40 (Bv true) H ?_
 refine xy qh<|t_n<|cTr rfl<|zcr<|sp (Bv false)<|zjr<|t_r<|rH1 (Bv false) H ?_
 rw[xE (fun h=>by obtain⟨h1,h2,h3,h4,h5,h6,h7,h8,h9,dD,cZ⟩:=h;contradiction)]
theorem l02State_ok(w:World)(s:qO)(t:xn)(hs:jI w bs os (yS s qU qR xC xx))(xh:zP w xY qU qR s.qA)(xI:zP w zX xC xx s.qB)(ht:jI w bt ot (yT t zK zI vC vk zg zf))(ve:zP w jY zK zI t.xF)(jd:zP w Qe vC vk t.qG)(zB:zP w je zg zf t.qF)(p0:jZ s):Calls Tryz.prog 43 #[pp bs os,pp bt ot] w (Ret (fun v w'=>v=Bv (dec<|vU s t)) w):=by
 refine en func43 ntmps43 ?_
 have H:=(((((((St.start w).arg zB).arg jd).arg ve).argAt ht).arg xI).arg xh).argAt hs
 have vS:=qM xh
 clear hs xh xI ht ve jd zB
 have p1:=p0.2.1
 refine zcr<|sp (Bv false)<|zjn<|xM<|xM<|QE rfl H fun H=>rtl 0 H ?_
 refine rtl 1 H ?_
 refine tF 2 rfl rfl H ?_
 refine tL 3 rfl rfl (fun _ h=>h.zG 3 rfl 0 rfl) H ?_
 refine tN 4 rfl rfl H ?_
 refine rtl 5 H ?_
 refine rtl 6 H ?_
 refine tF 7 rfl rfl H ?_
 refine tL 8 rfl rfl (fun _ h=>h.zG 0 rfl 1 rfl) H ?_
 refine tN 9 rfl rfl H ?_
 refine rtp 10 (Bv ((t.xF.length:Int) != s.qA.length)) H ?_
 refine rtp 11 (Bv ((t.xF.length:Int) != s.qA.length)) H ?_
 cases h2:((t.xF.length:Int) != s.qA.length)
 ·replace h2:=xK h2
  refine rgl 12 17 H ?_
  refine rgl 13 17 H ?_
  refine gF 14 rfl rfl H ?_
  refine gL 15 rfl rfl (fun _ h=>h.zG 3 rfl 1 rfl) H ?_
  refine gN 16 rfl rfl H ?_
  refine rgl 17 17 H ?_
  refine rgl 18 17 H ?_
  refine gF 19 rfl rfl H ?_
  refine gL 20 rfl rfl (fun _ h=>h.zG 0 rfl 1 rfl) H ?_
  refine gN 21 rfl rfl H ?_
  refine rgp 22 (Bv ((t.qG.length:Int) != s.qA.length)) 17 H ?_
  refine rtp 23 (Bv ((t.qG.length:Int) != s.qA.length)) H ?_
  refine rtp 24 (Bv ((t.qG.length:Int) != s.qA.length)) H ?_
  cases h3:((t.qG.length:Int) != s.qA.length)
  ·replace h3:=xK h3
   refine rgl 25 30 H ?_
   refine rgl 26 30 H ?_
   refine gF 27 rfl rfl H ?_
   refine gL 28 rfl rfl (fun _ h=>h.zG 3 rfl 0 rfl) H ?_
   obtain⟨b4,o5,rfl⟩:=H.addr 4 rfl qf
   refine gI 29 rfl rfl rfl H ?_
   refine gL 30 rfl rfl (fun _ h=>h.XZ 4 rfl 0 qf) H ?_
   refine rgp 31 (Bv (!(t.xF[0]!))) 30 H ?_
   refine rtp 32 (Bv (!(t.xF[0]!))) H ?_
   refine rtp 33 (Bv (!(t.xF[0]!))) H ?_
   cases h6:(!(t.xF[0]!))
   ·replace h6:=xf h6
    refine rgl 34 39 H ?_
    refine rgl 35 39 H ?_
    refine rgl 36 39 H ?_
    refine gF 37 rfl rfl H ?_
    refine gL 38 rfl rfl (fun _ h=>h.zG 3 rfl 2 rfl) H ?_
    refine jC [39] qh qm<|Xj rfl (e:=39) rfl rfl (oq (Xc _ s t.qF (qH (H.get 0 rfl) 0 3) (H.get 1 rfl).1 (H.get 2 rfl).1 (H.get 6 rfl).1) H fun w7 H=>⟨H,(rgl 40 39 H ?_)⟩) jD
    refine rtl 41 H ?_
    refine xy qh<|t_n<|cQ rfl (fun h9=>?_)<|fun h9=>?_
    ·refine zcr (sp (Bv false)<|zjr<|t_r<|rH1 (Bv false) H ?_)
     rw[xE (fun h=>by obtain⟨h1,h2,h3,h4,h5⟩:=h;contradiction)]
    refine qW<|t_n<|zcc<|sp (yI 0)<|zjn<|xe<|zT ((fun Z0 Z1 Z2 Z3 Z4 Z5 Z6=>fun m' ρ sI=>∃(xP:Env) (k:Nat),ρ=upd (upd (upd xP 0<|pp bs os) 1<|pp bt ot) 5 (yI k)/\(k<=t.qG.length)/\(BagsTo s t k)/\m'=t.qG.length-k/\St w sI [] [Z0,Z1,Z2,Z3,Z4,Z5,Z6]) _ _ _ _ _ _ _) (t.qG.length-0) ⟨_,0,uE3,qf,qx,rfl,H⟩ ?_
    clear H
    rintro m' ρ BF ⟨xP,k,rfl,i0,i1,rfl,H⟩
    refine zcc<|sp (yI k)<|sq 2<|oF rfl<|oL rfl (H.zG 3 rfl 1 rfl)<|oN rfl<|sq 1<|zjn<|cD rfl (fun lw=>?_)<|fun lw=>?_
    ·refine qW (t_n<|xM<|xe<|zcr<|sq 3<|oF rfl<|oL rfl (H.zG 3 rfl 1 rfl)<|sp (yI k) ?_)
     obtain⟨xj,o14,rfl⟩:=H.addr 5 rfl qf
     obtain⟨atr,auB,auY,H⟩:=H.yB 5 rfl k k qf qf qf
     refine oI rfl rfl<|oL rfl (H.zG 1 rfl 0 rfl)<|sw<|oq (Xc _ s (t.qG[k]!) (qH (H.get 2 rfl) 0 3) (H.get 3 rfl).1 (H.get 4 rfl).1 (H.get 0 rfl).1) H fun If H=>sp (Bv (!(dec<|vW s.qN<|t.qG[k]!)))<|sp (Bv (!(dec<|vW s.qN<|t.qG[k]!))) ?_
     cases lF:(!(dec (vW s.qN (t.qG[k]!))))
     ·replace lF:=xf lF
      replace lF:=Qz lF
      refine qJ 67 rfl rfl<|sq 1<|qJ 67 rfl rfl<|sq 1<|qJ 67 rfl rfl<|oF rfl<|qJ 67 rfl rfl<|oL rfl (H.zG 5 rfl 0 rfl)<|qJ 67 rfl rfl<|sp (yI k)<|qJ 67 rfl rfl<|oI rfl rfl<|qJ 67 rfl rfl<|oL rfl (H.XZ 6 rfl k qf)<|qJ 67 rfl rfl<|sp (Bv (!(t.xF[k]!)))<|qJ 67 rfl rfl<|sp (Bv (!(t.xF[k]!))) ?_
      cases rB:(!(t.xF[k]!))
      ·replace rB:=xf rB
       refine xO (zR 77 9)<|qJ 67 rfl rfl<|sp (Bv false)<|sp (Bv false)<|zjn<|cFr rfl<|qW<|b_n<|t_n<|xX<|sp (yI k)<|sw<|zS k 1 rfl rfl qf<|sq 1<|xU<|xu (m':=t.qG.length-(k+1)) qf ⟨_,k+1,uE3,?_,?_,rfl,H.sel _ (.refl _) _ qm⟩
       ·omega
       ·exact i1.succ ‹_› (fun hk=>by simp_all)
      replace rB:=xq rB
      refine qJ 76 rfl rfl<|sq 1<|qJ 76 rfl rfl<|sq 1<|qJ 76 rfl rfl<|oF rfl<|qJ 76 rfl rfl<|oL rfl (H.zG 5 rfl 1 rfl)<|qJ 76 rfl rfl<|sp (yI k)<|qJ 76 rfl rfl<|oI rfl rfl<|qJ 76 rfl rfl<|oL rfl (H.zG 1 rfl 0 rfl)<|qJ 76 rfl rfl<|sw<|oq (l01Size_ok _ (t.qG[k]!) (H.get 0 rfl).1<|by exact vP ql) H fun KA H=>qJ 76 rfl rfl<|sp (Bv<|decide ((VN (t.qG[k]!):Int)>0))<|qJ 67 rfl rfl<|sp (Bv<|decide ((VN (t.qG[k]!):Int)>0))<|sp (Bv<|decide ((VN (t.qG[k]!):Int)>0))<|zjn<|cD rfl (fun oZ=>?_)<|fun oZ=>?_
      ·refine zcr (sp (Bv false)<|zjr<|zr5<|rH1 (Bv false) H ?_)
       rw[xE (fun h=>by obtain⟨h1,h2,h3,h4,h5⟩:=h;(obtain⟨q1,q2⟩:=h5 k qf;(have:=q2 ql;omega)))]
      refine qW<|b_n<|t_n<|xX<|sp (yI k)<|sw<|zS k 1 rfl rfl qf<|sq 1<|xU<|xu (m':=t.qG.length-(k+1)) qf ⟨_,k+1,uE3,?_,?_,rfl,H.sel _ (.refl _) _ qm⟩
      ·omega
      ·exact i1.succ ‹_› (fun hk=>by omega)
     replace lF:=xq lF
     replace lF:=vF lF
     refine xO (zR 68 19)<|sp (Bv true)<|zjn<|cTr rfl<|zcr<|sp (Bv false)<|zjr<|zr5<|rH1 (Bv false) H ?_
     rw[xE (fun h=>by obtain⟨h1,h2,h3,h4,h5⟩:=h;(obtain⟨q1,q2⟩:=h5 k qf;contradiction))]
    refine zx4<|zcr<|sp (Bv true)<|zjr<|rH1 (Bv true) H ?_
    obtain rfl:k=t.qG.length:=by omega
    rw[Qx ⟨by omega,by omega,by assumption,by assumption,i1⟩]
   replace h6:=xq h6
   refine zZ (zR 34 7) 7 (H)<|rtp 41 (Bv true) H ?_
   refine xy qh<|t_n<|cTr rfl<|zcr<|sp (Bv false)<|zjr<|t_r<|rH1 (Bv false) H ?_
   rw[xE (fun h=>by obtain⟨h1,h2,h3,h4,h5⟩:=h;(simp_all;done))]
  replace h3:=bne_iff_ne.1 h3
  refine zZ (zR 25 7) 7 (H)<|rtp 32 (Bv true) H ?_
  refine rtp 33 (Bv true) H ?_
  refine zZ (zR 34 7) 7 (H)<|rtp 41 (Bv true) H ?_
  refine xy qh<|t_n<|cTr rfl<|zcr<|sp (Bv false)<|zjr<|t_r<|rH1 (Bv false) H ?_
  rw[xE (fun h=>by obtain⟨h1,h2,h3,h4,h5⟩:=h;omega)]
 replace h2:=bne_iff_ne.1 h2
 refine zZ (zR 12 11) 11 (H)<|rtp 23 (Bv true) H ?_
 refine rtp 24 (Bv true) H ?_
 refine zZ (zR 25 7) 7 (H)<|rtp 32 (Bv true) H ?_
 refine rtp 33 (Bv true) H ?_
 refine zZ (zR 34 7) 7 (H)<|rtp 41 (Bv true) H ?_
 refine xy qh<|t_n<|cTr rfl<|zcr<|sp (Bv false)<|zjr<|t_r<|rH1 (Bv false) H ?_
 rw[xE (fun h=>by obtain⟨h1,h2,h3,h4,h5⟩:=h;omega)]
theorem l02Parent_ok(w:World)(s:qO)(t:xn)(c:Int)(hs:jI w bs os (yS s qU qR xC xx))(xh:zP w xY qU qR s.qA)(xI:zP w zX xC xx s.qB)(ht:jI w bt ot (yT t zK zI vC vk zg zf))(ve:zP w jY zK zI t.xF)(jd:zP w Qe vC vk t.qG)(zB:zP w je zg zf t.qF)(p0:jZ s)(p1:CellIn s c)(p2:t.xF.length=s.qA.length):Calls Tryz.prog 182 #[pp bs os,pp bt ot,yI c] w (Ret (fun v w'=>v=yI (zO s t c)) w):=by
 refine en func182 ntmps182 ?_
 have H:=(((((((St.start w).arg zB).arg jd).arg ve).argAt ht).arg xI).arg xh).argAt hs
 have vS:=qM xh
 clear hs xh xI ht ve jd zB
 have p3:=p0.step p1.1 p1.2
 refine zcr<|sp (yI 0)<|zjc<|sq 2<|oF rfl<|oL rfl (H.zG 0 rfl 1 rfl)<|sp (yI c) ?_
 obtain⟨b1,o2,rfl⟩:=H.addr 1 rfl qf
 refine oI rfl rfl<|oL rfl (H.elemInt 1 rfl c qf qf)<|sq 1<|zjn<|xM<|xe<|zT ((fun Z0 Z1 Z2 Z3 Z4 Z5 Z6=>fun m' ρ w3=>∃(xP:Env) (y:Int) (n:Nat),ρ=upd (upd (upd (upd xP 0<|pp bs os) 1<|pp bt ot) 6<|yI 0) 7 (yI y)/\(-1<=y/\y<=(s.qA.length:Int)-1)/\(y<n)/\(zO s t c=climb s.qA t.xF n y)/\m'=(y+1).toNat/\St w w3 [] [Z0,Z1,Z2,Z3,Z4,Z5,Z6]) _ _ _ _ _ _ _) (((s.qA[c.toNat]!)+1).toNat) ⟨_,s.qA[c.toNat]!,s.qA.length,uE4,qf,qf,(by rfl),rfl,H⟩ ?_
 clear H
 rintro m' ρ w4 ⟨xP,y,n,rfl,i0,i1,i2,rfl,H⟩
 have up:=fun h=>p0.step (c:=y) h i0.2
 refine zcc<|sp (yI y)<|sp (Bv<|decide ((y:Int)>=0))<|sp (Bv<|decide ((y:Int)>=0)) ?_
 cases h5:(decide ((y:Int)>=0))
 ·replace h5:=of_decide_eq_false h5
  refine xO (zR 18 8)<|sp (Bv false)<|zjn<|cFr rfl<|zx4<|zcr<|sp (yI y)<|sp (yI y)<|zjr<|rH1 (yI y) H ?_
  rw[i2,climb_end<|by omega]
 replace h5:=of_decide_eq_true h5
 refine qJ 17 rfl rfl<|sq 1<|qJ 17 rfl rfl<|sq 1<|qJ 17 rfl rfl<|oF rfl<|qJ 17 rfl rfl<|oL rfl (H.zG 3 rfl 0 rfl)<|qJ 17 rfl rfl<|sp (yI y)<|qJ 17 rfl rfl ?_
 obtain⟨b6,o7,rfl⟩:=H.addr 4 rfl qf
 refine oI rfl rfl<|qJ 17 rfl rfl<|oL rfl (H.elemBool 4 rfl y qf qf)<|qJ 17 rfl rfl<|sq 2<|zjn<|vg _ rfl (fun h8=>?_)<|fun h8=>?_
 ·replace h8:=xq h8
  refine qW<|t_n<|xe<|xX<|sq 2<|oF rfl<|oL rfl (H.zG 0 rfl 1 rfl)<|sp (yI y)<|oI rfl rfl<|oL rfl (H.elemInt 1 rfl y qf qf)<|sq 1<|xU<|b_n ?_
  have up1:=up qf
  refine xu (m':=((s.qA[y.toNat]!)+1).toNat) qf ⟨_,(s.qA[y.toNat]!),n-1,uE4,?_,?_,?_,rfl,H⟩
  ·omega
  ·omega
  ·exact i2.trans<|climb_go qf qf ‹_›
 replace h8:=xf h8
 refine zx4<|zcr<|sp (yI y)<|sp (yI y)<|zjr<|rH1 (yI y) H ?_
 rw[i2,climb_end<|by simp_all]
theorem l02Ok_ok(w:World)(s:qO)(hs:jI w bs os (yS s qU qR xC xx))(xh:zP w xY qU qR s.qA)(xI:zP w zX xC xx s.qB):Calls Tryz.prog 42 #[pp bs os] w (Ret (fun v w'=>v=Bv (dec<|Qr s)) w):=by
 refine en func42 ntmps42 ?_
 have H:=(((St.start w).arg xI).arg xh).argAt hs
 have vS:=qM xh
 have jV:=qM xI
 clear hs xh xI
 have p1:=fun h:jZ s=>h.2.1
 refine zcr<|sp (Bv false)<|zjcc<|sq 1<|sw<|oq (l02Frame_ok _ s (qH (H.get 0 rfl) 0 3) (H.get 1 rfl).1 (H.get 2 rfl).1) H fun w1 H=>sp (Bv (!(dec<|jZ s)))<|sp (Bv (!(dec<|jZ s))) ?_
 cases h3:(!(dec (jZ s)))
 ·replace h3:=xf h3
  replace h3:=Qz h3
  refine qJ 8 rfl rfl<|sq 1<|qJ 8 rfl rfl<|sq 1<|qJ 8 rfl rfl<|oF rfl<|qJ 8 rfl rfl<|oL rfl (H.zG 0 rfl 2 rfl)<|qJ 8 rfl rfl<|oN rfl<|qJ 8 rfl rfl<|sp (Bv<|decide ((s.qB.length:Int)>16))<|sp (Bv<|decide ((s.qB.length:Int)>16))<|zjn<|cD rfl (fun h4=>?_)<|fun h4=>?_
  ·refine zcr (sp (Bv false)<|zjr<|t_r<|rH1 (Bv false) H ?_)
   rw[xE (fun h=>by obtain⟨h1,h2,h3⟩:=h;omega)]
  have p2:=p1 ql
  refine qW<|t_n<|zcr<|sq 2<|oF rfl<|oL rfl (H.zG 0 rfl 1 rfl)<|oN rfl<|sw<|o_make1 H underlying24 ti2 rfl s.qA.length rfl rfl qf qf fun b5 w6 H=>?_
  replace H:St _ _ [.box b5 (List.replicate s.qA.length<|yI 0) 2] _:=H
  refine sq 1<|zjcc<|sp (yI 0)<|zjn<|xe ?_
  rw[ints_zero,counts_zero] at H
  refine zT ((fun Z0 Z1 Z2=>fun m' ρ w7=>∃(xP:Env) (k:Nat),ρ=upd (upd (upd xP 0<|pp bs os) 3<|Sv (aa b5 0) s.qA.length s.qA.length) 4 (yI k)/\(k<=s.qB.length)/\(RulesTo s k)/\m'=s.qB.length-k/\St w w7 [.box b5 ((counts s k).map<|Value.int .i64) 2] [Z0,Z1,Z2]) _ _ _) (s.qB.length-0) ⟨_,0,uE3,qf,qx,rfl,H⟩ ?_
  clear H
  rintro m' ρ w8 ⟨xP,k,rfl,i0,i1,rfl,H⟩
  refine zcc<|sp (yI k)<|sq 2<|oF rfl<|oL rfl (H.zG 0 rfl 2 rfl)<|oN rfl<|sq 1<|zjn<|cD rfl (fun h9=>?_)<|fun h9=>?_
  ·refine qW (t_n<|xM<|xe<|zcc<|sq 3<|oF rfl<|oL rfl (H.zG 0 rfl 2 rfl)<|sp (yI k) ?_)
   obtain⟨wS,o11,rfl⟩:=H.addr 2 rfl qf
   obtain⟨anl,alY,ajv,anQ,akC,agL,alX,aim,ahr,anD,aep,anZ,aqf,aqg,ara,ag6,aoM,ahi,H⟩:=H.QY 2 rfl k k qf qf qf
   refine oI rfl rfl<|sw<|oq (l02Rule_ok _ s (s.qB[k]!) (qH (H.get 7 rfl) 0 3) (H.get 8 rfl).1 (H.get 9 rfl).1 (qH (H.get 6 rfl) 0 9) (H.get 0 rfl).1 (H.get 1 rfl).1 (H.get 2 rfl).1 (H.get 3 rfl).1 (H.get 4 rfl).1 (H.get 5 rfl).1 ql) H fun Dv H=>sq 1<|zjn<|cQ rfl (fun rV=>?_)<|fun rV=>?_
   ·refine zcr (sp (Bv false)<|zjr<|t_r<|zr5<|rH1 (Bv false) H ?_)
    rw[xE (fun h=>by obtain⟨h1,h2,h3⟩:=h;(obtain⟨q1,q2⟩:=h3 k qf;contradiction))]
   have q:=(rV).1
   refine qW<|t_n<|zcr<|sq 3<|oF rfl<|oL rfl (H.zG 7 rfl 2 rfl)<|sp (yI k)<|oI rfl rfl<|oF rfl<|oL rfl (H.zG 6 rfl 0 rfl)<|oI rfl rfl<|oL rfl (H.cell 0 rfl<|ints_get<|by rw[counts_len];omega)<|sw<|zS ((counts s k)[((s.qB[k]!).qZ:Int).toNat]!) 1 rfl rfl (by((rw[VJ q];have:=ofCell_bd s.qB (s.qB[k]!).qZ k;omega)))<|oI rfl rfl<|sw<|o_store1 H 0 rfl (yI (((counts s k)[((s.qB[k]!).qZ:Int).toNat]!)+1)) sizeOf2 rfl rfl rfl (ints_lt<|by rw[counts_len];omega) fun If H=>?_
   rw[ints_set] at H
   rw[counts_succ q] at H
   replace H:St _ _ [.box b5 ((counts s<|k+1).map<|Value.int .i64) 2] _:=H
   refine zjc<|sq 3<|oF rfl<|oL rfl (H.zG 7 rfl 2 rfl)<|sp (yI k)<|oI rfl rfl<|oF rfl<|oL rfl (H.zG 6 rfl 0 rfl)<|oI rfl rfl<|oL rfl (H.cell 0 rfl<|ints_get<|by rw[counts_len];omega)<|sp (Bv<|decide (((counts s<|k+1)[((s.qB[k]!).qZ:Int).toNat]! :Int)>8))<|zjn<|cD rfl (fun GF=>?_)<|fun GF=>?_
   ·refine zcr (sp (Bv false)<|zjr<|zr5<|rH1 (Bv false) H ?_)
    rw[xE (fun h=>by obtain⟨h1,h2,h3⟩:=h;(obtain⟨q1,q2⟩:=h3 k qf;(have:=VJ (k:=k+1) q;omega)))]
   refine qW<|b_n<|t_n<|xX<|sp (yI k)<|sw<|zS k 1 rfl rfl (by(omega))<|sq 1<|xU<|xu (m':=s.qB.length-(k+1)) qf ⟨_,k+1,uE3,?_,?_,rfl,H.sel _ (.refl _) _ qm⟩
   ·omega
   ·exact i1.succ ‹_› (by have:=VJ (k:=k+1) q;omega)
  refine zx4<|zcr<|sp (Bv true)<|zjr<|rH1 (Bv true) H ?_
  obtain rfl:k=s.qB.length:=by omega
  rw[Qx ⟨by assumption,by omega,i1⟩]
 replace h3:=xq h3
 replace h3:=vF h3
 refine xO (zR 9 6)<|sp (Bv true)<|zjn<|cTr rfl<|zcr<|sp (Bv false)<|zjr<|t_r<|rH1 (Bv false) H ?_
 rw[xE (fun h=>by obtain⟨h1,h2,h3⟩:=h;contradiction)]
end
section
theorem climb_in{s:qO}{t:xn}(hs:jZ s)(h0:t.xF[0]! =true):∀(n:Nat) (c:Int),0<=c->c<n->c<=(s.qA.length:Int)-1→
 0<=climb s.qA t.xF n c/\climb s.qA t.xF n c<=c/\t.xF[(climb s.qA t.xF n c).toNat]! =true
 |0,c,h1,h2,h3=>by omega
 |n+1,c,h1,h2,h3=>by
  rw[climb]
  by_cases ha:0<=c/\t.xF[c.toNat]! =false
  ·rw[if_pos ha]
   have hc:0<c:=by
    rcases Int.lt_or_eq_of_le h1 with h|h
    ·exact h
    ·rw[←h] at ha;simp[h0] at ha
   have hu:=hs.up hc h3
   have:=climb_in hs h0 n (s.qA[c.toNat]!) hu.1 qf qf
   exact⟨this.1,by omega,this.2.2⟩
  ·rw[if_neg ha]
   refine⟨h1,Int.le_refl _,?_⟩
   cases hx:t.xF[c.toNat]! with
   |true=>rfl
   |false=>exact absurd ⟨h1,hx⟩ ha
theorem parentNow_in(hs:jZ s)(h0:t.xF[0]! =true){c:Int}(h1:0<c)(h2:c<=(s.qA.length:Int)-1):0<=zO s t c/\zO s t c<c/\t.xF[(zO s t c).toNat]! =true:=by
 have hu:=hs.up h1 h2
 have:=climb_in hs h0 s.qA.length (s.qA[c.toNat]!) hu.1 qf qf
 exact⟨this.1,by have:=this.2.1;unfold zO;omega,this.2.2⟩
def melted(s:qO)(t:xn)(c:Int):xn:=
 ⟨t.xF.set c.toNat false,(t.qG.set (zO s t c).toNat<|jc (t.qG[(zO s t c).toNat]!) (t.qG[c.toNat]!) 1).set c.toNat<|List.replicate s.qN.toNat 0,t.qF⟩
open Classical in
noncomputable def told(s:qO)(t:xn):xn×Int:=if vU s t then (t,0) else (default,3)
open Classical in
noncomputable def meltRes(s:qO)(t:xn)(c:Int):xn×Int:=
 if cellCodeOf s t c≠0 then (default,cellCodeOf s t c) else if c=0 then (default,4) else told s (melted s t c)
theorem vU.bagLen(h:vU s t)(hk:k<t.qG.length):vW s.qN (t.qG[k]!):=(h.2.2.2.2 k hk).1
theorem bagOk_smallT{n:Int}(h:vW n l){t:Int}(ht: -1000000<=t/\t<=1000000):X8 l t:=fun k hk=>by
 have:=h.1.1 k hk
 constructor
 ·have h1: -(1000000*1000)<=t*l[k]! :=by
   rcases Int.le_total 0 t with h0|h0
   ·have:=Int.mul_nonneg h0 this.1;omega
   ·have h2:=Int.mul_le_mul_of_nonneg_left this.2 (show 0<= -t by omega)
    have h3: -t*l[k]! = -(t*l[k]!):=Int.neg_mul ..
    omega
  omega
 ·have h1:t*l[k]! <=1000000*1000:=by
   rcases Int.le_total 0 t with h0|h0
   ·have h2:=Int.mul_le_mul_of_nonneg_left this.2 h0
    omega
   ·have h2:=Int.mul_nonneg (show 0<= -t by omega) this.1
    have h3: -t*l[k]! = -(t*l[k]!):=Int.neg_mul ..
    omega
  omega
theorem vU.add(h:vU s t)(hj:j<t.qG.length)(hk:k<t.qG.length):(t.qG[j]!).length<=(t.qG[k]!).length/\Mid (t.qG[j]!)/\X8 (t.qG[k]!) 1:=by
 have h1:=h.bagLen hj
 have h2:=h.bagLen hk
 exact⟨by have:=h1.2;have:=h2.2;omega,(vP h1).mid,bagOk_smallT h2 qf⟩
theorem drop_get(h:k+1<l.length):(l.drop 1)[k]! =l[k+1]! :=by
 rw[getElem!_pos (l.drop 1) k<|by rw[List.length_drop];omega,getElem!_pos l (k+1) h]
 simp[Nat.add_comm]
theorem lies_up(hs:jZ s){c o:Int}(hc:CellIn s c):Lies s.qA o c<->0<=s.qA[c.toNat]! /\(s.qA[c.toNat]! =o\/Lies s.qA o (s.qA[c.toNat]!)):=by
 rw[lies_iff]
 rcases Int.lt_or_eq_of_le hc.1 with h|h
 ·have:=hs.up h hc.2
  constructor
  ·rintro⟨_,h1⟩;exact⟨this.1,h1⟩
  ·rintro⟨_,h1⟩;exact⟨h,h1⟩
 ·subst h
  have:=hs.2.2.1
  simp only[Int.toNat_zero] at *
  constructor
  ·rintro⟨h1,_⟩;omega
  ·rintro⟨h1,_⟩;omega
def counts6(s:qO)(k:Nat):yLI:=(List.range 6).map fun c:Nat=>ofCell s.qB (c:Int) k
theorem counts6_len(s:qO)(k:Nat):(counts6 s k).length=6:=by simp[counts6]
theorem counts6_zero(s:qO):([0,0,0,0,0,0]:yLI)=counts6 s 0:=by simp[counts6,List.range_succ,ofCell]
theorem VF{c:Int}(h:0<=c)(h1:c<=5):(counts6 s k)[c.toNat]! =ofCell s.qB c k:=by
 rw[getElem!_pos _ _<|by rw[counts6_len];omega]
 simp only[counts6,List.getElem_map,List.getElem_range]
 rw[show ((c.toNat:Nat):Int)=c by omega]
theorem counts6_succ(h:0<=(s.qB[k]!).qZ)(h1:(s.qB[k]!).qZ<=5):
 (counts6 s k).set (s.qB[k]!).qZ.toNat ((counts6 s k)[(s.qB[k]!).qZ.toNat]! +1)=counts6 s (k+1):=by
 rw[VF h h1]
 apply List.ext_getElem
 ·simp[counts6]
 ·intro i h1 h2
  rw[List.getElem_set]
  simp only[counts6,List.getElem_map,List.getElem_range,ofCell]
  by_cases e:(s.qB[k]!).qZ.toNat=i
  ·subst e
   rw[if_pos rfl,if_pos qf,show (((s.qB[k]!).qZ.toNat:Nat):Int)=(s.qB[k]!).qZ by omega]
  ·rw[if_neg e,if_neg qf];omega
theorem sum_nonneg(h:VM l):0<=VN l:=by
 have:∀k,k<=l.length->0<=sumTo l k:=fun k=>by
  induction k with
  |zero=>intro _;exact Int.le_refl _
  |succ k ih=>intro hk;have:=ih qf;have:=h.1 k qf;simp only[sumTo];omega
 exact this _<|Nat.le_refl _
end
section
theorem cloneB_ok(w:World)(l:List Bool)(hl:zP w Fl al cl l)(p0:l.length<=1000000):Calls Tryz.prog 71 #[Sv al l.length cl] w (Ret (fun v w'=>∃(ra:yOA) (rn:Nat) (rc:Nat),v=Sv ra rn rc/\Fresh w.heap.size []/\St w w' [rr ra rn rc 4 1<|l.map<|Value.bool] []) w):=by
 refine en func71 ntmps71 ?_
 have H:=(St.start w).arg hl
 have C5:=qM hl
 clear hl
 have N:=Fresh.nil w.heap.size
 refine zcr<|sq 1<|zjcc<|sq 1<|sw<|o_eqnil underlying28 al l.length cl rfl<|zjn<|vg _ rfl (fun h1=>?_)<|fun h1=>?_
 ·refine zcr (sq 1<|zjr<|t_r ?_)
  replace H:=H.nilRowB 4
  refine rH1 yN H ?_
  obtain rfl:=H.nilOf 0 rfl ‹_›
  exact⟨none,0,0,rfl,N,H.pick [0] []⟩
 refine qW<|t_n<|zcr<|sw<|jH H underlying28 ti4 fun b2 w3 H=>sq 1 ?_
 replace H:=H.boxRowB 0 [] 0
 refine sw<|VH H 0 rfl 0 rfl underlying28 ti4 rfl qj rfl rfl qp qf fun a4 c5 w6 us7 G8 H hG9=>?_
 obtain⟨_,rfl⟩:=reps_bools (H.get 0 rfl).1
 replace H:=H.sub _ fun f hf=>List.mem_cons_of_mem _ hf
 rw[catB] at H
 refine sq 1<|zjr<|rH1 (Sv a4 (0+l.length) c5) H<|⟨a4,0+l.length,c5,rfl,N,H.pick [0] []⟩
end
section
theorem ft{b:Bool}(h:b=true)(h':b=false):False:=by rw[h] at h';cases h'
theorem getset{α:Type}[Inhabited α]{l:List α}{v:α}(hc:c<l.length):(l.set c v)[p]! =if p=c then v else l[p]! :=by
 by_cases hp:p<l.length
 ·rw[getElem!_pos _ _<|by simpa using hp,getElem!_pos l p hp,List.getElem_set]
  by_cases e:c=p
  ·rw[if_pos e,if_pos e.symm]
  ·rw[if_neg e,if_neg<|fun h=>e h.symm]
 ·rw[if_neg qf,getElem!_neg (l.set c v) p<|by simpa using hp,getElem!_neg l p hp]
theorem plus_get{t:Int}(hk:k<l.length):(jc l m t)[k]! =l[k]! +t*m[k]! :=by
 rw[getElem!_pos (jc l m t) k<|by rw[Qy];exact hk]
 simp[jc,plusTo]
theorem ext_get{α:Type}[Inhabited α]{l m:List α}(hl:l.length=m.length)(h:∀k,k<l.length->l[k]! =m[k]!):l=m:=by
 apply List.ext_getElem hl
 intro i h1 h2
 have:=h i h1
 rwa [getElem!_pos l i h1,getElem!_pos m i h2] at this
theorem set_self{α:Type}[Inhabited α]{l:List α}{v:α}(hc:c<l.length)(h:v=l[c]!):l.set c v=l:=by
 refine ext_get qm fun k hk=>?_
 rw[getset hc]
 by_cases e:k=c
 ·rw[if_pos e,e,h]
 ·rw[if_neg e]
theorem plus_zero{t:Int}(ht:t=0):jc l m t=l:=by
 refine ext_get (Qy _ _ _) fun k hk=>?_
 rw[Qy] at hk
 rw[plus_get hk,ht];omega
def Shape(n K:Nat)(B:Int)(b:yLL):Prop:=b.length=n/\∀p,p<n->(b[p]!).length=K/\∀k,k<K-> -B<=(b[p]!)[k]! /\(b[p]!)[k]! <=B
structure Ent(n K:Nat)(f:Nat->Nat->Int)(B:Int)(b:yLL):Prop where
 sh:Shape n K B b
 eq:∀p k,p<n->k<K->(b[p]!)[k]! =f p k
def at'(p c:Nat)(x:Int):Int:=if p=c then x else 0
theorem Shape.set(h:Shape n K B b){v:yLI}(hc:c<n)(hv:v.length=K)(hb:∀k,k<K-> -D<=v[k]! /\v[k]! <=D)(hD:B<=D):Shape n K D (b.set c v):=by
 refine⟨by simp[h.1],fun p hp=>?_⟩
 rw[getset<|by rw[h.1];exact hc]
 by_cases e:p=c
 ·rw[if_pos e];exact⟨hv,hb⟩
 ·rw[if_neg e]
  refine⟨(h.2 p hp).1,fun k hk=>?_⟩
  have:=(h.2 p hp).2 k hk
  omega
theorem Shape.plus(h:Shape n K B b){t:Int}(hc:c<n)(ht:∀k,k<K-> -D<=t*m[k]! /\t*m[k]! <=D)(hD:0<=D):
 Shape n K (B+D) (b.set c<|jc (b[c]!) m t):=by
 have h1:=h.2 c hc
 refine h.set hc (by rw[Qy];exact h1.1) (fun k hk=>?_) qf
 rw[plus_get<|by rw[h1.1];exact hk]
 have:=h1.2 k hk
 have:=ht k hk
 omega
theorem Shape.row(h:Shape n K B b)(hB:B<=1000000000000000)(hK:K<=8)(hc:c<n):(b[c]!).length=K/\Mid (b[c]!):=by
 have h1:=h.2 c hc
 refine⟨h1.1,by have:=h1.1;omega,fun k hk=>?_⟩
 have:=h1.2 k (by have:=h1.1;omega)
 omega
theorem Ent.add{f:Nat->Nat->Int}(h:Ent n K f B b){t:Int}{b':yLL}(e:b'=b.set c (jc (b[c]!) m t))(hc:c<n)(ht:∀k,k<K-> -D<=t*m[k]! /\t*m[k]! <=D)(hD:0<=D):
 Ent n K (fun p k=>f p k+at' p c (t*m[k]!)) (B+D) b':=by
 subst e
 refine⟨h.sh.plus hc ht hD,fun p k hp hk=>?_⟩
 rw[getset<|by rw[h.sh.1];exact hc]
 unfold at'
 by_cases e:p=c
 ·subst e
  rw[if_pos rfl,if_pos rfl,plus_get<|by rw[(h.sh.2 p hp).1];exact hk,h.eq p k hp hk]
 ·rw[if_neg e,if_neg e,h.eq p k hp hk];omega
theorem Shape.mono(h:Shape n K B b)(hD:B<=D):Shape n K D b:=⟨h.1,fun p hp=>⟨(h.2 p hp).1,fun k hk=>by have:=(h.2 p hp).2 k hk;omega⟩⟩
theorem Ent.to{f g:Nat->Nat->Int}(h:Ent n K f B b)(e:∀p k,f p k=g p k)(hD:B<=D):Ent n K g D b:=⟨h.sh.mono hD,fun p k hp hk=>(h.eq p k hp hk).trans<|e p k⟩
theorem Ent.same{f g:Nat->Nat->Int}{c:yLL}(h:Ent n K f B b)(h':Ent n K g D c)(e:∀p k,p<n->k<K->f p k=g p k):b=c:=by
 refine ext_get (by rw[h.sh.1,h'.sh.1]) fun p hp=>?_
 rw[h.sh.1] at hp
 refine ext_get (by rw[(h.sh.2 p hp).1,(h'.sh.2 p hp).1]) fun k hk=>?_
 rw[(h.sh.2 p hp).1] at hk
 rw[h.eq p k hp hk,h'.eq p k hp hk,e p k hp hk]
def tab2(n K:Nat)(f:Nat->Nat->Int):yLL:=(List.range n).map fun p=>(List.range K).map<|f p
theorem tab2_len(n K:Nat)(f:Nat->Nat->Int):(tab2 n K f).length=n:=by simp[tab2]
theorem tab2_row{f:Nat->Nat->Int}(hp:p<n):(tab2 n K f)[p]! =(List.range K).map (f p):=by
 rw[getElem!_pos (tab2 n K f) p<|by rw[tab2_len];exact hp];simp[tab2]
theorem Ent.tab{f:Nat->Nat->Int}(h:Ent n K f B b):b=tab2 n K f:=by
 refine ext_get (by rw[h.sh.1,tab2_len]) fun p hp=>?_
 rw[h.sh.1] at hp
 rw[tab2_row hp]
 refine ext_get (by rw[(h.sh.2 p hp).1];simp) fun k hk=>?_
 rw[(h.sh.2 p hp).1] at hk
 rw[h.eq p k hp hk,getElem!_pos ((List.range K).map<|f p) k<|by simpa using hk];simp
theorem Ent.snoc{f:Nat->Nat->Int}(h:Ent n K f B b)(ha:a.length=K)(hb:∀k,k<K-> -B<=a[k]! /\a[k]! <=B)(he:∀k,k<K->a[k]! =f n k):Ent (n+1) K f B (b++[a]):=by
 have hl:(b++[a]).length=n+1:=by simp[h.sh.1]
 have h1:∀p,p<n->(b++[a])[p]! =b[p]! :=fun p hp=>by
  rw[getElem!_pos (b++[a]) p qf,getElem!_pos b p<|by rw[h.sh.1];exact hp,List.getElem_append_left]
 have h2:(b++[a])[n]! =a:=by
  rw[getElem!_pos (b++[a]) n qf,List.getElem_append_right<|by rw[h.sh.1];exact Nat.le_refl _];simp
 refine⟨⟨hl,fun p hp=>?_⟩,fun p k hp hk=>?_⟩
 ·by_cases e:p=n
  ·subst e;rw[h2];exact⟨ha,hb⟩
  ·rw[h1 p qf];exact h.sh.2 p qf
 ·by_cases e:p=n
  ·subst e;rw[h2];exact he k hk
  ·rw[h1 p qf];exact h.eq p k qf hk
def jb(s:qO):Nat:=s.qN.toNat
abbrev zM(s:qO):Nat:=s.qA.length
def IntoUp(s:qO)(t:xn)(r:yu)(k:Nat):Prop:=∀j,j<k->t.xF[(r.xw[j]!).qZ.toNat]! =true/\zO s t (r.xw[j]!).qZ=r.qZ
theorem IntoUp.succ(h:IntoUp s t r k)(h1:t.xF[(r.xw[k]!).qZ.toNat]! =true)(h2:zO s t (r.xw[k]!).qZ=r.qZ):IntoUp s t r (k+1):=fun j hj=>by
 by_cases e:j=k
 ·subst e;exact⟨h1,h2⟩
 ·exact h j qf
def EnOk(s:qO)(t:xn)(r:yu):Prop:=
 t.xF[r.qZ.toNat]! =true/\within r.zU (t.qG[r.qZ.toNat]!)=true/\within r.jJ (t.qG[r.qZ.toNat]!)=true/\¬(0<VN r.jK/\within r.jK (t.qG[r.qZ.toNat]!)=true)/\IntoUp s t r r.xw.length
open Classical in
noncomputable def bestOf(s:qO)(t:xn)(z:Int)(c:Nat):Nat->Int
 |0=>z
 |k+1=>if EnOk s t (s.qB[k]!)/\(s.qB[k]!).qZ.toNat=c then max (bestOf s t z c k) (s.qB[k]!).yJ else bestOf s t z c k
noncomputable def bests(s:qO)(t:xn)(z:Int)(n k:Nat):yLI:=tabTo (fun c=>bestOf s t z c k) n
theorem XG(s:qO)(t:xn)(z:Int)(n k:Nat):(bests s t z n k).length=n:=tabTo_len _ _
theorem tab_get{g:Nat->Int}(h:c<n):(tabTo g n)[c]! =g c:=by
 rw[getElem!_pos (tabTo g n) c<|by rw[tabTo_len];exact h];simp[tabTo]
theorem bests_zero(s:qO)(t:xn)(z:Int)(n:Nat):List.replicate n z=bests s t z n 0:=by
 refine ext_get (by simp[XG]) fun k hk=>?_
 rw[List.length_replicate] at hk
 rw[bests,tab_get hk,getElem!_pos (List.replicate n z) k<|by simpa using hk];simp[bestOf]
theorem bests_get(h:c<n):(bests s t z n k)[c]! =bestOf s t z c k:=tab_get h
theorem bests_set(h:EnOk s t (s.qB[k]!))(hc:(s.qB[k]!).qZ.toNat<n):
 (bests s t z n k).set (s.qB[k]!).qZ.toNat (max ((bests s t z n k)[(s.qB[k]!).qZ.toNat]!) (s.qB[k]!).yJ)=bests s t z n (k+1):=by
 refine ext_get (by simp[XG]) fun p hp=>?_
 rw[List.length_set,XG] at hp
 rw[getset<|by rw[XG];exact hc,bests_get hc,bests_get hp,bests_get hp,bestOf]
 by_cases e:p=(s.qB[k]!).qZ.toNat
 ·rw[if_pos e,if_pos ⟨h,e.symm⟩,e]
 ·rw[if_neg e,if_neg fun x=>e x.2.symm]
theorem bests_skip(h:¬EnOk s t (s.qB[k]!)):bests s t z n k=bests s t z n (k+1):=by
 refine ext_get (by simp[XG]) fun p hp=>?_
 rw[XG] at hp
 rw[bests_get hp,bests_get hp,bestOf,if_neg fun x=>h x.1]
def Appl(s:qO)(t:xn)(i:Nat):Prop:=
 EnOk s t (s.qB[i]!)/\∀j,j<s.qB.length->EnOk s t (s.qB[j]!)->(s.qB[j]!).qZ.toNat=(s.qB[i]!).qZ.toNat->(s.qB[j]!).yJ<=(s.qB[i]!).yJ
theorem best_ge{s:qO}{t:xn}{z:Int}{c:Nat}:∀ {k j:Nat},j<k->EnOk s t (s.qB[j]!)->(s.qB[j]!).qZ.toNat=c->(s.qB[j]!).yJ<=bestOf s t z c k
 |k+1,j,h,h1,h2=>by
  rw[bestOf]
  by_cases e:j=k
  ·subst e;rw[if_pos ⟨h1,h2⟩];omega
  ·have:=best_ge (z:=z) (show j<k by omega) h1 h2
   split <;> omega
theorem best_le{s:qO}{t:xn}{z:Int}{c:Nat}{x:Int}(hz:z<=x):∀ {k:Nat},(∀j,j<k->EnOk s t (s.qB[j]!)->(s.qB[j]!).qZ.toNat=c->(s.qB[j]!).yJ<=x)->bestOf s t z c k<=x
 |0,_=>hz
 |k+1,h=>by
  rw[bestOf]
  have h1:=best_le hz (k:=k) fun j hj=>h j qf
  split
  ·next h2=>have:=h k qf h2.1 h2.2;omega
  ·exact h1
theorem appl_iff(hi:i<s.qB.length)(hz:z<=(s.qB[i]!).yJ):
 Appl s t i<->EnOk s t (s.qB[i]!)/\(s.qB[i]!).yJ=bestOf s t z (s.qB[i]!).qZ.toNat s.qB.length:=by
 constructor
 ·rintro⟨h1,h2⟩
  refine⟨h1,?_⟩
  have h3:=best_ge (z:=z) hi h1 rfl
  have h4:=best_le (c:=(s.qB[i]!).qZ.toNat) hz (k:=s.qB.length) h2
  omega
 ·rintro⟨h1,h2⟩
  exact⟨h1,fun j hj h3 h4=>by rw[h2];exact best_ge hj h3 h4⟩
noncomputable def applB(s:qO)(t:xn)(k m:Nat):List Bool:=(List.range m).map fun j=>if j<k then dec (Appl s t j) else dec (EnOk s t<|s.qB[j]!)
theorem applB_len(s:qO)(t:xn)(k m:Nat):(applB s t k m).length=m:=by simp[applB]
theorem applB_get{m:Nat}(h:j<m):(applB s t k m)[j]! =if j<k then dec (Appl s t j) else dec (EnOk s t<|s.qB[j]!):=by
 rw[getElem!_pos (applB s t k m) j<|by rw[applB_len];exact h];simp[applB]
theorem applB_snoc(s:qO)(t:xn)(m:Nat):applB s t 0 m++[dec<|EnOk s t<|s.qB[m]!]=applB s t 0 (m+1):=by simp[applB,List.range_succ]
theorem applB_set{m:Nat}{x:Bool}(hk:k<m)(hx:x=dec (Appl s t k)):(applB s t k m).set k x=applB s t (k+1) m:=by
 refine ext_get (by simp[applB_len]) fun p hp=>?_
 rw[List.length_set,applB_len] at hp
 rw[getset<|by rw[applB_len];exact hk,applB_get hp,applB_get hp]
 by_cases e:p=k
 ·subst e;rw[if_pos rfl,if_pos qf,hx]
 ·rw[if_neg e]
  by_cases e1:p<k
  ·rw[if_pos e1,if_pos qf]
  ·rw[if_neg e1,if_neg qf]
theorem applB_step0{m:Nat}(hk:k<m)(h:(applB s t k m)[k]! =false):false=dec (Appl s t k):=by
 rw[applB_get hk,if_neg qf] at h
 exact(xE fun x=>vF h x.1).symm
theorem applB_step1{m:Nat}(hk:k<m)(h:(applB s t k m)[k]! =true)(hm:m=s.qB.length)(hc:(s.qB[k]!).qZ.toNat<n)(hz:z<=(s.qB[k]!).yJ)(hi:i=s.qB.length):
 ((s.qB[k]!).yJ == (bests s t z n i)[(s.qB[k]!).qZ.toNat]!)=dec (Appl s t k):=by
 rw[applB_get hk,if_neg qf] at h
 refine dec_eq ?_
 rw[beq_iff_eq,bests_get hc,hi,appl_iff qf hz]
 exact⟨fun e=>⟨Qz h,e⟩,fun e=>e.2⟩
noncomputable def appl(s:qO)(t:xn):List Bool:=applB s t s.qB.length s.qB.length
theorem appl_len(s:qO)(t:xn):(appl s t).length=s.qB.length:=applB_len _ _ _ _
theorem appl_get(h:j<s.qB.length):(appl s t)[j]! =dec (Appl s t j):=by rw[appl,applB_get h,if_pos h]
theorem appl_true(h:j<s.qB.length)(h1:(appl s t)[j]! =true):Appl s t j:=Qz<|appl_get (s:=s) (t:=t) h▸h1
theorem appl_false(h:j<s.qB.length)(h1:(appl s t)[j]! =false):¬Appl s t j:=vF<|appl_get (s:=s) (t:=t) h▸h1
def HaltTo(s:qO)(t:xn)(k:Nat):Prop:=∀j,j<k->¬Appl s t j
theorem HaltTo.succ(h:HaltTo s t k)(h1:¬Appl s t k):HaltTo s t (k+1):=fun j hj=>by
 by_cases e:j=k
 ·subst e;exact h1
 ·exact h j qf
noncomputable def applL(s:qO)(t:xn)(k:Nat):yLI:=((List.range k).filter fun j=>dec<|Appl s t j).map Int.ofNat
theorem applL_yes(h:Appl s t k):applL s t k++[(k:Int)]=applL s t (k+1):=by simp[applL,List.range_succ,List.filter_append,Qx h]
theorem applL_no(h:¬Appl s t k):applL s t k=applL s t (k+1):=by simp[applL,List.range_succ,List.filter_append,xE h]
noncomputable def appls(s:qO)(t:xn):yLI:=applL s t s.qB.length
theorem applL_le(s:qO)(t:xn)(k:Nat):(applL s t k).length<=k:=by
 have:=List.length_filter_le (fun j=>dec<|Appl s t j)<|List.range k
 simpa [applL] using this
theorem appls_at{m:Nat}(hm:(applL s t m).length=q)(hn:m<=s.qB.length)(hq:q<(appls s t).length):
    ∃i:Nat,(appls s t)[q]! =(i:Int)/\m<=i/\i<s.qB.length/\Appl s t i/\(∀j,m<=j->j<i->¬Appl s t j)/\(applL s t<|i+1).length=q+1:=by
  have key:∀d m,m+d=s.qB.length->(applL s t m).length=q->∃i:Nat,(appls s t)[q]! =(i:Int)/\m<=i/\i<s.qB.length/\Appl s t i/\(∀j,m<=j->j<i->¬Appl s t j)/\(applL s t<|i+1).length=q+1:=by
    intro d
    induction d with
    | zero => intro m hd hl; exfalso; have e : m = s.qB.length := by omega
              subst e;unfold appls at hq;omega
    | succ d ih=>
      intro m hd hl
      by_cases ha:Appl s t m
      · have atb:∀d' k,m+1+d'=k->∃more,applL s t k=applL s t m++[(m:Int)]++more:=by
          intro d'
          induction d' with
          |zero=>intro k hk;subst hk;exact⟨[],by rw[Nat.add_zero,←applL_yes ha];simp⟩
          | succ d' ih' =>
            intro k hk
            obtain⟨more,mJ⟩:=ih' (m+1+d') rfl
            subst hk
            by_cases hb:Appl s t (m+1+d')
            · exact⟨more++[((m+1+d':Nat):Int)],by rw[←Nat.add_assoc,←applL_yes hb,mJ];simp⟩
            · exact⟨more,by rw[←Nat.add_assoc,←applL_no hb,mJ]⟩
        obtain⟨more,mJ⟩:=atb d s.qB.length qf
        refine⟨m,?_,Nat.le_refl _,by omega,ha,fun j h1 h2=>by omega,by rw[←applL_yes ha];simp[hl]⟩
        rw[appls,mJ,List.append_assoc,getElem!_pos (applL s t m++([(m:Int)]++more)) q<|by simp[hl],List.getElem_append_right qf]
        simp[hl]
      · obtain ⟨i,h1,h2,h3,h4,h5,h6⟩:=ih (m+1) qf (by rw [← applL_no ha];exact hl)
        exact⟨i,h1,by omega,h3,h4,fun j hj1 hj2=>by
          by_cases e:j=m
          · subst e;exact ha
          · exact h5 j qf hj2,h6⟩
  exact key (s.qB.length-m) m qf hm
theorem appls_end{m:Nat}(hm:(applL s t m).length=q)(hn:m<=s.qB.length)(hq:(appls s t).length<=q):∀j,m<=j->j<s.qB.length->¬Appl s t j:=by
 have key:∀d,∀m,m+d=s.qB.length->(appls s t).length<=(applL s t m).length->∀j,m<=j->j<s.qB.length->¬Appl s t j:=by
  intro d
  induction d with
  |zero=>intro m hd _ j h1 h2;omega
  |succ d ih=>
   intro m hd hl j h1 h2
   have mono:∀d' k,m+1+d'=k->(applL s t<|m+1).length<=(applL s t k).length:=by
    intro d'
    induction d' with
    |zero=>intro k hk;subst hk;exact Nat.le_refl _
    |succ d' ih'=>
     intro k hk
     subst hk
     have:=ih' (m+1+d') rfl
     rw[←Nat.add_assoc]
     by_cases hb:Appl s t (m+1+d')
     ·rw[←applL_yes hb];simp;omega
     ·rw[←applL_no hb];exact this
   have TG:=mono d s.qB.length qf
   by_cases ha:Appl s t m
   ·exfalso
    rw[←applL_yes ha] at TG
    simp at TG
    unfold appls at hl
    omega
   ·by_cases e:j=m
    ·subst e;exact ha
    ·exact ih (m+1) qf (by rw[←applL_no ha];exact hl) j qf h2
 exact key (s.qB.length-m) m qf qf
theorem Qr.rule(h:Qr s)(hi:i<s.qB.length):RuleOk s (s.qB[i]!):=(h.2.2 i hi).1
theorem RuleOk.cell(h:RuleOk s r):r.qZ.toNat<zM s:=by have:=h.1.1;have:=h.1.2;unfold zM;omega
theorem vW.len(h:vW s.qN l):l.length=jb s:=by have:=h.2;unfold jb;omega
theorem vW.get{n:Int}(h:vW n l)(hk:k<l.length):0<=l[k]! /\l[k]! <=1000:=h.1.1 k hk
theorem vW.mul(h:vW s.qN m){t:Int}(ht: -1000<=t/\t<=1000):∀k,k<jb s-> -1000000<=t*m[k]! /\t*m[k]! <=1000000:=fun k hk=>by
 have h1:=h.1.1 k<|by rw[h.len];exact hk
 rcases Int.le_total 0 t with h0|h0
 ·have h2:=Int.mul_nonneg h0 h1.1
  have h3:=Int.mul_le_mul_of_nonneg_left h1.2 h0
  omega
 ·have h2:=Int.mul_nonneg (show 0<= -t by omega) h1.1
  have h3:=Int.mul_le_mul_of_nonneg_left h1.2<|show 0<= -t by omega
  have h4: -t*m[k]! = -(t*m[k]!):=Int.neg_mul ..
  omega
theorem vW.Qp(h:vW s.qN m){t:Int}(ht: -1000<=t/\t<=1000):X8 m t:=bagOk_smallT h qf
theorem XR(h:Qr s):jb s<=8:=by have:=h.1.1.2;unfold jb;omega
theorem vU.shape(h:vU s t):Shape (zM s) (jb s) 1000 t.qG:=by
 refine⟨h.2.1,fun p hp=>?_⟩
 have hb:=h.bagLen (k:=p)<|by rw[h.2.1];exact hp
 refine⟨hb.len,fun k hk=>?_⟩
 have:=hb.get (k:=k)<|by rw[hb.len];exact hk
 omega
def CntOk(s:qO)(counts:yLI):Prop:=counts.length=s.qB.length/\∀i,i<counts.length->0<=counts[i]! /\counts[i]! <=1000
theorem CntOk.bd{counts:yLI}(h:CntOk s counts)(hi:i<s.qB.length):0<=counts[i]! /\counts[i]! <=1000:=h.2 i<|by rw[h.1];exact hi
def restR(s:qO)(t:xn)(counts:yLI):Nat->yLL
 |0=>t.qG
 |k+1=>(restR s t counts k).set (s.qB[k]!).qZ.toNat<|jc ((restR s t counts k)[(s.qB[k]!).qZ.toNat]!) (s.qB[k]!).zU (-(counts[k]!))
def needF(s:qO)(counts:yLI)(i p k:Nat):Int:=at' p (s.qB[i]!).qZ.toNat (-(counts[i]!)*((s.qB[i]!).zU)[k]!)
def needS(s:qO)(counts:yLI):Nat->Nat->Nat->Int
 |0,_,_=>0
 |i+1,p,k=>needS s counts i p k+needF s counts i p k
theorem restR_ent{s:qO}{t:xn}{counts:yLI}(hs:Qr s)(ht:vU s t)(hc:CntOk s counts):∀k,k<=s.qB.length→
 Ent (zM s) (jb s) (fun p q=>(t.qG[p]!)[q]! +needS s counts k p q) (1000+1000000*k) (restR s t counts k)
 |0,_=>⟨by simpa [restR] using ht.shape,fun p k hp hk=>by simp[restR,needS]⟩
 |k+1,h=>by
  have hr:=hs.rule (i:=k) qf
  have hcb:=hc.bd (i:=k) qf
  refine((restR_ent hs ht hc k qf).add (D:=1000000) rfl hr.cell (hr.2.2.2.2.1.mul qf) qf).to (fun p q=>?_) qf
  show _=_+(needS s counts k p q+needF s counts k p q)
  unfold needF;omega
theorem restR_row{counts:yLI}(hs:Qr s)(ht:vU s t)(hc:CntOk s counts)(hk:k<=s.qB.length)(h:c<zM s):
 ((restR s t counts k)[c]!).length=jb s/\Mid ((restR s t counts k)[c]!):=(restR_ent hs ht hc k hk).sh.row (by have:=hs.2.1;omega) (XR hs) h
theorem restR_len{s:qO}{t:xn}{counts:yLI}:∀k,(restR s t counts k).length=t.qG.length
 |0=>rfl
 |k+1=>by rw[restR,List.length_set];exact restR_len k
theorem restR_skip{counts:yLI}(hs:Qr s)(ht:vU s t)(hk:k<s.qB.length)(h:counts[k]! =0):restR s t counts (k+1)=restR s t counts k:=by
 rw[restR,plus_zero qf]
 exact set_self (by rw[restR_len,ht.2.1];exact(hs.rule hk).cell) rfl
def BadAt(s:qO)(t:xn)(counts:yLI)(i:Nat):Prop:=0<counts[i]! /\¬Appl s t i
def GoodTo(s:qO)(t:xn)(counts:yLI)(k:Nat):Prop:=∀i,i<k->¬BadAt s t counts i
theorem GoodTo.succ{counts:yLI}(h:GoodTo s t counts k)(h1:¬BadAt s t counts k):GoodTo s t counts (k+1):=fun j hj=>by
 by_cases e:j=k
 ·subst e;exact h1
 ·exact h j qf
def NonNeg(b:yLL)(n:Nat):Prop:=∀p,p<n->∀k,k<(b[p]!).length->0<=(b[p]!)[k]!
theorem NonNeg.succ(h:NonNeg b n)(h1:∀k,k<(b[n]!).length->0<=(b[n]!)[k]!):NonNeg b (n+1):=fun j hj=>by
 by_cases e:j=n
 ·subst e;exact h1
 ·exact h j qf
def IsCh(s:qO)(t:xn)(counts:yLI):Prop:=GoodTo s t counts counts.length/\NonNeg (restR s t counts counts.length) t.qG.length
def Q9(l m:yLI):Nat->Int
 |0=>1000
 |k+1=>if 0<l[k]! then min (Q9 l m k) (m[k]! / l[k]!) else Q9 l m k
def Xr(l m:yLI):Int:=Q9 l m l.length
theorem timesTo_pos(h:0<l[k]!):Q9 l m (k+1)=min (Q9 l m k) (m[k]! / l[k]!):=by rw[Q9,if_pos h]
theorem timesTo_skip(h:¬0<l[k]!):Q9 l m (k+1)=Q9 l m k:=by rw[Q9,if_neg h]
theorem VG{l m:yLI}(hm:∀k,k<l.length->0<=m[k]!):∀k,k<=l.length->0<=Q9 l m k/\Q9 l m k<=1000
 |0,_=>by simp[Q9]
 |k+1,h=>by
  have:=VG hm k qf
  rw[Q9]
  split
  ·next h1=>have:=Int.ediv_nonneg (hm k qf) (show 0<=l[k]! by omega);omega
  ·exact this
theorem timesTo_le{l m:yLI}:∀ {k j:Nat},j<k->0<l[j]! ->Q9 l m k<=m[j]! / l[j]!
 |k+1,j,h,h1=>by
  rw[Q9]
  by_cases e:j=k
  ·subst e;rw[if_pos h1];omega
  ·have:=timesTo_le (m:=m) (show j<k by omega) h1
   split <;> omega
theorem timesL_left(hl:∀k,k<l.length->0<=l[k]!)(hm:∀k,k<l.length->0<=m[k]!)(hk:k<l.length):0<=m[k]! + -(Xr l m)*l[k]! :=by
 rcases Int.lt_or_eq_of_le (hl k hk) with h|h
 ·have h1:=timesTo_le (m:=m) hk h
  have h2:m[k]! / l[k]!*l[k]! <=m[k]! :=Int.ediv_mul_le _ qf
  have h3:=Int.mul_le_mul_of_nonneg_right h1<|show 0<=l[k]! by omega
  have h4: -(Xr l m)*l[k]! = -(Xr l m*l[k]!):=Int.neg_mul ..
  unfold Xr at *
  omega
 ·rw[←h];have:=hm k hk;omega
def Xq(l m:yLI)(i:Nat)(gP:Int):Prop:=(gP=Q9 l m i/\∃j,j<i/\0<l[j]!)\/(gP= -1/\Q9 l m i=1000/\∀j,j<i->l[j]! <=0)
theorem Xq.zero(l m:yLI):Xq l m 0 (-1):=.inr ⟨rfl,rfl,fun j hj=>by omega⟩
theorem Xq.take(h:Xq l m i gP)(hm:0<=m[i]! /\m[i]! <=1000)(hl:0<l[i]!)(hb:gP<0\/m[i]! / l[i]!<gP)(hn:0<=Q9 l m i):Xq l m (i+1) (m[i]! / l[i]!):=by
 refine .inl ⟨?_,i,by omega,hl⟩
 rw[timesTo_pos hl]
 have h1:m[i]! / l[i]! <=m[i]! :=Int.ediv_le_self _ hm.1
 rcases h with ⟨h,_⟩|⟨h,h2,_⟩ <;> omega
theorem Xq.keep(h:Xq l m i gP)(hl:¬0<l[i]!):Xq l m (i+1) gP:=by
 unfold Xq
 rw[timesTo_skip hl]
 rcases h with ⟨h,j,h1,h2⟩|⟨h,h2,h3⟩
 ·exact .inl ⟨h,j,by omega,h2⟩
 ·refine .inr ⟨h,h2,fun j hj=>?_⟩
  by_cases e:j=i
  ·subst e;omega
  ·exact h3 j qf
theorem Xq.keep2(h:Xq l m i gP)(hl:0<l[i]!)(hb:¬gP<0)(hn:¬m[i]! / l[i]!<gP):Xq l m (i+1) gP:=by
 refine .inl ⟨?_,i,by omega,hl⟩
 rw[timesTo_pos hl]
 rcases h with ⟨h,_⟩|⟨h,_⟩ <;> omega
theorem Xq.done(h:Xq l m i gP)(hp:∃j,j<i/\0<l[j]!):gP=Q9 l m i:=by
 rcases h with ⟨h,_⟩|⟨_,_,h3⟩
 ·exact h
 ·obtain⟨j,h1,h2⟩:=hp
  have:=h3 j h1;omega
theorem sum_pos(h:VM l)(h1:VN l≠0):∃j,j<l.length/\0<l[j]! :=by
 apply Classical.byContradiction
 intro hn
 have h0:∀k,k<=l.length->sumTo l k=0:=by
  intro k
  induction k with
  |zero=>intro _;rfl
  |succ k ih=>
   intro hk
   have h2:=h.1 k qf
   have h3:¬0<l[k]! :=fun h4=>hn ⟨k,by omega,h4⟩
   rw[sumTo,ih qf];omega
 exact h1<|h0 _<|Nat.le_refl _
open Classical in
noncomputable def jR(s:qO)(t:xn):Nat->yLL
 |0=>t.qG
 |k+1=>if Appl s t k then (jR s t k).set (s.qB[k]!).qZ.toNat (jc ((jR s t k)[(s.qB[k]!).qZ.toNat]!) (s.qB[k]!).zU (-(Xr (s.qB[k]!).zU ((jR s t k)[(s.qB[k]!).qZ.toNat]!)))) else jR s t k
open Classical in
noncomputable def firstC(s:qO)(t:xn)(k:Nat):Int:=if Appl s t k then Xr (s.qB[k]!).zU ((jR s t k)[(s.qB[k]!).qZ.toNat]!) else 0
noncomputable def firstTo(s:qO)(t:xn)(m n:Nat):yLI:=(List.range n).map fun j=>if j<m then firstC s t j else 0
noncomputable def xG(s:qO)(t:xn):yLI:=firstTo s t s.qB.length s.qB.length
theorem firstR_yes(h:Appl s t k):jR s t (k+1)=(jR s t k).set (s.qB[k]!).qZ.toNat (jc ((jR s t k)[(s.qB[k]!).qZ.toNat]!) (s.qB[k]!).zU (-(Xr (s.qB[k]!).zU ((jR s t k)[(s.qB[k]!).qZ.toNat]!)))):=by rw[jR,if_pos h]
theorem firstR_no(h:¬Appl s t k):jR s t (k+1)=jR s t k:=by rw[jR,if_neg h]
theorem firstR_skip{s:qO}{t:xn}{m:Nat}:∀ {d:Nat},(∀j,m<=j->j<m+d->¬Appl s t j)->jR s t (m+d)=jR s t m
 |0,_=>rfl
 |d+1,h=>by rw[←Nat.add_assoc,firstR_no<|h (m+d) qf qf,firstR_skip fun j h1 h2=>h j h1 qf]
theorem firstR_same{m:Nat}(hm:m<=i)(h:∀j,m<=j->j<i->¬Appl s t j):jR s t i=jR s t m:=by
 obtain⟨d,rfl⟩:∃d,i=m+d:=⟨i-m,by omega⟩
 exact firstR_skip h
theorem XJ(h:Appl s t k):firstC s t k=Xr (s.qB[k]!).zU ((jR s t k)[(s.qB[k]!).qZ.toNat]!):=by rw[firstC,if_pos h]
theorem firstC_no(h:¬Appl s t k):firstC s t k=0:=by rw[firstC,if_neg h]
theorem yh(s:qO)(t:xn)(m n:Nat):(firstTo s t m n).length=n:=by simp[firstTo]
theorem XC{m:Nat}(h:j<n):(firstTo s t m n)[j]! =if j<m then firstC s t j else 0:=by
 rw[getElem!_pos (firstTo s t m n) j<|by rw[yh];exact h];simp[firstTo]
theorem firstTo_snoc(s:qO)(t:xn)(m:Nat):firstTo s t m m++[firstC s t m]=firstTo s t (m+1) (m+1):=by
 refine ext_get (by simp[yh]) fun k hk=>?_
 rw[List.length_append,yh] at hk
 simp only[List.length_cons,List.length_nil] at hk
 rw[XC qf,if_pos qf]
 rw[getElem!_pos (firstTo s t m m++[firstC s t m]) k<|by simp[yh];omega]
 by_cases e:k=m
 ·subst e;rw[List.getElem_append_right<|by simp[yh]];simp[yh]
 ·rw[List.getElem_append_left<|by rw[yh];omega]
  have:=XC (s:=s) (t:=t) (m:=m) (n:=m) (j:=k) qf
  rw[getElem!_pos (firstTo s t m m) k<|by rw[yh];omega,if_pos qf] at this
  exact this
theorem firstTo_snoc'{m:Nat}(h:x=firstC s t m):firstTo s t m m++[x]=firstTo s t (m+1) (m+1):=h▸firstTo_snoc s t m
theorem firstTo_zero(s:qO)(t:xn)(n:Nat):List.replicate n (0:Int)=firstTo s t 0 n:=by
 refine ext_get (by simp[yh]) fun k hk=>?_
 rw[List.length_replicate] at hk
 rw[XC hk,if_neg qf,getElem!_pos (List.replicate n (0:Int)) k<|by simpa using hk];simp
theorem firstTo_set{m:Nat}(hm:m<=i)(hi:i<n)(h:∀j,m<=j->j<i->¬Appl s t j)(hx:x=firstC s t i):(firstTo s t m n).set i x=firstTo s t (i+1) n:=by
 refine ext_get (by simp[yh]) fun k hk=>?_
 rw[List.length_set,yh] at hk
 rw[getset<|by rw[yh];exact hi,XC hk,XC hk]
 by_cases e:k=i
 ·subst e;rw[if_pos rfl,if_pos qf,hx]
 ·rw[if_neg e]
  by_cases h1:k<m
  ·rw[if_pos h1,if_pos qf]
  ·rw[if_neg h1]
   by_cases h2:k<i
   ·rw[if_pos qf,firstC_no<|h k qf h2]
   ·rw[if_neg qf]
theorem firstTo_end{m:Nat}(hm:m<=n)(h:∀j,m<=j->j<n->¬Appl s t j):firstTo s t m n=firstTo s t n n:=by
 refine ext_get (by simp[yh]) fun k hk=>?_
 rw[yh] at hk
 rw[XC hk,XC hk,if_pos hk]
 by_cases h1:k<m
 ·rw[if_pos h1]
 ·rw[if_neg h1,firstC_no<|h k qf hk]
def Box(n K:Nat)(b:yLL):Prop:=b.length=n/\∀p,p<n->(b[p]!).length=K/\∀k,k<K->0<=(b[p]!)[k]! /\(b[p]!)[k]! <=1000
theorem vU.box(h:vU s t):Box (zM s) (jb s) t.qG:=by
 refine⟨h.2.1,fun p hp=>?_⟩
 have hb:=h.bagLen (k:=p)<|by rw[h.2.1];exact hp
 exact⟨hb.len,fun k hk=>hb.get<|by rw[hb.len];exact hk⟩
theorem firstR_box{s:qO}{t:xn}(hs:Qr s)(ht:vU s t):∀k,k<=s.qB.length->Box (zM s) (jb s) (jR s t k)
 |0,_=>ht.box
 |k+1,h=>by
  have ih:=firstR_box hs ht k qf
  by_cases ha:Appl s t k
  ·rw[firstR_yes ha]
   have hr:=hs.rule (i:=k) qf
   have hb:=hr.2.2.2.2.1
   have hc:=ih.2 _ hr.cell
   refine⟨by rw[List.length_set];exact ih.1,fun p hp=>?_⟩
   rw[getset<|by rw[ih.1];exact hr.cell]
   by_cases e:p=(s.qB[k]!).qZ.toNat
   ·rw[if_pos e,Qy]
    refine⟨hc.1,fun q hq=>?_⟩
    rw[plus_get<|by rw[hc.1];exact hq]
    have h1:=timesL_left (l:=(s.qB[k]!).zU) (m:=(jR s t k)[(s.qB[k]!).qZ.toNat]!) (fun j hj=>(hb.get hj).1) (fun j hj=>(hc.2 j<|by rw[←hb.len];exact hj).1) (k:=q)<|by rw[hb.len];exact hq
    refine⟨h1,?_⟩
    have h2:=VG (l:=(s.qB[k]!).zU) (m:=(jR s t k)[(s.qB[k]!).qZ.toNat]!) (fun j hj=>(hc.2 j<|by rw[←hb.len];exact hj).1) _<|Nat.le_refl _
    have h3:=Int.mul_nonneg h2.1 (hb.get (k:=q)<|by rw[hb.len];exact hq).1
    have h4:=(hc.2 q hq).2
    have h5: -(Xr (s.qB[k]!).zU ((jR s t k)[(s.qB[k]!).qZ.toNat]!))*((s.qB[k]!).zU)[q]! = -(Xr (s.qB[k]!).zU ((jR s t k)[(s.qB[k]!).qZ.toNat]!)*((s.qB[k]!).zU)[q]!):=Int.neg_mul ..
    unfold Xr at *
    omega
   ·rw[if_neg e];exact ih.2 p hp
  ·rw[firstR_no ha];exact ih
theorem firstR_row(hs:Qr s)(ht:vU s t)(hk:k<=s.qB.length)(h:c<zM s):
 ((jR s t k)[c]!).length=jb s/\Mid ((jR s t k)[c]!)/\∀q,q<jb s->0<=((jR s t k)[c]!)[q]! /\((jR s t k)[c]!)[q]! <=1000:=by
 have h1:=(firstR_box hs ht k hk).2 c h
 have:=XR hs
 exact⟨h1.1,⟨by have:=h1.1;omega,fun q hq=>by have:=h1.2 q (by have:=h1.1;omega);omega⟩,h1.2⟩
theorem firstC_bd(hs:Qr s)(ht:vU s t)(hk:k<s.qB.length):0<=firstC s t k/\firstC s t k<=1000:=by
 by_cases ha:Appl s t k
 ·rw[XJ ha]
  have hr:=hs.rule hk
  have hc:=firstR_row hs ht (Nat.le_of_lt hk) hr.cell
  exact VG (fun j hj=>(hc.2.2 j<|by rw[←hr.2.2.2.2.1.len];exact hj).1) _<|Nat.le_refl _
 ·rw[firstC_no ha];omega
theorem Vo(hs:Qr s)(ht:vU s t):CntOk s (xG s t):=by
 refine⟨yh _ _ _ _,fun i hi=>?_⟩
 rw[xG,yh] at hi
 rw[xG,XC hi,if_pos hi]
 exact firstC_bd hs ht hi
theorem first_rest{s:qO}{t:xn}(hs:Qr s)(ht:vU s t):∀k,k<=s.qB.length->restR s t (xG s t) k=jR s t k
 |0,_=>rfl
 |k+1,h=>by
  have ih:=first_rest hs ht k qf
  have hg:(xG s t)[k]! =firstC s t k:=by rw[xG,XC qf,if_pos qf]
  by_cases ha:Appl s t k
  ·rw[firstR_yes ha,restR,ih,hg,XJ ha]
  ·rw[firstR_no ha,restR_skip hs ht qf<|by rw[hg,firstC_no ha],ih]
theorem parentNow_root(hs:jZ s):zO s t 0= -1:=by
 unfold zO
 rw[show s.qA[(0:Int).toNat]! = -1 from hs.2.2.1]
 exact climb_end fun h=>by omega
def outPl(s:qO)(t:xn)(r:yu):Nat:=if r.qZ=0 then zM s else (zO s t r.qZ).toNat
theorem outPl_root(h:r.qZ=0):outPl s t r=zM s:=by rw[outPl,if_pos h]
theorem outPl_up(h:r.qZ≠0):outPl s t r=(zO s t r.qZ).toNat:=by rw[outPl,if_neg h]
def intoF(r:yu)(c:Int):Nat->Nat->Nat->Int
 |0,_,_=>0
 |j+1,p,k=>intoF r c j p k+at' p (r.xw[j]!).qZ.toNat (c*((r.xw[j]!).Xa)[k]!)
def putF(s:qO)(t:xn)(r:yu)(c:Int)(p k:Nat):Int:=at' p r.qZ.toNat (c*r.jF[k]!)+at' p (outPl s t r) (c*r.QL[k]!)+intoF r c r.xw.length p k
def allS(s:qO)(t:xn)(counts:yLI):Nat->Nat->Nat->Int
 |0,_,_=>0
 |i+1,p,k=>allS s t counts i p k+needF s counts i p k+putF s t (s.qB[i]!) (counts[i]!) p k
theorem at_zero(p c:Nat)(x:Int):at' p c (0*x)=0:=by unfold at';split <;> simp
theorem intoF_zero(r:yu)(p k:Nat):∀j,intoF r 0 j p k=0
 |0=>rfl
 |j+1=>by rw[intoF,intoF_zero r p k j,at_zero];rfl
theorem putF_zero(s:qO)(t:xn)(r:yu){c:Int}(h:c=0)(p k:Nat):putF s t r c p k=0:=by
 subst h;rw[putF,at_zero,at_zero,intoF_zero];rfl
def base0(s:qO)(t:xn)(p k:Nat):Int:=if p<zM s then (t.qG[p]!)[k]! else t.qF[k]!
def stepF(s:qO)(t:xn)(counts:yLI)(p k:Nat):Int:=base0 s t p k+allS s t counts s.qB.length p k
noncomputable def stepped(s:qO)(t:xn)(counts:yLI):xn:=
 ⟨t.xF,(tab2 (zM s+1) (jb s)<|stepF s t counts).take<|zM s,(tab2 (zM s+1) (jb s)<|stepF s t counts)[zM s]!⟩
theorem vU.around(h:vU s t):t.qF.length=jb s/\∀k,k<jb s->0<=t.qF[k]! /\t.qF[k]! <=1000:=by
 have hb:=h.2.2.2.1
 exact⟨hb.len,fun k hk=>hb.get<|by rw[hb.len];exact hk⟩
theorem cat_get(hc:c<b.length):(b++[a])[c]! =b[c]! :=by
 rw[getElem!_pos (b++[a]) c qy,getElem!_pos b c hc,List.getElem_append_left hc]
theorem cat_getN(h:b.length=n):(b++[a])[n]! =a:=by
 rw[getElem!_pos (b++[a]) n qy,List.getElem_append_right qf];simp[h]
def MeltsTo(s:qO)(counts:yLI)(c:Int)(k:Nat):Prop:=∃i,i<k/\0<counts[i]! /\(s.qB[i]!).jw=true/\(s.qB[i]!).qZ=c
abbrev Melts(s:qO)(counts:yLI)(c:Int):Prop:=MeltsTo s counts c s.qB.length
open Classical in
noncomputable def meltDown(s:qO)(counts:yLI)(u:xn):Nat->xn
 |0=>u
 |j+1=>if Melts s counts ((zM s:Int)-1-j) then melted s (meltDown s counts u j) ((zM s:Int)-1-j) else meltDown s counts u j
structure Live(s:qO)(B:Int)(u:xn):Prop where
 alive:u.xF.length=zM s
 root:u.xF[0]! =true
 bags:Shape (zM s) (jb s) B u.qG
 around:u.qF.length=jb s
theorem Live.mono{s:qO}{B D:Int}{u:xn}(h:Live s B u)(hD:B<=D):Live s D u:=⟨h.alive,h.root,h.bags.mono hD,h.around⟩
theorem Live.rows{u:xn}(hs:Qr s)(h:Live s B u)(hB:B<=12800000000)(hp:p<zM s)(hc:c<zM s):
 (u.qG[p]!).length<=(u.qG[c]!).length/\Mid (u.qG[p]!)/\X8 (u.qG[c]!) 1:=by
 have h1:=h.bags.row qf (XR hs) hp
 have h2:=h.bags.row qf (XR hs) hc
 refine⟨by omega,h1.2,fun k hk=>?_⟩
 have:=h2.2.2 k hk
 omega
noncomputable def stepRes(s:qO)(t:xn)(counts:yLI):xn×Int:=told s<|meltDown s counts (stepped s t counts)<|zM s-1
open Classical in
noncomputable def stepBy(s:qO)(t:xn)(counts:yLI):xn×Int:=if IsCh s t counts then stepRes s t counts else (default,4)
end
section
variable{cl cm bs os qR xx bt ot zI vk zf : Nat}
theorem l00Max_ok(w:World)(a:Int)(b:Int):Calls Tryz.prog 147 #[yI a,yI b] w (Ret (fun v w'=>v=yI (max a b)) w):=by
 refine en func147 ntmps147 ?_
 have H:=St.start w
 refine zcr<|sp (yI 0)<|zjcc<|sp (yI a)<|sp (yI b)<|sq 1<|zjn<|cD rfl (fun h1=>?_)<|fun h1=>?_
 ·refine zcr (sp (yI a)<|sp (yI a)<|zjr<|t_r<|rH1 (yI a) H<|congrArg (Value.int .i64) ?_)
  omega
 refine qW<|t_n<|zcr<|sp (yI b)<|sp (yI b)<|zjr<|rH1 (yI b) H<|congrArg (Value.int .i64) ?_
 omega
theorem l01Within_ok(w:World)(l:yLI)(m:yLI)(hl:zP w Fl al cl l)(hm:zP w Fm am cm m)(p0:l.length<=m.length):Calls Tryz.prog 181 #[Sv al l.length cl,Sv am m.length cm] w (Ret (fun v w'=>v=Bv (within l m)) w):=by
 refine en func181 ntmps181 ?_
 have H:=((St.start w).arg hm).arg hl
 have C5:=qM hl
 have nhm:=qM hm
 clear hl hm
 have N:=Fresh.nil w.heap.size
 refine zcr<|sp (Bv false)<|zjcc<|sp (yI 0)<|zjn<|xe<|zT ((fun Z0 Z1=>fun m' ρ w1=>∃(xP:Env) (i:Nat),ρ=upd (upd (upd xP 0<|Sv al l.length cl) 1<|Sv am m.length cm) 5 (yI i)/\((i:Int)<=l.length)/\(withinTo l m i)/\m'=(l.length-(i:Int)).toNat/\Fresh w.heap.size []/\St w w1 [] [Z0,Z1]) _ _) ((l.length-(0:Int)).toNat) ⟨_,0,uE3,qf,(by exact withinTo_zero l m),rfl,N,H⟩ ?_
 clear H N
 rintro m' ρ w2 ⟨xP,i,rfl,i0,i1,rfl,N,H⟩
 refine zcc<|sp (yI i)<|sq 1<|oN rfl<|sq 1<|zjn<|cD rfl (fun h3=>?_)<|fun h3=>?_
 ·refine qW (t_n<|xM<|xe<|xM<|QE rfl H fun H=>rtl 0 H ?_)
  refine rtp 1 (yI i) H ?_
  obtain⟨b5,o6,rfl⟩:=H.addr 0 rfl qf
  refine tI 2 rfl rfl rfl H ?_
  refine tL 3 rfl rfl (fun _ h=>h.vG 0 rfl i qf) H ?_
  refine rtl 4 H ?_
  refine rtp 5 (yI i) H ?_
  obtain⟨b8,o9,rfl⟩:=H.addr 1 rfl qf
  refine tI 6 rfl rfl rfl H ?_
  refine tL 7 rfl rfl (fun _ h=>h.vG 1 rfl i qf) H ?_
  refine rtl 8 H ?_
  refine xy qh<|t_n<|cD rfl (fun cZ=>?_)<|fun cZ=>?_
  ·refine zcr (sp (Bv false)<|zjr<|zr5<|rH1 (Bv false) H ?_)
   rw[within_no (k:=i) ‹_› qf]
  refine qW<|b_n<|t_n<|xX<|sp (yI i)<|sw<|zS i 1 rfl rfl qf<|sq 1<|xU<|xu (m':=(l.length-((i+1):Int)).toNat) qf ⟨_,i+1,uE3,?_,?_,rfl,N,H⟩
  ·omega
  ·exact withinTo_succ ‹_› qf
 refine zx4<|zcr<|sp (Bv true)<|zjr<|rH1 (Bv true) H ?_
 rw[within_yes ‹_› qf]
theorem l01Times_ok(w:World)(l:yLI)(m:yLI)(hl:zP w Fl al cl l)(hm:zP w Fm am cm m)(p0:l.length<=m.length)(p2:∀k,k<l.length->0<=m[k]! /\m[k]! <=1000)(p3:∃j,j<l.length/\0<l[j]!):Calls Tryz.prog 178 #[Sv al l.length cl,Sv am m.length cm] w (Ret (fun v w'=>v=yI (Xr l m)) w):=by
 refine en func178 ntmps178 ?_
 have H:=((St.start w).arg hm).arg hl
 have C5:=qM hl
 have nhm:=qM hm
 clear hl hm
 have N:=Fresh.nil w.heap.size
 refine zcr<|sp (yI 0)<|zjc<|sq 1<|zjcc<|sp (yI 0)<|zjn<|xe<|zT ((fun Z0 Z1=>fun m' ρ w1=>∃(xP:Env) (gP:Int) (i:Nat),ρ=upd (upd (upd (upd xP 0<|Sv al l.length cl) 1<|Sv am m.length cm) 5<|yI gP) 6 (yI i)/\((i:Int)<=l.length)/\(Xq l m i gP)/\m'=(l.length-(i:Int)).toNat/\Fresh w.heap.size []/\St w w1 [] [Z0,Z1]) _ _) ((l.length-(0:Int)).toNat) ⟨_,(-1),0,uE4,qf,(by exact Xq.zero l m),rfl,N,H⟩ ?_
 clear H N
 rintro m' ρ w2 ⟨xP,gP,i,rfl,i0,i1,rfl,N,H⟩
 refine zcc<|sp (yI i)<|sq 1<|oN rfl<|sq 1<|zjn<|cD rfl (fun h3=>?_)<|fun h3=>?_
 ·refine qW (t_n<|xM<|xe<|xM<|QE rfl H fun H=>rtl 0 H ?_)
  refine rtp 1 (yI i) H ?_
  obtain⟨b5,o6,rfl⟩:=H.addr 0 rfl qf
  refine tI 2 rfl rfl rfl H ?_
  refine tL 3 rfl rfl (fun _ h=>h.vG 0 rfl i qf) H ?_
  refine rtp 4 (Bv<|decide ((l[i]! :Int)>0)) H ?_
  refine rtp 5 (Bv<|decide ((l[i]! :Int)>0)) H ?_
  cases h8:(decide ((l[i]! :Int)>0))
  ·replace h8:=of_decide_eq_false h8
   refine zZ (zR 6 15) 15 (H)<|rtp 21 (Bv false) H ?_
   refine xy qh<|t_n<|cFr rfl<|qW<|b_n<|t_n<|xX<|sp (yI i)<|sw<|zS i 1 rfl rfl (by(have:=p2 i qf;omega))<|sq 1<|xU<|xu (m':=(l.length-((i+1):Int)).toNat) qf ⟨_,_,i+1,uE4,?_,?_,rfl,N,H⟩
   ·omega
   ·exact i1.keep qf
  replace h8:=of_decide_eq_true h8
  refine rgl 6 18 H ?_
  refine rgp 7 (Bv<|decide ((gP:Int)<0)) 18 H ?_
  refine rgp 8 (Bv<|decide ((gP:Int)<0)) 18 H ?_
  cases h9:(decide ((gP:Int)<0))
  ·replace h9:=of_decide_eq_false h9
   refine rgl 9 21 H ?_
   refine rgp 10 (yI i) 21 H ?_
   obtain⟨wS,o11,rfl⟩:=H.addr 1 rfl qf
   refine gI 11 rfl rfl rfl H ?_
   refine gL 12 rfl rfl (fun _ h=>h.vG 1 rfl i qf) H ?_
   refine rgl 13 21 H ?_
   refine rgp 14 (yI i) 21 H ?_
   refine gI 15 rfl rfl rfl H ?_
   refine gL 16 rfl rfl (fun _ h=>h.vG 0 rfl i qf) H ?_
   refine rg 17 _ 21 (y_quo (m[i]!) (l[i]!) rfl rfl (by(have:=p2 i qf;omega))<|by(have:=p2 i qf;omega)) H ?_
   refine rgl 18 21 H ?_
   refine rgl 19 21 H ?_
   refine rgl 20 18 H ?_
   refine rtl 21 H ?_
   refine xy qh<|t_n<|cD rfl (fun Ed=>?_)<|fun Ed=>?_
   ·refine QE rfl H fun H=>rtl 0 H ?_
    refine rtp 1 (yI i) H ?_
    refine tI 2 rfl rfl rfl H ?_
    refine tL 3 rfl rfl (fun _ h=>h.vG 1 rfl i qf) H ?_
    refine rtl 4 H ?_
    refine rtp 5 (yI i) H ?_
    refine tI 6 rfl rfl rfl H ?_
    refine tL 7 rfl rfl (fun _ h=>h.vG 0 rfl i qf) H ?_
    refine rt 8 _ (y_quo (m[i]!) (l[i]!) rfl rfl (by(have:=p2 i qf;omega))<|by(have:=p2 i qf;omega)) H ?_
    refine rtl 9 H ?_
    refine xy qh<|b_n<|t_n<|xX<|sp (yI i)<|sw<|zS i 1 rfl rfl (by(have:=p2 i qf;omega))<|sq 1<|xU<|xu (m':=(l.length-((i+1):Int)).toNat) qf ⟨_,_,i+1,uE4,?_,?_,rfl,N,H⟩
    ·omega
    ·exact i1.take (p2 i qf) qf qf (VG (fun k hk=>(p2 k hk).1) i qf).1
   refine qW<|b_n<|t_n<|xX<|sp (yI i)<|sw<|zS i 1 rfl rfl (by(have:=p2 i qf;omega))<|sq 1<|xU<|xu (m':=(l.length-((i+1):Int)).toNat) qf ⟨_,_,i+1,uE4,?_,?_,rfl,N,H⟩
   ·omega
   ·exact i1.keep2 qf qf qf
  replace h9:=of_decide_eq_true h9
  refine zZ (zR 9 11) 11 (H)<|rgp 20 (Bv true) 18 H ?_
  refine rtp 21 (Bv true) H ?_
  refine xy qh<|t_n<|cTr rfl ((QE rfl H fun H=>rtl 0 H ?_))
  refine rtp 1 (yI i) H ?_
  obtain⟨VT,o17,rfl⟩:=H.addr 1 rfl qf
  refine tI 2 rfl rfl rfl H ?_
  refine tL 3 rfl rfl (fun _ h=>h.vG 1 rfl i qf) H ?_
  refine rtl 4 H ?_
  refine rtp 5 (yI i) H ?_
  refine tI 6 rfl rfl rfl H ?_
  refine tL 7 rfl rfl (fun _ h=>h.vG 0 rfl i qf) H ?_
  refine rt 8 _ (y_quo (m[i]!) (l[i]!) rfl rfl (by(have:=p2 i qf;omega))<|by(have:=p2 i qf;omega)) H ?_
  refine rtl 9 H ?_
  refine xy qh<|b_n<|t_n<|xX<|sp (yI i)<|sw<|zS i 1 rfl rfl (by(have:=p2 i qf;omega))<|sq 1<|xU<|xu (m':=(l.length-((i+1):Int)).toNat) qf ⟨_,_,i+1,uE4,?_,?_,rfl,N,H⟩
  ·omega
  ·exact i1.take (p2 i qf) qf qf (VG (fun k hk=>(p2 k hk).1) i qf).1
 refine zx4<|zcr<|sq 2<|zjr<|rH1 (yI gP) H ?_
 obtain rfl:i=l.length:=by omega
 rw[i1.done p3];rfl
theorem l03Enabled_ok(w:World)(s:qO)(t:xn)(r:yu)(hs:jI w bs os (yS s qU qR xC xx))(xh:zP w xY qU qR s.qA)(xI:zP w zX xC xx s.qB)(ht:jI w bt ot (yT t zK zI vC vk zg zf))(ve:zP w jY zK zI t.xF)(jd:zP w Qe vC vk t.qG)(zB:zP w je zg zf t.qF)(hr:jI w br or [yI r.qZ,yI r.yJ,Sv g0 r.zU.length gj,Sv hX r.jJ.length gc,Sv hP r.jK.length gm,Sv gS r.jF.length ga,Sv mf r.QL.length lp,Sv Vt r.xw.length Vs,Bv r.jw])(gQ:zP w AO g0 gj r.zU)(iS:zP w AC hX gc r.jJ)(jx:zP w Br hP gm r.jK)(jN:zP w AK gS ga r.jF)(my:zP w HX mf lp r.QL)(fw:zP w AP Vt Vs r.xw)(p0:Qr s)(p1:vU s t)(p2:RuleOk s r):Calls Tryz.prog 180 #[pp bs os,pp bt ot,pp br or] w (Ret (fun v w'=>v=Bv (dec<|EnOk s t r)) w):=by
 refine en func180 ntmps180 ?_
 have H:=((((((((((((((St.start w).arg fw).arg my).arg jN).arg jx).arg iS).arg gQ).argAt hr).arg zB).arg jd).arg ve).argAt ht).arg xI).arg xh).argAt hs
 have XM:=qM jd
 have Ax:=qM fw
 clear hs xh xI ht ve jd zB hr gQ iS jx jN my fw
 have N:=Fresh.nil w.heap.size
 have p3:=p2.1
 have p4:=p1.1
 have p5:=p1.2.1
 have p6:=(p1.bagLen (k:=r.qZ.toNat) qf).len
 have p7:=p2.2.2.2.2.1.len
 have p8:=p2.2.2.2.2.2.1.len
 have p9:=p2.2.2.2.2.2.2.1.len
 have p10:=vP p2.2.2.2.2.2.2.1
 have p11:=p0.1
 have UG:=p2.2.2.2.2.2.2.2.2.2.2
 refine zcr<|sp (Bv false)<|zjn<|xM<|xM<|QE rfl H fun H=>rtl 0 H ?_
 refine rtl 1 H ?_
 refine tF 2 rfl rfl H ?_
 refine tL 3 rfl rfl (fun _ h=>h.zG 3 rfl 0 rfl) H ?_
 refine rtl 4 H ?_
 refine rtl 5 H ?_
 refine tF 6 rfl rfl H ?_
 refine tL 7 rfl rfl (fun _ h=>h.zG 7 rfl 0 rfl) H ?_
 obtain⟨b2,o3,rfl⟩:=H.addr 4 rfl qf
 refine tI 8 rfl rfl rfl H ?_
 refine tL 9 rfl rfl (fun _ h=>h.elemBool 4 rfl r.qZ qf qf) H ?_
 refine rtl 10 H ?_
 refine xy qh<|t_n<|vg _ rfl (fun h5=>?_)<|fun h5=>?_
 ·replace h5:=xq h5
  refine zcr<|sp (Bv false)<|zjr<|t_r<|rH1 (Bv false) H ?_
  rw[xE (fun h=>by obtain⟨h1,h2,h3,h4,h5⟩:=h;exact ft h1 ‹_›)]
 replace h5:=xf h5
 refine qW<|t_n<|xM<|QE rfl H fun H=>rtl 0 H ?_
 refine rtl 1 H ?_
 refine tF 2 rfl rfl H ?_
 refine tL 3 rfl rfl (fun _ h=>h.zG 3 rfl 1 rfl) H ?_
 refine rtl 4 H ?_
 refine rtl 5 H ?_
 refine tF 6 rfl rfl H ?_
 refine tL 7 rfl rfl (fun _ h=>h.zG 7 rfl 0 rfl) H ?_
 obtain⟨b7,o8,rfl⟩:=H.addr 5 rfl qf
 obtain⟨awK,aui,aHn,H⟩:=H.yB 5 rfl r.qZ r.qZ.toNat qf qf qf
 refine tI 8 rfl rfl rfl (H.pick []<|zR 2 14)<|ro 9 rfl<|zJ (Sv awK ((t.qG[r.qZ.toNat]!).length) aui) isAgg24 rfl (H.zG 1 rfl 0 rfl)<|⟨H.pick []<|zR 2 14,(rtl 10 (H.pick []<|zR 2 14) ?_)⟩
 refine xy qh<|t_n<|zcc<|sq 2<|oF rfl<|oL rfl (H.zG 9 rfl 2 rfl)<|sq 1<|sw<|oq (l01Within_ok _ r.zU (t.qG[r.qZ.toNat]!) (H.get 10 rfl).1 (H.get 0 rfl).1 qg) H fun G7 H=>sp (Bv (!(within r.zU<|t.qG[r.qZ.toNat]!)))<|sp (Bv (!(within r.zU<|t.qG[r.qZ.toNat]!))) ?_
 cases mo:(!(within r.zU (t.qG[r.qZ.toNat]!)))
 ·replace mo:=xf mo
  refine qJ 38 rfl rfl<|sq 1<|qJ 38 rfl rfl<|sq 1<|qJ 38 rfl rfl<|oF rfl<|qJ 38 rfl rfl<|oL rfl (H.zG 9 rfl 3 rfl)<|qJ 38 rfl rfl<|sq 1<|qJ 38 rfl rfl<|sw<|oq (l01Within_ok _ r.jJ (t.qG[r.qZ.toNat]!) (H.get 11 rfl).1 (H.get 0 rfl).1 qg) H fun If H=>qJ 38 rfl rfl<|sp (Bv (!(within r.jJ<|t.qG[r.qZ.toNat]!)))<|sp (Bv (!(within r.jJ<|t.qG[r.qZ.toNat]!)))<|sp (Bv (!(within r.jJ<|t.qG[r.qZ.toNat]!))) ?_
  cases lF:(!(within r.jJ (t.qG[r.qZ.toNat]!)))
  ·replace lF:=xf lF
   refine qJ 47 rfl rfl<|sq 1<|qJ 47 rfl rfl<|sq 1<|qJ 47 rfl rfl<|oF rfl<|qJ 47 rfl rfl<|oL rfl (H.zG 9 rfl 4 rfl)<|qJ 47 rfl rfl<|sw<|oq (l01Size_ok _ r.jK (H.get 12 rfl).1<|by assumption) H fun Kk H=>qJ 47 rfl rfl<|sp (Bv<|decide ((VN r.jK:Int)>0))<|qJ 47 rfl rfl<|sp (Bv<|decide ((VN r.jK:Int)>0)) ?_
   cases wO:(decide ((VN r.jK:Int)>0))
   ·replace wO:=of_decide_eq_false wO
    refine xO (zR 55 6)<|qJ 47 rfl rfl<|sp (Bv false)<|sp (Bv false)<|zjn<|cFr rfl<|qW<|t_n<|zcc<|sp (yI 0)<|zjn<|xe<|zT ((fun Z0 Z1 Z2 Z3 Z4 Z5 Z6 Z7 Z8 Z9 fi fK gW ka lc lN=>fun m' ρ Ke=>∃(xP:Env) (i:Nat),ρ=upd (upd (upd (upd xP 0<|pp bs os) 1<|pp bt ot) 2<|pp br or) 8 (yI i)/\((i:Int)<=r.xw.length)/\(IntoUp s t r i)/\m'=(r.xw.length-(i:Int)).toNat/\Fresh w.heap.size []/\St w Ke [] [Z0,Z1,Z2,Z3,Z4,Z5,Z6,Z7,Z8,Z9,fi,fK,gW,ka,lc,lN]) _ _ _ _ _ _ _ _ _ _ _ _ _ _ _ _) ((r.xw.length-(0:Int)).toNat) ⟨_,0,uE4,qf,qx,rfl,N,H⟩ ?_
    clear H N
    rintro m' ρ Kf ⟨xP,i,rfl,i0,i1,rfl,N,H⟩
    refine zcc<|sp (yI i)<|sq 2<|oF rfl<|oL rfl (H.zG 9 rfl 7 rfl)<|oN rfl<|sq 1<|zjn<|cD rfl (fun BH=>?_)<|fun BH=>?_
    ·have q:=(UG i qf).1
     have q1:=q.1
     have q2:=q.2
     refine qW<|t_n<|xM<|xe<|zcr<|sq 2<|oF rfl<|oL rfl (H.zG 9 rfl 7 rfl)<|sp (yI i) ?_
     obtain⟨YS,o26,rfl⟩:=H.addr 15 rfl qf
     obtain⟨arq,ar4,arc,H⟩:=H.Qw 15 rfl i i qf qf qf
     refine oI rfl rfl<|oF rfl<|oL rfl (H.zG 1 rfl 0 rfl)<|sq 1<|zjn<|xM<|QE rfl H fun H=>rtl 0 H ?_
     refine rtl 1 H ?_
     refine tF 2 rfl rfl H ?_
     refine tL 3 rfl rfl (fun _ h=>h.zG 7 rfl 0 rfl) H ?_
     refine rtl 4 H ?_
     refine tI 5 rfl rfl rfl H ?_
     refine tL 6 rfl rfl (fun _ h=>h.elemBool 8 rfl ((r.xw[i]!).qZ) qf qf) H ?_
     refine rtp 7 (Bv (!(t.xF[((r.xw[i]!).qZ).toNat]!))) H ?_
     refine rtp 8 (Bv (!(t.xF[((r.xw[i]!).qZ).toNat]!))) H ?_
     cases pn:(!(t.xF[((r.xw[i]!).qZ).toNat]!))
     ·replace pn:=xf pn
      refine rgl 9 88 H ?_
      refine rgl 10 88 H ?_
      refine rgl 11 88 H ?_
      refine rgl 13 88 H ?_
      refine rgl 14 88 H ?_
      refine gF 15 rfl rfl H ?_
      refine gL 16 rfl rfl (fun _ h=>h.zG 11 rfl 0 rfl) H ?_
      refine jC [12] qh qm<|Xj rfl (e:=88) rfl rfl (oq (l02Parent_ok _ s t ((r.xw[i]!).qZ) (qH (H.get 4 rfl) 0 3) (H.get 5 rfl).1 (H.get 6 rfl).1 (qH (H.get 7 rfl) 0 3) (H.get 8 rfl).1 (H.get 9 rfl).1 (H.get 10 rfl).1 ql ql ql) H fun w31 H=>⟨H,(rgl 17 88 H ?_)⟩) jD
      refine rtl 18 H ?_
      refine xy qh<|t_n<|vg _ rfl (fun Q2=>?_)<|fun Q2=>?_
      ·replace Q2:=bne_iff_ne.1 Q2
       refine zcr<|sp (Bv false)<|zjr<|zr5<|rH1 (Bv false) H ?_
       rw[xE (fun h=>by obtain⟨h1,h2,h3,h4,h5⟩:=h;(obtain⟨q1,q2⟩:=h5 i qf;exact absurd q2 ‹_›))]
      replace Q2:=xK Q2
      refine qW<|b_n<|t_n<|xX<|sp (yI i)<|sw<|zS i 1 rfl rfl qf<|sq 1<|xU<|xu (m':=(r.xw.length-((i+1):Int)).toNat) qf ⟨_,i+1,uE4,?_,?_,rfl,N,H.pick []<|zR 2 16⟩
      ·omega
      ·exact i1.succ ‹_› ‹_›
     replace pn:=xq pn
     refine zZ (zR 9 9) 9 (H)<|rtp 18 (Bv true) H ?_
     refine xy qh<|t_n<|cTr rfl<|zcr<|sp (Bv false)<|zjr<|zr5<|rH1 (Bv false) H ?_
     rw[xE (fun h=>by obtain⟨h1,h2,h3,h4,h5⟩:=h;(obtain⟨q1,q2⟩:=h5 i qf;exact ft q1 ‹_›))]
    refine zx4<|zcr<|sp (Bv true)<|zjr<|rH1 (Bv true) H ?_
    rw[Qx ⟨by assumption,by assumption,by assumption,fun⟨u,v⟩=>by omega,(show i=r.xw.length by omega)▸i1⟩]
   replace wO:=of_decide_eq_true wO
   refine qJ 54 rfl rfl<|sq 1<|qJ 54 rfl rfl<|sq 1<|qJ 54 rfl rfl<|oF rfl<|qJ 54 rfl rfl<|oL rfl (H.zG 9 rfl 4 rfl)<|qJ 54 rfl rfl<|sq 1<|qJ 54 rfl rfl<|sw<|oq (l01Within_ok _ r.jK (t.qG[r.qZ.toNat]!) (H.get 12 rfl).1 (H.get 0 rfl).1 qg) H fun Na H=>qJ 47 rfl rfl<|sq 2<|zjn<|vg _ rfl (fun Az=>?_)<|fun Az=>?_
   ·refine zcr (sp (Bv false)<|zjr<|t_r<|rH1 (Bv false) H ?_)
    rw[xE (fun h=>by obtain⟨h1,h2,h3,h4,h5⟩:=h;exact h4 ⟨‹_›,‹_›⟩)]
   refine qW<|t_n<|zcc<|sp (yI 0)<|zjn<|xe<|zT ((fun Z0 Z1 Z2 Z3 Z4 Z5 Z6 Z7 Z8 Z9 fi fK gW ka lc lN=>fun m' ρ R0=>∃(xP:Env) (i:Nat),ρ=upd (upd (upd (upd xP 0<|pp bs os) 1<|pp bt ot) 2<|pp br or) 8 (yI i)/\((i:Int)<=r.xw.length)/\(IntoUp s t r i)/\m'=(r.xw.length-(i:Int)).toNat/\Fresh w.heap.size []/\St w R0 [] [Z0,Z1,Z2,Z3,Z4,Z5,Z6,Z7,Z8,Z9,fi,fK,gW,ka,lc,lN]) _ _ _ _ _ _ _ _ _ _ _ _ _ _ _ _) ((r.xw.length-(0:Int)).toNat) ⟨_,0,uE4,qf,qx,rfl,N,H⟩ ?_
   clear H N
   rintro m' ρ Rr ⟨xP,i,rfl,i0,i1,rfl,N,H⟩
   refine zcc<|sp (yI i)<|sq 2<|oF rfl<|oL rfl (H.zG 9 rfl 7 rfl)<|oN rfl<|sq 1<|zjn<|cD rfl (fun sG=>?_)<|fun sG=>?_
   ·have q:=(UG i qf).1
    have q1:=q.1
    have q2:=q.2
    refine qW<|t_n<|xM<|xe<|zcr<|sq 2<|oF rfl<|oL rfl (H.zG 9 rfl 7 rfl)<|sp (yI i) ?_
    obtain⟨GO,o42,rfl⟩:=H.addr 15 rfl qf
    obtain⟨arU,asn,arF,H⟩:=H.Qw 15 rfl i i qf qf qf
    refine oI rfl rfl<|oF rfl<|oL rfl (H.zG 1 rfl 0 rfl)<|sq 1<|zjn<|xM<|QE rfl H fun H=>rtl 0 H ?_
    refine rtl 1 H ?_
    refine tF 2 rfl rfl H ?_
    refine tL 3 rfl rfl (fun _ h=>h.zG 7 rfl 0 rfl) H ?_
    refine rtl 4 H ?_
    refine tI 5 rfl rfl rfl H ?_
    refine tL 6 rfl rfl (fun _ h=>h.elemBool 8 rfl ((r.xw[i]!).qZ) qf qf) H ?_
    refine rtp 7 (Bv (!(t.xF[((r.xw[i]!).qZ).toNat]!))) H ?_
    refine rtp 8 (Bv (!(t.xF[((r.xw[i]!).qZ).toNat]!))) H ?_
    cases Sc:(!(t.xF[((r.xw[i]!).qZ).toNat]!))
    ·replace Sc:=xf Sc
     refine rgl 9 88 H ?_
     refine rgl 10 88 H ?_
     refine rgl 11 88 H ?_
     refine rgl 13 88 H ?_
     refine rgl 14 88 H ?_
     refine gF 15 rfl rfl H ?_
     refine gL 16 rfl rfl (fun _ h=>h.zG 11 rfl 0 rfl) H ?_
     refine jC [12] qh qm<|Xj rfl (e:=88) rfl rfl (oq (l02Parent_ok _ s t ((r.xw[i]!).qZ) (qH (H.get 4 rfl) 0 3) (H.get 5 rfl).1 (H.get 6 rfl).1 (qH (H.get 7 rfl) 0 3) (H.get 8 rfl).1 (H.get 9 rfl).1 (H.get 10 rfl).1 ql ql ql) H fun w47 H=>⟨H,(rgl 17 88 H ?_)⟩) jD
     refine rtl 18 H ?_
     refine xy qh<|t_n<|vg _ rfl (fun Zx=>?_)<|fun Zx=>?_
     ·replace Zx:=bne_iff_ne.1 Zx
      refine zcr<|sp (Bv false)<|zjr<|zr5<|rH1 (Bv false) H ?_
      rw[xE (fun h=>by obtain⟨h1,h2,h3,h4,h5⟩:=h;(obtain⟨q1,q2⟩:=h5 i qf;exact absurd q2 ‹_›))]
     replace Zx:=xK Zx
     refine qW<|b_n<|t_n<|xX<|sp (yI i)<|sw<|zS i 1 rfl rfl qf<|sq 1<|xU<|xu (m':=(r.xw.length-((i+1):Int)).toNat) qf ⟨_,i+1,uE4,?_,?_,rfl,N,H.pick []<|zR 2 16⟩
     ·omega
     ·exact i1.succ ‹_› ‹_›
    replace Sc:=xq Sc
    refine zZ (zR 9 9) 9 (H)<|rtp 18 (Bv true) H ?_
    refine xy qh<|t_n<|cTr rfl<|zcr<|sp (Bv false)<|zjr<|zr5<|rH1 (Bv false) H ?_
    rw[xE (fun h=>by obtain⟨h1,h2,h3,h4,h5⟩:=h;(obtain⟨q1,q2⟩:=h5 i qf;exact ft q1 ‹_›))]
   refine zx4<|zcr<|sp (Bv true)<|zjr<|rH1 (Bv true) H ?_
   rw[Qx ⟨by assumption,by assumption,by assumption,fun⟨u,v⟩=>by exact ft v ‹_›,(show i=r.xw.length by omega)▸i1⟩]
  replace lF:=xq lF
  refine xO (zR 48 14)<|sp (Bv true)<|zjn<|cTr rfl<|zcr<|sp (Bv false)<|zjr<|t_r<|rH1 (Bv false) H ?_
  rw[xE (fun h=>by obtain⟨h1,h2,h3,h4,h5⟩:=h;exact ft h3 ‹_›)]
 replace mo:=xq mo
 refine xO (zR 39 7)<|sp (Bv true)<|sp (Bv true)<|xO (zR 48 14)<|sp (Bv true)<|zjn<|cTr rfl<|zcr<|sp (Bv false)<|zjr<|t_r<|rH1 (Bv false) H ?_
 rw[xE (fun h=>by obtain⟨h1,h2,h3,h4,h5⟩:=h;exact ft h2 ‹_›)]
theorem l03Applicable_ok(w:World)(s:qO)(t:xn)(hs:jI w bs os (yS s qU qR xC xx))(xh:zP w xY qU qR s.qA)(xI:zP w zX xC xx s.qB)(ht:jI w bt ot (yT t zK zI vC vk zg zf))(ve:zP w jY zK zI t.xF)(jd:zP w Qe vC vk t.qG)(zB:zP w je zg zf t.qF)(p0:Qr s)(p1:vU s t):Calls Tryz.prog 177 #[pp bs os,pp bt ot] w (Ret (fun v w'=>∃(ra:yOA) (rn:Nat) (rc:Nat),v=Sv ra rn rc/\Fresh w.heap.size []/\St w w' [rr ra rn rc 4 1 ((appl s t).map<|Value.bool)] []) w):=by
 refine en func177 ntmps177 ?_
 have H:=(((((((St.start w).arg zB).arg jd).arg ve).argAt ht).arg xI).arg xh).argAt hs
 have vS:=qM xh
 have jV:=qM xI
 clear hs xh xI ht ve jd zB
 have N:=Fresh.nil w.heap.size
 have p2:=p0.2.1
 have p3:=p0.1.2.1
 refine zcr<|sq 1<|zjc<|sq 2<|oF rfl<|oL rfl (H.zG 0 rfl 1 rfl)<|oN rfl<|sw<|jP H underlying24 ti2 s.qA.length rfl rfl qf qf qf fun b1 w2 H=>sq 1<|zjc<|sw<|jH H underlying28 ti4 fun b3 w4 H=>sq 1<|zjcc<|sp (yI 0)<|zjn<|xe ?_
 replace H:=H.boxRowB 0 [] 0
 refine zT ((fun Z0 Z1 Z2 Z3 Z4 Z5 Z6=>fun m' ρ w5=>∃(xP:Env) (yO:yOA) (yH:Nat) (yM:Nat) (out:List Bool) (i:Nat) (gP:yLI),ρ=upd (upd (upd (upd (upd xP 0<|pp bs os) 1<|pp bt ot) 5<|Sv (aa b1 0) s.qA.length s.qA.length) 6<|Sv yO yH yM) 7 (yI i)/\out=applB s t 0 i/\gP=bests s t 0 s.qA.length i/\((i:Int)<=s.qB.length)/\m'=(s.qB.length-(i:Int)).toNat/\Fresh w.heap.size []/\St w w5 [rr yO yH yM 4 1<|out.map<|Value.bool,rr (aa b1 0) s.qA.length s.qA.length 2 1<|gP.map<|Value.int .i64] [Z0,Z1,Z2,Z3,Z4,Z5,Z6]) _ _ _ _ _ _ _) ((s.qB.length-(0:Int)).toNat) ⟨_,(aa b3 0),0,0,([]:List Bool),0,(List.replicate s.qA.length (0:Int)),uE5,(by rfl),(by exact bests_zero s t 0 _),qf,rfl,N,H⟩ ?_
 clear H N
 rintro m' ρ w6 ⟨xP,yO,yH,yM,out,i,gP,rfl,rfl,rfl,i0,rfl,N,H⟩
 have Vm:=H.rowNB 0 rfl
 have aqu:=H.Qc 1 rfl
 have al:=applB_len s t 0 i
 refine zcc<|sp (yI i)<|sq 2<|oF rfl<|oL rfl (H.zG 0 rfl 2 rfl)<|oN rfl<|sq 1<|zjn<|cD rfl (fun h7=>?_)<|fun h7=>?_
 ·have q:=p0.rule (i:=i) qf
  have qc:=q.1
  have qk:=q.cell
  refine qW<|t_n<|xM<|xe<|zcr<|sq 2<|oF rfl<|oL rfl (H.zG 0 rfl 2 rfl)<|sp (yI i) ?_
  obtain⟨b8,o9,rfl⟩:=H.addr 2 rfl qf
  obtain⟨akH,aqc,ajs,ajN,aev,aiA,afU,aoJ,alM,agz,alJ,aiD,arD,aqq,asp,aol,api,amW,H⟩:=H.QY 2 rfl i i qf qf qf
  refine oI rfl rfl<|sq 1<|zjc<|sq 3<|sw<|oq (l03Enabled_ok _ s t (s.qB[i]!) (qH (H.get 7 rfl) 0 3) (H.get 8 rfl).1 (H.get 9 rfl).1 (qH (H.get 10 rfl) 0 3) (H.get 11 rfl).1 (H.get 12 rfl).1 (H.get 13 rfl).1 (qH (H.get 6 rfl) 0 9) (H.get 0 rfl).1 (H.get 1 rfl).1 (H.get 2 rfl).1 (H.get 3 rfl).1 (H.get 4 rfl).1 (H.get 5 rfl).1 qg qg qg) H fun Dv H=>(sq 1<|zjc<|sq 2<|sw<|zy H underlying28 ti4 [Bv<|dec<|EnOk s t<|s.qB[i]!] fun DV If H=>sw<|zH H 1 rfl 0 rfl underlying28 ti4 rfl qj rfl rfl rfl qw qp qf fun a17 c18 Kk H=>?_)
  rw[snocB] at H
  refine sq 1<|zjc<|sq 1<|zjn<|cP rfl (fun zv=>?_)<|fun zv=>?_
  ·refine X4 rfl H [0,1] fun H=>?_
   have S:=H.zW [0,1]<|zR 0 14
   refine rtl 0 S ?_
   refine rtl 1 S ?_
   refine rtl 2 S ?_
   refine tF 3 rfl rfl S ?_
   refine tL 4 rfl rfl (fun _ h=>h.zG 6 rfl 0 rfl) S ?_
   refine rtl 5 S ?_
   refine rtl 6 S ?_
   refine rtl 7 S ?_
   refine tF 8 rfl rfl S ?_
   refine tL 9 rfl rfl (fun _ h=>h.zG 6 rfl 0 rfl) S ?_
   refine tI 10 rfl rfl rfl S ?_
   refine rtl 12 S ?_
   refine rtl 13 S ?_
   refine tF 14 rfl rfl S ?_
   refine tL 15 rfl rfl (fun _ h=>h.zG 6 rfl 1 rfl) S ?_
   refine ro 11 rfl<|zJ (yI ((bests s t 0 s.qA.length i)[((s.qB[i]!).qZ).toNat]!)) isAgg2 rfl (H.rowInt 2 rfl (iv:=(s.qB[i]!).qZ) (i:=(((s.qB[i]!).qZ).toNat)) qf qf)<|⟨H.pick [0,1]<|zR 0 14,(ro 16 rfl<|oq (l00Max_ok Kk.drew ((bests s t 0 s.qA.length i)[((s.qB[i]!).qZ).toNat]!) ((s.qB[i]!).yJ)) H fun Kf H=>⟨H.pick [0,1]<|zR 0 14,(tI 17 rfl rfl rfl (H.pick [0,1]<|zR 0 14) ?_)⟩)⟩
   refine ro 18 rfl<|o_storeInt H 2 rfl (max ((bests s t 0 s.qA.length i)[((s.qB[i]!).qZ).toNat]!) ((s.qB[i]!).yJ)) sizeOf2 rfl rfl (i:=(((s.qB[i]!).qZ).toNat)) qf qf fun D0 H=>⟨H.pick [0,1]<|zR 0 14,(xy qh<|b_n<|t_n<|xX<|sp (yI i)<|sw<|zS i 1 rfl rfl qf<|sq 1<|xU<|xu (m':=(s.qB.length-((i+1):Int)).toNat) qf ⟨_,_,_,_,_,i+1,_,uE5,?_,?_,?_,rfl,N,H.pick [1,2]<|zR 7 7⟩)⟩
   ·exact applB_snoc s t i
   ·exact bests_set ‹_› qf
   ·omega
  refine qW<|b_n<|t_n<|xX<|sp (yI i)<|sw<|zS i 1 rfl rfl qf<|sq 1<|xU<|xu (m':=(s.qB.length-((i+1):Int)).toNat) qf ⟨_,_,_,_,_,i+1,_,uE5,?_,?_,?_,rfl,N,H.pick [1,2]<|zR 7 7⟩
  ·exact applB_snoc s t i
  ·exact bests_skip ‹_›
  ·omega
 refine zx4<|zcc<|sp (yI 0)<|zjn<|xe<|zT ((fun Z0 Z1 Z2 Z3=>fun m' ρ Fq=>∃(xP:Env) (dM:Nat) (eN:List Bool),ρ=upd (upd (upd (upd xP 0<|pp bs os) 5<|Sv (aa b1 0) s.qA.length s.qA.length) 6<|Sv yO yH yM) 10 (yI dM)/\eN=applB s t dM s.qB.length/\((dM:Int)<=s.qB.length)/\m'=(s.qB.length-(dM:Int)).toNat/\Fresh w.heap.size []/\St w Fq [rr yO yH yM 4 1<|eN.map<|Value.bool,Z0] [Z1,Z2,Z3]) _ _ _ _) ((s.qB.length-(0:Int)).toNat) ⟨_,0,(applB s t 0 i),uE4,(by rw[show i=s.qB.length by omega]),qf,rfl,N,H.pick [0,1] [0,1,2]⟩ ?_
 clear H N
 rintro m' ρ Pp ⟨xP,dM,eN,rfl,rfl,i0,rfl,N,H⟩
 have Vm:=H.rowNB 0 rfl
 have al:=applB_len s t dM s.qB.length
 refine zcc<|sq 3<|oF rfl<|oL rfl (H.zG 0 rfl 2 rfl)<|oN rfl<|sq 1<|zjn<|cD rfl (fun oi=>?_)<|fun oi=>?_
 ·have q:=p0.rule (i:=dM) qf
  have qc:=q.1
  have qk:=q.cell
  have qr:=q.2.1
  refine qW<|t_n<|xM<|xe<|X4 rfl H [1] fun H=>?_
  have S:=H.zW [1] [0,1,2]
  refine rtl 0 S ?_
  refine rtl 1 S ?_
  refine rtl 2 S ?_
  refine rtl 3 S ?_
  obtain⟨FSz,rfl⟩:=H.jB 0 rfl qf
  refine tI 4 rfl rfl rfl (H.pick [1] [0,1,2])<|ro 5 rfl<|zJ (Bv ((applB s t dM s.qB.length)[dM]!)) isAgg4 rfl (H.rowBool 0 rfl (iv:=dM) (i:=dM) qf qf)<|⟨H.pick [1] [0,1,2],(rtp 6 (Bv ((applB s t dM s.qB.length)[dM]!)) (H.pick [1] [0,1,2]) ?_)⟩
  cases h31:((applB s t dM s.qB.length)[dM]!)
  ·refine zZ (zR 7 20) 20 (H.pick [1] [0,1,2]) ?_
   have S:=H.zW [1] [0,1,2]
   refine rtp 27 (Bv false) S ?_
   refine tI 28 rfl rfl rfl S ?_
   refine ro 29 rfl<|o_storeBool H 0 rfl false sizeOf4 rfl rfl (i:=dM) qf qf fun Pn H=>⟨H.pick [1] [0,1,2],(xy qh<|b_n<|t_n<|xX<|sq 1<|sw<|zS dM 1 rfl rfl qf<|sq 1<|xU<|xu (m':=(s.qB.length-((dM+1):Int)).toNat) qf ⟨_,dM+1,_,uE4,?_,?_,rfl,N,H⟩)⟩
   ·exact applB_set qf<|applB_step0 (m:=s.qB.length) qf ‹_›
   ·omega
  have S:=H.zW [1] [0,1,2]
  refine rgl 7 75 S ?_
  refine rgl 8 75 S ?_
  refine gF 9 rfl rfl S ?_
  refine gL 10 rfl rfl (fun _ h=>h.zG 0 rfl 2 rfl) S ?_
  refine rgl 11 75 S ?_
  obtain⟨Ag,o34,rfl⟩:=H.addr 2 rfl qf
  obtain⟨pA,pV,Pf,pS,pz,LM,qu,qt,Kv,pr,pJ,L0,ta,tj,Rk,qT,pX,Lp,H⟩:=H.QY 2 rfl dM dM qf qf qf
  have S:=H.zW [1] [7,8,9]
  refine gI 12 rfl rfl rfl S ?_
  refine gF 13 rfl rfl S ?_
  refine rgl 15 75 S ?_
  refine rgl 16 75 S ?_
  refine rgl 17 75 S ?_
  refine gF 18 rfl rfl S ?_
  refine gL 19 rfl rfl (fun _ h=>h.zG 0 rfl 2 rfl) S ?_
  refine rgl 20 75 S ?_
  refine gI 21 rfl rfl rfl S ?_
  refine gF 22 rfl rfl S ?_
  refine jC [14,23] qh qm<|Xj rfl (e:=75) rfl rfl ?_<|Xj rfl (e:=75) rfl rfl ?_ jD
  ·refine zJ (yI ((s.qB[dM]!).yJ)) isAgg2 rfl (H.zG 6 rfl 1 rfl) (⟨H.pick [1] [7,8,9],(jC [23] qh qm<|Xj rfl (e:=75) rfl rfl (zJ (yI ((s.qB[dM]!).qZ)) isAgg2 rfl (H.zG 6 rfl 0 rfl)<|⟨H.pick [1] [7,8,9],?_⟩) jD)⟩)
   have S:=H.zW [1] [7,8,9]
   refine gI 24 rfl rfl rfl S ?_
   refine gL 25 rfl rfl (fun _ h=>h.rowInt 0 rfl (iv:=(s.qB[dM]!).qZ) (i:=(((s.qB[dM]!).qZ).toNat)) qf qf) S ?_
   refine rgl 26 75 S ?_
   refine rtl 27 S ?_
   refine tI 28 rfl rfl rfl S ?_
   refine ro 29 rfl<|o_storeBool H 0 rfl (((s.qB[dM]!).yJ:Int) == ((bests s t 0 s.qA.length i)[((s.qB[dM]!).qZ).toNat]!)) sizeOf4 rfl rfl (i:=dM) qf qf fun w37 H=>⟨H.pick [1] [7,8,9],(xy qh<|b_n<|t_n<|xX<|sq 1<|sw<|zS dM 1 rfl rfl qf<|sq 1<|xU<|xu (m':=(s.qB.length-((dM+1):Int)).toNat) qf ⟨_,dM+1,_,uE4,?_,?_,rfl,N,H.pick [0,1] [7,8,9]⟩)⟩
   ·exact applB_set qf<|applB_step1 (m:=s.qB.length) (n:=s.qA.length) (z:=0) (i:=i) qf ‹_› rfl qf qf qf
   ·omega
  refine zJ (yI ((s.qB[dM]!).qZ)) isAgg2 rfl (H.zG 6 rfl 0 rfl)<|⟨H.pick [1] [7,8,9],?_⟩
  have S:=H.zW [1] [7,8,9]
  refine gI 24 rfl rfl rfl S ?_
  refine gL 25 rfl rfl (fun _ h=>h.rowInt 0 rfl (iv:=(s.qB[dM]!).qZ) (i:=(((s.qB[dM]!).qZ).toNat)) qf qf) S ?_
  refine jC [14] qh qm<|Xj rfl (e:=75) rfl rfl (zJ (yI ((s.qB[dM]!).yJ)) isAgg2 rfl (H.zG 6 rfl 1 rfl)<|⟨H.pick [1] [7,8,9],?_⟩) jD
  have S:=H.zW [1] [7,8,9]
  refine rgl 26 75 S ?_
  refine rtl 27 S ?_
  refine tI 28 rfl rfl rfl S ?_
  refine ro 29 rfl<|o_storeBool H 0 rfl (((s.qB[dM]!).yJ:Int) == ((bests s t 0 s.qA.length i)[((s.qB[dM]!).qZ).toNat]!)) sizeOf4 rfl rfl (i:=dM) qf qf fun R0 H=>⟨H.pick [1] [7,8,9],(xy qh<|b_n<|t_n<|xX<|sq 1<|sw<|zS dM 1 rfl rfl qf<|sq 1<|xU<|xu (m':=(s.qB.length-((dM+1):Int)).toNat) qf ⟨_,dM+1,_,uE4,?_,?_,rfl,N,H.pick [0,1] [7,8,9]⟩)⟩
  ·exact applB_set qf<|applB_step1 (m:=s.qB.length) (n:=s.qA.length) (z:=0) (i:=i) qf ‹_› rfl qf qf qf
  ·omega
 refine zx4<|zcr<|sq 2<|zjr<|rH1 (Sv yO yH yM) H ?_
 obtain rfl:dM=s.qB.length:=by omega
 exact⟨yO,yH,yM,rfl,N,H.pick [0] []⟩
theorem l03First_ok(w:World)(s:qO)(t:xn)(hs:jI w bs os (yS s qU qR xC xx))(xh:zP w xY qU qR s.qA)(xI:zP w zX xC xx s.qB)(ht:jI w bt ot (yT t zK zI vC vk zg zf))(ve:zP w jY zK zI t.xF)(jd:zP w Qe vC vk t.qG)(zB:zP w je zg zf t.qF)(p0:Qr s)(p1:vU s t):Calls Tryz.prog 170 #[pp bs os,pp bt ot] w (Ret (fun v w'=>∃(ra:yOA) (rn:Nat) (rc:Nat),v=Sv ra rn rc/\Fresh w.heap.size []/\St w w' [rr ra rn rc 2 1 ((xG s t).map<|Value.int .i64)] []) w):=by
 refine en func170 ntmps170 ?_
 have H:=(((((((St.start w).arg zB).arg jd).arg ve).argAt ht).arg xI).arg xh).argAt hs
 have jV:=qM xI
 have XM:=qM jd
 clear hs xh xI ht ve jd zB
 have N:=Fresh.nil w.heap.size
 have p3:=p0.2.1
 have p7:=p1.2.1
 have p8:=XR p0
 have p9:=p0.1.2.1
 have p11:zM s=s.qA.length:=rfl
 refine zcr<|sq 1<|zjc<|sq 2<|sw<|oc (l03Applicable_ok _ s t (qH (H.get 0 rfl) 0 3) (H.get 1 rfl).1 (H.get 2 rfl).1 (qH (H.get 3 rfl) 0 3) (H.get 4 rfl).1 (H.get 5 rfl).1 (H.get 6 rfl).1 qg qg) ?_
 rintro _ w2 ⟨ra1,rn1,M7,rfl,M,K⟩ _
 replace H:=H.merge K M
 obtain rfl:=H.rowNB 0 rfl
 have al:=appl_len s t
 refine sq 1<|zjc<|sw<|jH H underlying29 ti24 fun b7 w8 H=>sq 1<|zjcc<|sp (yI 0)<|zjn<|xe ?_
 replace H:=H.boxRow 0 rfl 1 0 rfl qj
 replace H:=H.yD (α:=yLI)
 refine zT ((fun Z0 Z1 Z2 Z3 Z4 Z5 Z6 Z7=>fun m' ρ w9=>∃(xP:Env) (vi:yOA) (wC:Nat) (wH:Nat) (rest:yLL) (mL:List Value) (mM:yLN) (c:Nat),ρ=upd (upd (upd (upd (upd xP 0<|pp bs os) 1<|pp bt ot) 5<|Sv ra1 ((appl s t).length) M7) 6<|Sv vi wC wH) 7 (yI c)/\rest=t.qG.take c/\((c:Int)<=t.qG.length)/\m'=(t.qG.length-(c:Int)).toNat/\Fresh w.heap.size [mM]/\St w w9 [rr vi wC wH 24 1 mL,Z0] [qQ true mM mL rest,Z1,Z2,Z3,Z4,Z5,Z6,Z7]) _ _ _ _ _ _ _ _) ((t.qG.length-(0:Int)).toNat) ⟨_,(aa b7 0),0,0,([]:yLL),[],[],0,uE5,(by rfl),qf,rfl,N.emp,H⟩ ?_
 clear H N
 rintro m' ρ sI ⟨xP,vi,wC,wH,rest,mL,mM,c,rfl,rfl,i0,rfl,N,H⟩
 have AQ:=H.xk (α:=yLI) 0 rfl 0 rfl qj
 rw[List.length_take_of_le qf] at AQ
 refine zcc<|sp (yI c)<|sq 2<|oF rfl<|oL rfl (H.zG 4 rfl 1 rfl)<|oN rfl<|sq 1<|zjn<|cD rfl (fun cZ=>?_)<|fun cZ=>?_
 ·refine qW (t_n<|xM<|xe<|xX<|sq 3<|oF rfl<|oL rfl (H.zG 4 rfl 1 rfl)<|sp (yI c) ?_)
  obtain⟨rK,o13,rfl⟩:=H.addr 6 rfl qf
  obtain⟨atr,auB,auY,H⟩:=H.yB 6 rfl c c qf qf qf
  refine oI rfl rfl<|oL rfl (H.zG 1 rfl 0 rfl) ?_
  have p5:=(p1.bagLen (k:=c) qf).len
  refine sw<|oc (Vl _ (t.qG[c]!) (H.get 0 rfl).1 qg) ?_
  rintro v21 Kk r21 x20
  replace H:=H.zV x20 r21
  obtain⟨a22,c23,rfl,aIm,aIJ⟩:=H.yf 0 rfl
  refine sw<|zy H underlying29 ti24 [Sv a22 ((t.qG[c]!).length) c23] fun IP Pp H=>?_
  obtain⟨G31,N,awe,H⟩:=H.vJ 1 rfl N<|H.vV [2]
  refine sw<|zH H 2 rfl 0 rfl underlying29 ti24 rfl qj rfl rfl rfl qw qp qf fun a28 c29 ZP H=>?_
  replace H:=H.Q5 3 rfl 0 rfl
  replace N:Fresh w.heap.size [(mM++G31)]:=(N.pick [1,0]).join
  refine sq 1<|xU<|b_n<|t_n<|xX<|sp (yI c)<|sw<|zS c 1 rfl rfl (by(omega))<|sq 1<|xU<|xu (m':=(t.qG.length-((c+1):Int)).toNat) qf ⟨_,_,_,_,_,_,_,c+1,uE5,?_,?_,rfl,N,H.pick [2,3] (0::zR 5 7)⟩
  ·exact take_snoc qf
  ·omega
 refine zx4<|zcr<|sw<|jH H underlying24 ti2 fun Ag w34 H=>sq 1<|zjcc<|sp (yI 0)<|zjn<|xe ?_
 replace H:=H.boxRowI 0 [] 0
 refine zT ((fun Z0 Z1 Z2 Z3=>fun m' ρ Na=>∃(xP:Env) (yO:yOA) (yH:Nat) (yM:Nat) (out:yLI) (i:Nat) (EF:yLL) (tu:List Value) (wF:yLN),ρ=upd (upd (upd (upd (upd xP 0<|pp bs os) 5<|Sv ra1 ((appl s t).length) M7) 6<|Sv vi wC wH) 8<|Sv yO yH yM) 9 (yI i)/\out=firstTo s t i i/\EF=jR s t i/\((i:Int)<=((appl s t).length))/\m'=(((appl s t).length)-(i:Int)).toNat/\Fresh w.heap.size [wF]/\St w Na [rr yO yH yM 2 1<|out.map<|Value.int .i64,rr vi wC wH 24 1 tu,Z0] [qQ true wF tu EF,Z1,Z2,Z3]) _ _ _ _) ((((appl s t).length)-(0:Int)).toNat) ⟨_,(aa Ag 0),0,0,([]:yLI),0,(t.qG.take c),mL,mM,uE5,(by rfl),(by rw[List.take_of_length_le qf];rfl),qf,rfl,N,H.pick [0,1,2]<|zR 0 4⟩ ?_
 clear H N
 rintro m' ρ FY ⟨xP,yO,yH,yM,out,i,EF,tu,wF,rfl,rfl,rfl,i0,rfl,N,H⟩
 have Vm:=H.Qc 0 rfl
 have AQ:=H.xk (α:=yLI) 1 rfl 0 rfl qj
 have fl:=yh s t i i
 have rl:=(firstR_box p0 p1 i qf).1
 refine zcc<|sp (yI i)<|sq 1<|oN rfl<|sq 1<|zjn<|cD rfl (fun Az=>?_)<|fun Az=>?_
 ·have q:=p0.rule (i:=i) qf
  have qc:=q.1
  have qk:=q.cell
  have b1:=q.2.2.2.2.1
  refine qW<|t_n<|xM<|xe<|zcr<|sp (yI 0)<|zjcc<|sq 1<|sp (yI i) ?_
  obtain⟨b38,rfl⟩:=H.jB 2 rfl qf
  refine oI rfl rfl<|oL rfl (H.rowBool 2 rfl (iv:=i) (i:=i) qf qf)<|zjn<|vg _ rfl (fun ZO=>?_)<|fun ZO=>?_
  ·replace ZO:=appl_true qf ZO
   refine zcr<|sq 2<|oF rfl<|oL rfl (H.zG 1 rfl 2 rfl)<|sp (yI i) ?_
   obtain⟨VX,o41,rfl⟩:=H.addr 3 rfl qf
   obtain⟨aoU,aeU,aem,anm,afS,agQ,ahI,apF,ajq,agD,aeE,ahm,aqP,ar0,arp,anq,ak7,ajz,H⟩:=H.QY 3 rfl i i qf qf qf
   refine oI rfl rfl<|oF rfl<|oL rfl (H.zG 6 rfl 0 rfl)<|sq 1<|zjn<|xM<|QE rfl H fun H=>rtl 0 H ?_
   refine rtl 1 H ?_
   refine tF 2 rfl rfl H ?_
   refine tL 3 rfl rfl (fun _ h=>h.zG 8 rfl 2 rfl) H ?_
   refine rtp 4 (yI i) H ?_
   refine tI 5 rfl rfl rfl H ?_
   refine tF 6 rfl rfl H ?_
   refine tL 7 rfl rfl (fun _ h=>h.zG 6 rfl 2 rfl) H ?_
   refine rtl 8 H ?_
   refine rtl 9 H ?_
   obtain⟨b45,rfl⟩:=H.jB 1 rfl qf
   refine tI 10 rfl rfl rfl H ?_
   refine ro 11 rfl ?_
   obtain⟨a46,c47,G48,s49,h50,H⟩:=H.Xl 1 rfl 7 rfl (iv:=(s.qB[i]!).qZ) (((s.qB[i]!).qZ).toNat) qf qf
   refine zJ (Sv a46 (((jR s t i)[((s.qB[i]!).qZ).toNat]!).length) c47) isAgg24 rfl (h50)<|⟨H.pick [0,1,2]<|zR 1 11,(ro 12 rfl ?_)⟩
   obtain⟨u1,u2,u5⟩:=firstR_row (c:=(s.qB[i]!).qZ.toNat) p0 p1 (show i<=_ by omega) qk
   have u3:=b1.len
   have u6:∀k,k<((s.qB[i]!).zU).length->0<=((jR s t i)[(s.qB[i]!).qZ.toNat]!)[k]! /\((jR s t i)[(s.qB[i]!).qZ.toNat]!)[k]! <=1000:=fun k hk=>u5 k qf
   have u7:=sum_pos b1.1 q.2.2.2.2.2.2.2.2.2.1
   refine oq (l01Times_ok _ ((s.qB[i]!).zU) ((jR s t i)[((s.qB[i]!).qZ).toNat]!) (H.get 1 rfl).1 (H.get 0 rfl).1 qg qg qg) H fun T2 H=>⟨H.pick [0,1,2]<|zR 1 11,(rtl 13 (H.pick [0,1,2]<|zR 1 11) ?_)⟩
   refine xy qh<|t_n<|X4 rfl H [0,2] fun H=>?_
   have S:=H.zW [0,2]<|zR 0 12
   refine rtl 0 S ?_
   refine rtl 1 S ?_
   refine rtl 2 S ?_
   refine rtl 3 S ?_
   refine tI 4 rfl rfl rfl S ?_
   refine rtl 6 S ?_
   refine rtl 7 S ?_
   refine tF 8 rfl rfl S ?_
   refine tL 9 rfl rfl (fun _ h=>h.zG 9 rfl 2 rfl) S ?_
   refine rtp 10 (yI i) S ?_
   refine tI 11 rfl rfl rfl S ?_
   refine tF 12 rfl rfl S ?_
   refine tL 13 rfl rfl (fun _ h=>h.zG 7 rfl 2 rfl) S ?_
   refine rtl 14 S ?_
   refine rt 15 _ (y_neg (Xr ((s.qB[i]!).zU) ((jR s t i)[((s.qB[i]!).qZ).toNat]!)) rfl<|by((have u8:=firstC_bd p0 p1 (k:=i) qf;rw[XJ ‹_›] at u8;omega))) S ?_
   refine ro 5 rfl ?_
   obtain⟨a55,c56,BK,s58,h59,H⟩:=H.Xl 1 rfl 8 rfl (iv:=(s.qB[i]!).qZ) (((s.qB[i]!).qZ).toNat) qf qf
   refine zJ (Sv a55 (((jR s t i)[((s.qB[i]!).qZ).toNat]!).length) c56) isAgg24 rfl (h59)<|⟨H.pick [0,2]<|zR 1 12,(ro 16 rfl ?_)⟩
   obtain⟨u1,u2,u5⟩:=firstR_row (c:=(s.qB[i]!).qZ.toNat) p0 p1 (show i<=_ by omega) qk
   have u8:=firstC_bd p0 p1 (k:=i) qf
   rw[XJ ‹_›] at u8
   have u4:=b1.Qp (t:= -(Xr (s.qB[i]!).zU ((jR s t i)[(s.qB[i]!).qZ.toNat]!))) qf
   refine oc (QD _ ((jR s t i)[((s.qB[i]!).qZ).toNat]!) ((s.qB[i]!).zU) (-(Xr ((s.qB[i]!).zU) ((jR s t i)[((s.qB[i]!).qZ).toNat]!))) (H.get 0 rfl).1 (H.get 2 rfl).1 qg qg qg) ?_
   rintro v65 w63 r65 x64
   replace H:=H.zV x64 r65
   obtain⟨a66,c67,rfl,aHE,aGv⟩:=H.yf 0 rfl
   refine⟨H.pick [1,3]<|zR 1 12,(tI 17 rfl rfl rfl (H.pick [1,3]<|zR 1 12) ?_)⟩
   refine ro 18 rfl ?_
   obtain⟨G71,N,abM,H⟩:=H.vJ 0 rfl N<|H.vV [9]
   refine Qd true H 2 rfl 10 rfl (Sv a66 ((jc ((jR s t i)[((s.qB[i]!).qZ).toNat]!) ((s.qB[i]!).zU) (-(Xr ((s.qB[i]!).zU) ((jR s t i)[((s.qB[i]!).qZ).toNat]!)))).length) c67) 0 rfl rfl sizeOf24 rfl rfl (i:=(((s.qB[i]!).qZ).toNat)) qf qf qm fun w70 aHf F74 axy H=>?_
   replace N:Fresh w.heap.size [F74]:=(N.pick [1,0]).repl axy
   refine⟨H.pick [1,3]<|zR 3 12,(xy qh<|t_n<|xX<|sq 2<|sw<|zy H underlying24 ti2 [yI<|Xr ((s.qB[i]!).zU) ((jR s t i)[((s.qB[i]!).qZ).toNat]!)] fun b76 w77 H=>sw<|zH H 2 rfl 0 rfl underlying24 ti2 rfl qj rfl rfl rfl qw qp qf fun a78 c79 Te H=>?_)⟩
   rw[snocI] at H
   refine sq 1<|xU<|b_n<|t_n<|xX<|sp (yI i)<|sw<|zS i 1 rfl rfl (by(omega))<|sq 1<|xU<|xu (m':=(((appl s t).length)-((i+1):Int)).toNat) qf ⟨_,_,_,_,_,i+1,_,_,_,uE5,?_,?_,?_,rfl,N,H.pick [2,3,4] [0,12,13,14]⟩
   ·exact firstTo_snoc'<|by exact(XJ ‹_›).symm
   ·exact(firstR_yes ‹_›).symm
   ·omega
  replace ZO:=appl_false qf ZO
  refine qW<|t_n<|xX<|sq 1<|sp (yI 0)<|sw<|zy H underlying24 ti2 [yI 0] fun b81 w82 H=>sw<|zH H 1 rfl 0 rfl underlying24 ti2 rfl qj rfl rfl rfl qw qp qf fun a83 c84 w85 H=>?_
  rw[snocI] at H
  refine sq 1<|xU<|b_n<|t_n<|xX<|sp (yI i)<|sw<|zS i 1 rfl rfl (by(omega))<|sq 1<|xU<|xu (m':=(((appl s t).length)-((i+1):Int)).toNat) qf ⟨_,_,_,_,_,i+1,_,_,_,uE5,?_,?_,?_,rfl,N,H.pick [1,2,3]<|zR 0 4⟩
  ·exact firstTo_snoc'<|by exact(firstC_no ‹_›).symm
  ·exact(firstR_no ‹_›).symm
  ·omega
 refine zx4<|zcr<|sq 2<|zjr<|rH1 (Sv yO yH yM) H ?_
 obtain rfl:i=s.qB.length:=by omega
 exact⟨yO,yH,yM,rfl,(N.pick []),H.pick [0] []⟩
end
section
def minus(k:Nat):yLI:=(List.range 6).map fun j=>if j<k then -1 else 0
theorem minus_len(k:Nat):(minus k).length=6:=by simp[minus]
theorem minus_get(h:j<6):(minus k)[j]! =if j<k then -1 else 0:=by
 rw[getElem!_pos (minus k) j<|by rw[minus_len];exact h];simp[minus]
theorem minus_set(h:k<6):(minus k).set k (-1)=minus (k+1):=by
 refine ext_get (by simp[minus_len]) fun p hp=>?_
 rw[List.length_set,minus_len] at hp
 rw[getset<|by rw[minus_len];exact h,minus_get hp,minus_get hp]
 by_cases e:p=k
 ·rw[if_pos e,if_pos qf]
 ·rw[if_neg e]
  by_cases h1:p<k
  ·rw[if_pos h1,if_pos qf]
  ·rw[if_neg h1,if_neg qf]
theorem minus_six(h:k=6)(s:qO)(t:xn):minus k=bests s t (-1) 6 0:=by
 subst h
 rw[←bests_zero];rfl
theorem appl_yes(hk:k=s.qB.length)(hi:i<s.qB.length)(hz:z<=(s.qB[i]!).yJ)(hc:(s.qB[i]!).qZ.toNat<n)(h1:(s.qB[i]!).yJ=(bests s t z n k)[(s.qB[i]!).qZ.toNat]!)(h2:EnOk s t (s.qB[i]!)):Appl s t i:=by
 rw[bests_get hc,hk] at h1
 exact(appl_iff hi hz).2 ⟨h2,h1⟩
theorem appl_no(hk:k=s.qB.length)(hi:i<s.qB.length)(hz:z<=(s.qB[i]!).yJ)(hc:(s.qB[i]!).qZ.toNat<n)(h1:(s.qB[i]!).yJ≠(bests s t z n k)[(s.qB[i]!).qZ.toNat]!):¬Appl s t i:=fun h=>by
 rw[bests_get hc,hk] at h1
 exact h1 ((appl_iff hi hz).1 h).2
theorem outPl_in(hs:jZ s)(h:0<=zO s t r.qZ):outPl s t r=(zO s t r.qZ).toNat:=by
 refine outPl_up fun e=>?_
 rw[e,parentNow_root hs] at h;omega
theorem outPl_out(hs:jZ s)(h0:t.xF[0]! =true)(hc:CellIn s r.qZ)(h:¬0<=zO s t r.qZ):outPl s t r=s.qA.length:=by
 refine outPl_root ?_
 rcases Int.lt_or_eq_of_le hc.1 with h1|h1
 ·exact absurd (parentNow_in hs h0 h1 hc.2).1 h
 ·exact h1.symm
theorem parentNow_lt(hs:jZ s)(h0:t.xF[0]! =true){c:Int}(hc:CellIn s c):zO s t c<=(s.qA.length:Int)-1:=by
 rcases Int.lt_or_eq_of_le hc.1 with h1|h1
 ·have:=parentNow_in hs h0 h1 hc.2;have:=hc.2;omega
 ·rw[←h1,parentNow_root hs];have:=hs.2.1;omega
theorem appls_at'{m:Nat}(hm:(applL s t m).length=q)(hn:m<=s.qB.length)(hq:q<(appls s t).length):
 0<=(appls s t)[q]! /\m<=((appls s t)[q]!).toNat/\((appls s t)[q]!).toNat<s.qB.length/\Appl s t ((appls s t)[q]!).toNat/\(∀j,m<=j->j<((appls s t)[q]!).toNat->¬Appl s t j)/\(applL s t (((appls s t)[q]!).toNat+1)).length=q+1:=by
 obtain⟨i,h1,h2,h3,h4,h5,h6⟩:=appls_at hm hn hq
 rw[h1]
 exact⟨Int.natCast_nonneg i,h2,h3,h4,h5,h6⟩
theorem firstR_step{m:Nat}(h1:m<=j)(hj:j<s.qB.length)(ha:Appl s t j)(h4:∀i,m<=i->i<j->¬Appl s t i)(hx:x=Xr (s.qB[j]!).zU ((jR s t m)[(s.qB[j]!).qZ.toNat]!)):
 (jR s t m).set (s.qB[j]!).qZ.toNat (jc ((jR s t m)[(s.qB[j]!).qZ.toNat]!) (s.qB[j]!).zU (-x))=jR s t (j+1):=by
 rw[hx,←firstR_same h1 h4,firstR_yes ha]
theorem firstC_step{m:Nat}(h1:m<=j)(ha:Appl s t j)(h4:∀i,m<=i->i<j->¬Appl s t i):Xr (s.qB[j]!).zU ((jR s t m)[(s.qB[j]!).qZ.toNat]!)=firstC s t j:=by
 rw[XJ ha,firstR_same h1 h4]
end
section
variable{qR xx gj gc gm ga lp Vs zI vk zf cl : Nat}
theorem isShell_ok(w:World)(s:qO)(xh:zP w xY qU qR s.qA)(xI:zP w zX xC xx s.qB):Calls Tryz.prog 119 #[.agg #[yI s.qN,Sv qU s.qA.length qR,Sv xC s.qB.length xx]] w (Ret (fun v w'=>v=Bv (dec<|jZ s)) w):=by
 refine en func119 ntmps119 ?_
 have H:=((St.start w).arg xI).arg xh
 have vS:=qM xh
 clear xh xI
 have N:=Fresh.nil w.heap.size
 refine zcr<|sw<|jq H (yS s qU qR xC xx) fun b1 w2 H=>sp (Bv false)<|zjcc<|oF rfl<|oL rfl (H.cell 0 rfl rfl)<|sw<|oq (XI w2 s.qN 1 8) H fun w3 H=>sp (Bv (!(inR s.qN 1 8)))<|sp (Bv (!(inR s.qN 1 8))) ?_
 cases h5:(!(inR s.qN 1 8))
 ·replace h5:=xf h5
  replace h5:=QM.1 h5
  refine qJ 9 rfl rfl<|oF rfl<|qJ 9 rfl rfl<|oL rfl (H.cell 0 rfl rfl)<|qJ 9 rfl rfl<|sw<|oq (sizeI_ok _ s.qA (H.get 0 rfl).1) H fun w6 H=>qJ 9 rfl rfl<|sw<|oq (XI w6 (s.qA.length:Int) 1 6) H fun w8 H=>qJ 9 rfl rfl<|sp (Bv (!(inR (s.qA.length:Int) 1 6)))<|sp (Bv (!(inR (s.qA.length:Int) 1 6)))<|sp (Bv (!(inR (s.qA.length:Int) 1 6))) ?_
  cases dD:(!(inR (s.qA.length:Int) 1 6))
  ·replace dD:=xf dD
   replace dD:=QM.1 dD
   refine qJ 16 rfl rfl<|oF rfl<|qJ 16 rfl rfl<|oL rfl (H.cell 0 rfl rfl)<|qJ 16 rfl rfl ?_
   obtain⟨sT,Za,rfl⟩:=H.addr 0 rfl qf
   refine oI rfl rfl<|qJ 16 rfl rfl<|oL rfl (H.vG 0 rfl 0 qf)<|qJ 16 rfl rfl<|sp (Bv ((s.qA[0]! :Int) != (-1)))<|sp (Bv ((s.qA[0]! :Int) != (-1)))<|zjn<|vg ((s.qA[0]! :Int) != (-1)) rfl (fun mo=>?_)<|fun mo=>?_
   ·replace mo:=bne_iff_ne.1 mo
    refine zcr<|sp (Bv false)<|zjr<|t_r<|rH1 (Bv false) H ?_
    rw[xE (fun h=>by obtain⟨h1,h2,h3,h4⟩:=h;omega)]
   replace mo:=xK mo
   refine qW<|t_n<|zcc<|oF rfl<|oL rfl (H.cell 0 rfl rfl)<|sw<|o_tail H 0 rfl 1 underlying24 ti2 rfl qf fun PB G16 aH2 H=>?_
   have aHV:(s.qA.drop 1).length=s.qA.length-1:=List.length_drop
   refine oN rfl<|sp (yI 0)<|zjn<|xe<|zT ((fun Z0 Z1 Z2 Z3=>fun m' ρ Kk=>∃(xP:Env) (c:Nat),ρ=upd (upd (upd xP 25<|Sv PB ((s.qA.drop 1).length)<|qR-1) 26<|yI ((s.qA.drop 1).length)) 27 (yI c)/\((c:Int)<=((s.qA.drop 1).length))/\(FrameTo s<|c+1)/\m'=(((s.qA.drop 1).length)-(c:Int)).toNat/\Fresh w.heap.size []/\St w Kk [Z0] [Z1,Z2,Z3]) _ _ _ _) ((((s.qA.drop 1).length)-(0:Int)).toNat) ⟨_,0,uE3,qf,(by exact FrameTo.one s),rfl,N,H⟩ ?_
   clear H N
   rintro m' ρ KA ⟨xP,c,rfl,i0,i1,rfl,N,H⟩
   have dg:=drop_get (l:=s.qA) (k:=c)
   refine zcr<|sq 1<|zjn<|xM<|cD rfl (fun wO=>?_)<|fun wO=>?_
   ·refine qW (t_n<|xM<|xe<|zcr<|sp (yI c) ?_)
    obtain⟨wN,o23,rfl⟩:=H.addr 0 rfl qf
    refine oI rfl rfl<|oL rfl (H.vG 0 rfl c qf)<|sp (yI c)<|sq 1<|zjc<|sq 1<|sp (yI c)<|sw<|oq (XI KA ((s.qA.drop 1)[c]!) 0 c) H fun D0 H=>sq 1<|zjn<|vg _ rfl (fun oz=>?_)<|fun oz=>?_
    ·replace oz:=xq oz
     replace oz:=QZ oz
     refine zcr<|sp (Bv false)<|zjr<|zr5<|rH1 (Bv false) H ?_
     rw[xE (fun h=>by obtain⟨h1,h2,h3,h4⟩:=h;(have:=h4 (c+1) qf qf;rw[←dg qf] at this;omega))]
    replace oz:=xf oz
    replace oz:=QM.1 oz
    refine qW<|b_n<|t_n<|xX<|sw<|zS c 1 rfl rfl qf<|sq 1<|xU<|xu (m':=(((s.qA.drop 1).length)-((c+1):Int)).toNat) qf ⟨_,c+1,uE3,?_,?_,rfl,N,H⟩
    ·omega
    ·exact i1.succ<|by rw[←dg qf];omega
   refine zx4<|zcr<|sp (Bv true)<|zjr<|rH1 (Bv true) H ?_
   rw[Qx ⟨by omega,by omega,by omega,(show s.qA.length=c+1 by omega)▸i1⟩]
  replace dD:=xq dD
  replace dD:=QZ dD
  refine xO (zR 17 5)<|sp (Bv true)<|zjn<|cTr rfl<|zcr<|sp (Bv false)<|zjr<|t_r<|rH1 (Bv false) H ?_
  rw[xE (fun h=>by obtain⟨h1,h2,h3,h4⟩:=h;omega)]
 replace h5:=xq h5
 replace h5:=QZ h5
 refine xO (zR 10 5)<|sp (Bv true)<|sp (Bv true)<|xO (zR 17 5)<|sp (Bv true)<|zjn<|cTr rfl<|zcr<|sp (Bv false)<|zjr<|t_r<|rH1 (Bv false) H ?_
 rw[xE (fun h=>by obtain⟨h1,h2,h3,h4⟩:=h;omega)]
theorem isCell_ok(w:World)(s:qO)(c:Int)(xh:zP w xY qU qR s.qA)(xI:zP w zX xC xx s.qB):Calls Tryz.prog 160 #[.agg #[yI s.qN,Sv qU s.qA.length qR,Sv xC s.qB.length xx],yI c] w (Ret (fun v w'=>v=Bv (inR c 0 ((s.qA.length:Int)-1))) w):=by
 refine en func160 ntmps160 ?_
 have H:=((St.start w).arg xI).arg xh
 have vS:=qM xh
 clear xh xI
 refine zcr<|sw<|jq H (yS s qU qR xC xx) fun b1 w2 H=>sp (Bv false)<|zjc<|sp (yI c)<|oF rfl<|oL rfl (H.cell 0 rfl rfl)<|sw<|oq (sizeI_ok _ s.qA (H.get 0 rfl).1) H fun w3 H=>sw<|o_sub (s.qA.length:Int) 1 rfl rfl qf<|sw<|oq (XI w3 c 0 ((s.qA.length:Int)-1)) H fun w5 H=>sq 1<|zjr<|rH1 (Bv<|inR c 0 ((s.qA.length:Int)-1)) H ?_
 rfl
theorem lies_ok(w:World)(s:qO)(c:Int)(within:Int)(xh:zP w xY qU qR s.qA)(xI:zP w zX xC xx s.qB)(p0:jZ s)(p1:CellIn s c):Calls Tryz.prog 161 #[.agg #[yI s.qN,Sv qU s.qA.length qR,Sv xC s.qB.length xx],yI c,yI within] w (Ret (fun v w'=>v=Bv (dec<|Lies s.qA within c)) w):=by
 refine en func161 ntmps161 ?_
 have H:=((St.start w).arg xI).arg xh
 have vS:=qM xh
 clear xh xI
 have N:=Fresh.nil w.heap.size
 have p2:=p0.step p1.1 p1.2
 refine zcr<|sw<|jq H (yS s qU qR xC xx) fun b1 w2 H=>sp (Bv false)<|zjcc<|oF rfl<|oL rfl (H.cell 0 rfl rfl)<|sp (yI c) ?_
 obtain⟨b3,o4,rfl⟩:=H.addr 0 rfl qf
 refine oI rfl rfl<|oL rfl (H.elemInt 0 rfl c qf qf)<|sq 1<|zjn<|xe<|zT ((fun Z0 Z1 Z2=>fun m' ρ w6=>∃(xP:Env) (bw:Int),ρ=upd (upd (upd xP 1<|yI bw) 2<|yI within) 3 (pp b1 0)/\(-1<=bw/\bw<=(s.qA.length:Int)-1)/\(Lies s.qA within c<->0<=bw/\(bw=within\/Lies s.qA within bw))/\m'=(bw+1).toNat/\Fresh w.heap.size []/\St w w6 [Z0] [Z1,Z2]) _ _ _) (((s.qA[c.toNat]!)+1).toNat) ⟨_,s.qA[c.toNat]!,uE3,qf,(by exact lies_up p0 p1),rfl,N,H⟩ ?_
 clear H N
 rintro m' ρ w7 ⟨xP,bw,rfl,i0,i1,rfl,N,H⟩
 have up:=fun h=>p0.step (c:=bw) h i0.2
 refine zcc<|sq 1<|sp (Bv<|decide ((bw:Int)>=0))<|zjn<|cD rfl (fun h8=>?_)<|fun h8=>?_
 ·refine qW (t_n<|xM<|xe<|zcr<|sq 3<|zjn<|cE rfl (fun h9=>?_)<|fun h9=>?_)
  ·refine zcr (sp (Bv true)<|zjr<|zr5<|rH1 (Bv true) H ?_)
   rw[Qx<|i1.2 ⟨by omega,.inl ‹_›⟩]
  refine qW<|b_n<|t_n<|xX<|oF rfl<|oL rfl (H.cell 0 rfl rfl)<|sq 1<|oI rfl rfl<|oL rfl (H.elemInt 0 rfl bw qf qf)<|sq 1<|xU ?_
  have up1:=up qf
  refine xu (m':=((s.qA[bw.toNat]!)+1).toNat) qf ⟨_,_,uE3,?_,?_,rfl,N,H⟩
  ·omega
  ·exact i1.trans ⟨fun h=>(lies_up p0 ⟨by omega,by omega⟩).1<|h.2.resolve_left ‹_›,fun h=>⟨by omega,.inr ((lies_up p0 ⟨by omega,by omega⟩).2 h)⟩⟩
 refine zx4<|zcr<|sp (Bv false)<|zjr<|rH1 (Bv false) H ?_
 rw[xE (fun h=>by have:=(i1.1 h).1;omega)]
theorem isRule_ok(w:World)(s:qO)(r:yu)(xh:zP w xY qU qR s.qA)(xI:zP w zX xC xx s.qB)(gQ:zP w AO g0 gj r.zU)(iS:zP w AC hX gc r.jJ)(jx:zP w Br hP gm r.jK)(jN:zP w AK gS ga r.jF)(my:zP w HX mf lp r.QL)(fw:zP w AP Vt Vs r.xw)(p0:jZ s):Calls Tryz.prog 120 #[.agg #[yI s.qN,Sv qU s.qA.length qR,Sv xC s.qB.length xx],.agg #[yI r.qZ,yI r.yJ,Sv g0 r.zU.length gj,Sv hX r.jJ.length gc,Sv hP r.jK.length gm,Sv gS r.jF.length ga,Sv mf r.QL.length lp,Sv Vt r.xw.length Vs,Bv r.jw]] w (Ret (fun v w'=>v=Bv (dec<|RuleOk s r)) w):=by
 refine en func120 ntmps120 ?_
 have H:=((((((((St.start w).arg fw).arg my).arg jN).arg jx).arg iS).arg gQ).arg xI).arg xh
 have Ax:=qM fw
 clear xh xI gQ iS jx jN my fw
 have N:=Fresh.nil w.heap.size
 refine zcr<|sw<|jq H (yS s qU qR xC xx) fun b1 w2 H=>sw<|jq H [yI r.qZ,yI r.yJ,Sv g0 r.zU.length gj,Sv hX r.jJ.length gc,Sv hP r.jK.length gm,Sv gS r.jF.length ga,Sv mf r.QL.length lp,Sv Vt r.xw.length Vs,Bv r.jw] fun b3 w4 H=>sp (Bv false)<|zjcc<|sw<|xW (yS s qU qR xC xx) isAgg27 sizeOf27 rfl (qH (H.cells 1 rfl) 0 3)<|oF rfl<|oL rfl (H.cell 0 rfl rfl)<|sw<|oq (isCell_ok _ s r.qZ (H.get 0 rfl).1 (H.get 1 rfl).1) H fun w6 H=>sp (Bv (!(inR r.qZ 0 ((s.qA.length:Int)-1))))<|sp (Bv (!(inR r.qZ 0 ((s.qA.length:Int)-1)))) ?_
 cases h8:(!(inR r.qZ 0 ((s.qA.length:Int)-1)))
 ·replace h8:=xf h8
  replace h8:=QM.1 h8
  refine qJ 14 rfl rfl<|oF rfl<|qJ 14 rfl rfl<|oL rfl (H.cell 0 rfl rfl)<|qJ 14 rfl rfl<|sw<|oq (XI w6 r.yJ 0 9) H fun w9 H=>qJ 14 rfl rfl<|sp (Bv (!(inR r.yJ 0 9)))<|sp (Bv (!(inR r.yJ 0 9)))<|sp (Bv (!(inR r.yJ 0 9))) ?_
  cases cZ:(!(inR r.yJ 0 9))
  ·replace cZ:=xf cZ
   replace cZ:=QM.1 cZ
   refine qJ 20 rfl rfl<|oF rfl<|qJ 20 rfl rfl<|oL rfl (H.cell 0 rfl rfl)<|qJ 20 rfl rfl<|sp (Bv r.jw) ?_
   cases lw:(r.jw)
   ·rw[lw] at H
    refine xO [24,25,26]<|qJ 20 rfl rfl<|sp (Bv false)<|sp (Bv false)<|sp (Bv false)<|qJ 29 rfl rfl<|oF rfl<|qJ 29 rfl rfl<|oL rfl (H.cell 0 rfl rfl)<|qJ 29 rfl rfl<|oN rfl<|qJ 29 rfl rfl<|sp (Bv<|decide ((r.xw.length:Int)>3))<|sp (Bv<|decide ((r.xw.length:Int)>3))<|zjn<|cD rfl (fun Ed=>?_)<|fun Ed=>?_
    ·refine zcr (sp (Bv false)<|zjr<|t_r<|rH1 (Bv false) H ?_)
     rw[xE (fun h=>by obtain⟨h1,h2,h3,h4,h5,h6,h7,h8,h9,dD,cZ⟩:=h;omega)]
    refine qW<|t_n<|zcc<|oF rfl<|oL rfl (H.cell 0 rfl rfl)<|oF rfl<|oL rfl (H.cell 0 rfl rfl)<|oF rfl<|oL rfl (H.cell 0 rfl rfl)<|oF rfl<|oL rfl (H.cell 0 rfl rfl)<|oF rfl<|oL rfl (H.cell 0 rfl rfl)<|sw<|o_buildF H underlying29 ti24 [Sv g0 r.zU.length gj,Sv hX r.jJ.length gc,Sv hP r.jK.length gm,Sv gS r.jF.length ga,Sv mf r.QL.length lp] rfl (by simp[Value.cells]) rfl qj qj fun Kn H7 H=>oN rfl<|sp (yI 0)<|zjn<|xe ?_
    replace H:=H.boxRow 0 rfl 1 5 rfl qj
    replace H:=H.yD (α:=yLI)
    replace H:=H.repsCons false 7 rfl 0 rfl qm
    replace H:=H.repsCons false 7 rfl 0 rfl qm
    replace H:=H.repsCons false 7 rfl 0 rfl qm
    replace H:=H.repsCons false 7 rfl 0 rfl qm
    replace H:=H.repsCons false 7 rfl 0 rfl qm
    refine zT ((fun Z0 Z1 Z2 Z3 Z4 Z5 Z6 Z7 Z8 Z9 fi fK=>fun m' ρ If=>∃(xP:Env) (k:Nat),ρ=upd (upd (upd (upd (upd xP 2<|pp b1 0) 3<|pp b3 0) 45<|Sv (aa Kn 0) 5 5) 46<|yI 5) 47 (yI k)/\((k:Int)<=5)/\(∀j,j<k->vW s.qN ([r.zU,r.jJ,r.jK,r.jF,r.QL][j]!))/\m'=(5-(k:Int)).toNat/\Fresh w.heap.size []/\St w If [Z0,Z1,Z2] [Z3,Z4,Z5,Z6,Z7,Z8,Z9,fi,fK]) _ _ _ _ _ _ _ _ _ _ _ _) ((5-(0:Int)).toNat) ⟨_,0,uE5,qf,(by intro j hj;omega),rfl,N,H.pick [0,1,2] (0::zR 6 8)⟩ ?_
    clear H N
    rintro m' ρ J8 ⟨xP,k,rfl,i0,i1,rfl,N,H⟩
    refine zcr<|sp (Bv<|decide ((k:Int)<5))<|zjn<|xM<|cD rfl (fun lF=>?_)<|fun lF=>?_
    ·refine qW (t_n<|xM<|xe<|zcr<|oI rfl rfl ?_)
     obtain⟨a19,c20,G21,s22,PL,H⟩:=H.Xl 0 rfl 0 rfl (iv:=k) k qf qf
     refine oL rfl (PL)<|sq 1<|zjc<|oF rfl<|oL rfl (H.cell 2 rfl rfl)<|sq 1<|sw<|oq (VC _ s.qN ([r.zU,r.jJ,r.jK,r.jF,r.QL][k]!) (H.get 0 rfl).1) H fun D1 H=>sq 1<|zjn<|cQ rfl (fun ze=>?_)<|fun ze=>?_
     ·refine zcr (sp (Bv false)<|zjr<|zr5<|rH1 (Bv false) H ?_)
      rw[xE (fun h=>by obtain⟨h1,h2,h3,h4,h5,h6,h7,h8,h9,dD,cZ⟩:=h;(refine absurd ?_ ‹¬vW _ _›;rcases(show k=0\/k=1\/k=2\/k=3\/k=4 by omega) with e|e|e|e|e <;> subst e <;> assumption))]
     refine qW<|b_n<|t_n<|xX<|sw<|zS k 1 rfl rfl qf<|sq 1<|xU<|xu (m':=(5-((k+1):Int)).toNat) qf ⟨_,k+1,uE5,?_,?_,rfl,N,H.pick [0,1,2]<|zR 1 9⟩
     ·omega
     ·intro j hj;by_cases e:j=k;(subst e;assumption);exact i1 j qf
    refine zx4<|zcc<|oF rfl<|oL rfl (H.cell 1 rfl rfl)<|oN rfl<|sp (yI 0)<|zjn<|xe ?_
    have n1:vW s.qN r.zU:=i1 0 qf
    have n2:vW s.qN r.jJ:=i1 1 qf
    have n3:vW s.qN r.jK:=i1 2 qf
    have n4:vW s.qN r.jF:=i1 3 qf
    have n5:vW s.qN r.QL:=i1 4 qf
    refine zT ((fun Z0 Z1 Z2 Z3 Z4 Z5 Z6 Z7 Z8 Z9 fi fK=>fun m' ρ Pp=>∃(xP:Env) (i:Nat),ρ=upd (upd (upd (upd (upd xP 2<|pp b1 0) 3<|pp b3 0) 58<|Sv Vt r.xw.length Vs) 59<|yI r.xw.length) 60 (yI i)/\((i:Int)<=r.xw.length)/\(IntosTo s r i)/\m'=(r.xw.length-(i:Int)).toNat/\Fresh w.heap.size []/\St w Pp [Z0,Z1,Z2] [Z3,Z4,Z5,Z6,Z7,Z8,Z9,fi,fK]) _ _ _ _ _ _ _ _ _ _ _ _) ((r.xw.length-(0:Int)).toNat) ⟨_,0,uE5,qf,qx,rfl,N,H⟩ ?_
    clear H N
    rintro m' ρ I8 ⟨xP,i,rfl,i0,i2,rfl,N,H⟩
    refine zcr<|sq 1<|zjn<|xM<|cD rfl (fun h29=>?_)<|fun h29=>?_
    ·refine qW (t_n<|xM<|xe<|zcr<|sp (yI i) ?_)
     obtain⟨FSz,o31,rfl⟩:=H.addr 8 rfl qf
     obtain⟨BB,A1,RU,H⟩:=H.Qw 8 rfl i i qf qf qf
     refine oI rfl rfl<|sw<|xW [yI ((r.xw[i]!).qZ),Sv BB (((r.xw[i]!).Xa).length) A1] isAgg161 sizeOf161 rfl (qH (H.get 1 rfl) 0 2)<|sw<|zn H ti161 [yI 0,yN] fun b34 Na H=>sp (yI i)<|sw<|zF H 0 [yI ((r.xw[i]!).qZ),Sv BB (((r.xw[i]!).Xa).length) A1] sizeOf161 fun FY H=>zjn<|xM<|QE rfl H fun H=>rt 0 _ (Qg (cs:=(yS s qU qR xC xx)) isAgg27 sizeOf27 rfl<|fun _ h=>qH (h.cells 3 rfl) 0 3) H ?_
     refine tF 1 rfl rfl H ?_
     refine tL 2 rfl rfl (fun _ h=>h.cell 0 rfl rfl) H ?_
     refine ro 3 rfl<|oq (isCell_ok _ s ((r.xw[i]!).qZ) (H.get 3 rfl).1 (H.get 4 rfl).1) H fun Rr H=>⟨H,(rtp 4 (Bv (!(inR ((r.xw[i]!).qZ) 0 ((s.qA.length:Int)-1)))) H ?_)⟩
     refine rtp 5 (Bv (!(inR ((r.xw[i]!).qZ) 0 ((s.qA.length:Int)-1)))) H ?_
     cases th:(!(inR ((r.xw[i]!).qZ) 0 ((s.qA.length:Int)-1)))
     ·replace th:=xf th
      replace th:=QM.1 th
      refine rg 6 _ 70 (Qg (cs:=(yS s qU qR xC xx)) isAgg27 sizeOf27 rfl<|fun _ h=>qH (h.cells 3 rfl) 0 3) H ?_
      refine gF 7 rfl rfl H ?_
      refine gL 8 rfl rfl (fun _ h=>h.cell 0 rfl rfl) H ?_
      refine gF 9 rfl rfl H ?_
      refine gL 10 rfl rfl (fun _ h=>h.cell 2 rfl rfl) H ?_
      refine jC [11] qh qm<|Xj rfl (e:=70) rfl rfl (oq (lies_ok _ s ((r.xw[i]!).qZ) r.qZ (H.get 3 rfl).1 (H.get 4 rfl).1 qg qg) H fun UM H=>⟨H,(rgp 12 (Bv (!(dec<|Lies s.qA r.qZ ((r.xw[i]!).qZ)))) 70 H ?_)⟩) jD
      refine rtp 13 (Bv (!(dec<|Lies s.qA r.qZ ((r.xw[i]!).qZ)))) H ?_
      refine rtp 14 (Bv (!(dec<|Lies s.qA r.qZ ((r.xw[i]!).qZ)))) H ?_
      cases Bt:(!(dec (Lies s.qA r.qZ ((r.xw[i]!).qZ))))
      ·replace Bt:=xf Bt
       replace Bt:=Qz Bt
       refine gF 15 rfl rfl H ?_
       refine gL 16 rfl rfl (fun _ h=>h.cell 3 rfl rfl) H ?_
       refine gF 17 rfl rfl H ?_
       refine gL 18 rfl rfl (fun _ h=>h.cell 0 rfl rfl) H ?_
       refine jC [19] qh qm<|Xj rfl (e:=79) rfl rfl (oq (VC _ s.qN ((r.xw[i]!).Xa) (H.get 0 rfl).1) H fun SF H=>⟨H,(rgp 20 (Bv (!(dec<|vW s.qN ((r.xw[i]!).Xa)))) 79 H ?_)⟩) jD
       refine rtp 21 (Bv (!(dec<|vW s.qN ((r.xw[i]!).Xa)))) H ?_
       refine rtp 22 (Bv (!(dec<|vW s.qN ((r.xw[i]!).Xa)))) H ?_
       cases EE:(!(dec (vW s.qN ((r.xw[i]!).Xa))))
       ·replace EE:=xf EE
        replace EE:=Qz EE
        refine gF 23 rfl rfl H ?_
        refine gL 24 rfl rfl (fun _ h=>h.cell 0 rfl rfl) H ?_
        refine jC [25] qh qm<|Xj rfl (e:=87) rfl rfl ?_ jD
        have sm:Small ((r.xw[i]!).Xa):=vP<|by assumption
        refine oq (bagSize_ok _ ((r.xw[i]!).Xa) (H.get 0 rfl).1<|by assumption) H fun w49 H=>⟨H,(rgp 26 (Bv ((VN ((r.xw[i]!).Xa):Int) == 0)) 87 H ?_)⟩
        refine rtp 27 (Bv ((VN ((r.xw[i]!).Xa):Int) == 0)) H ?_
        refine rtp 28 (Bv ((VN ((r.xw[i]!).Xa):Int) == 0)) H ?_
        cases Rf:((VN ((r.xw[i]!).Xa):Int) == 0)
        ·replace Rf:=ne_of_beq_false Rf
         refine rgp 29 (yI i) 93 H ?_
         refine rgp 30 (Bv<|decide ((i:Int)>0)) 93 H ?_
         refine rgp 31 (Bv<|decide ((i:Int)>0)) 93 H ?_
         cases J2:(decide ((i:Int)>0))
         ·replace J2:=of_decide_eq_false J2
          refine zZ (zR 32 10) 10 (H)<|rgp 42 (Bv false) 93 H ?_
          refine rtp 43 (Bv false) H ?_
          refine xy qh<|t_n<|cFr rfl<|qW<|b_n<|t_n<|xX<|sw<|zS i 1 rfl rfl qf<|sq 1<|xU<|xu (m':=(r.xw.length-((i+1):Int)).toNat) qf ⟨_,i+1,uE5,?_,?_,rfl,N,H.pick [1,2,3]<|zR 2 9⟩
          ·omega
          ·exact i2.succ ⟨‹_›,‹_›,‹_›,‹_›,fun hk=>by omega⟩
         replace J2:=of_decide_eq_true J2
         refine gF 32 rfl rfl H ?_
         refine gL 33 rfl rfl (fun _ h=>h.cell 0 rfl rfl) H ?_
         refine gF 34 rfl rfl H ?_
         refine gL 35 rfl rfl (fun _ h=>h.cell 2 rfl rfl) H ?_
         refine rgp 36 (yI i) 96 H ?_
         refine rg 37 _ 96 (y_sub i 1 rfl rfl qf) H ?_
         obtain⟨ar2,aqN,aqD,H⟩:=H.Qw 10 rfl (i-1) (i-1) qf qf qf
         have S:=H.zW (zR 0 4)<|zR 2 11
         refine gI 38 rfl rfl rfl S ?_
         refine gF 39 rfl rfl S ?_
         refine jC [40] qh qm<|Xj rfl (e:=96) rfl rfl (zJ (yI ((r.xw[i-1]!).qZ)) isAgg2 rfl (H.zG 1 rfl 0 rfl)<|⟨H.pick (zR 0 4)<|zR 2 11,?_⟩) jD
         have S:=H.zW (zR 0 4)<|zR 2 11
         refine rgl 41 96 S ?_
         refine rgl 42 93 S ?_
         refine rtl 43 S ?_
         refine xy qh<|t_n<|cD rfl (fun h54=>?_)<|fun h54=>?_
         ·refine zcr (sp (Bv false)<|zjr<|zr5<|rH1 (Bv false) H ?_)
          rw[xE (fun h=>by obtain⟨h1,h2,h3,h4,h5,h6,h7,h8,h9,dD,cZ⟩:=h;(obtain⟨q1,q2,q3,q4,q5⟩:=cZ i qf;omega))]
         refine qW<|b_n<|t_n<|xX<|sw<|zS i 1 rfl rfl qf<|sq 1<|xU<|xu (m':=(r.xw.length-((i+1):Int)).toNat) qf ⟨_,i+1,uE5,?_,?_,rfl,N,H.pick [1,2,3]<|zR 4 9⟩
         ·omega
         ·exact i2.succ ⟨‹_›,‹_›,‹_›,‹_›,fun hk=>by omega⟩
        replace Rf:=eq_of_beq Rf
        refine zZ (zR 29 14) 14 (H)<|rtp 43 (Bv true) H ?_
        refine xy qh<|t_n<|cTr rfl<|zcr<|sp (Bv false)<|zjr<|zr5<|rH1 (Bv false) H ?_
        rw[xE (fun h=>by obtain⟨h1,h2,h3,h4,h5,h6,h7,h8,h9,dD,cZ⟩:=h;(obtain⟨q1,q2,q3,q4,q5⟩:=cZ i qf;contradiction))]
       replace EE:=xq EE
       replace EE:=vF EE
       refine zZ (zR 23 4) 4 (H)<|rtp 27 (Bv true) H ?_
       refine rtp 28 (Bv true) H ?_
       refine zZ (zR 29 14) 14 (H)<|rtp 43 (Bv true) H ?_
       refine xy qh<|t_n<|cTr rfl<|zcr<|sp (Bv false)<|zjr<|zr5<|rH1 (Bv false) H ?_
       rw[xE (fun h=>by obtain⟨h1,h2,h3,h4,h5,h6,h7,h8,h9,dD,cZ⟩:=h;(obtain⟨q1,q2,q3,q4,q5⟩:=cZ i qf;contradiction))]
      replace Bt:=xq Bt
      replace Bt:=vF Bt
      refine zZ (zR 15 6) 6 (H)<|rtp 21 (Bv true) H ?_
      refine rtp 22 (Bv true) H ?_
      refine zZ (zR 23 4) 4 (H)<|rtp 27 (Bv true) H ?_
      refine rtp 28 (Bv true) H ?_
      refine zZ (zR 29 14) 14 (H)<|rtp 43 (Bv true) H ?_
      refine xy qh<|t_n<|cTr rfl<|zcr<|sp (Bv false)<|zjr<|zr5<|rH1 (Bv false) H ?_
      rw[xE (fun h=>by obtain⟨h1,h2,h3,h4,h5,h6,h7,h8,h9,dD,cZ⟩:=h;(obtain⟨q1,q2,q3,q4,q5⟩:=cZ i qf;contradiction))]
     replace th:=xq th
     replace th:=QZ th
     refine zZ (zR 6 7) 7 (H)<|rtp 13 (Bv true) H ?_
     refine rtp 14 (Bv true) H ?_
     refine zZ (zR 15 6) 6 (H)<|rtp 21 (Bv true) H ?_
     refine rtp 22 (Bv true) H ?_
     refine zZ (zR 23 4) 4 (H)<|rtp 27 (Bv true) H ?_
     refine rtp 28 (Bv true) H ?_
     refine zZ (zR 29 14) 14 (H)<|rtp 43 (Bv true) H ?_
     refine xy qh<|t_n<|cTr rfl<|zcr<|sp (Bv false)<|zjr<|zr5<|rH1 (Bv false) H ?_
     rw[xE (fun h=>by obtain⟨h1,h2,h3,h4,h5,h6,h7,h8,h9,dD,cZ⟩:=h;(obtain⟨q1,q2,q3,q4,q5⟩:=cZ i qf;contradiction))]
    refine zx4<|zcr<|oF rfl<|oL rfl (H.cell 1 rfl rfl) ?_
    have sm:Small r.zU:=vP<|by assumption
    refine sw<|oq (bagSize_ok _ r.zU (H.get 3 rfl).1<|by assumption) H fun w55 H=>sp (Bv<|decide ((VN r.zU:Int)>0))<|sp (Bv<|decide ((VN r.zU:Int)>0))<|zjr<|rH1 (Bv<|decide ((VN r.zU:Int)>0)) H<|congrArg Value.bool<|dec_eq ?_
    rw[decide_eq_true_iff]
    exact⟨fun h=>⟨by omega,by omega,by simp_all,by omega,n1,n2,n3,n4,n5,by omega,(show i=r.xw.length by omega)▸i2⟩,fun h=>by have:=h.2.2.2.2.2.2.2.2.2.1;have:=sum_nonneg n1.1;omega⟩
   rw[lw] at H
   refine qJ 23 rfl rfl<|oF rfl<|qJ 23 rfl rfl<|oL rfl (H.cell 0 rfl rfl)<|qJ 23 rfl rfl<|sp (Bv ((r.qZ:Int) == 0))<|qJ 20 rfl rfl<|sp (Bv ((r.qZ:Int) == 0))<|sp (Bv ((r.qZ:Int) == 0))<|sp (Bv ((r.qZ:Int) == 0)) ?_
   cases h57:((r.qZ:Int) == 0)
   ·replace h57:=ne_of_beq_false h57
    refine qJ 29 rfl rfl<|oF rfl<|qJ 29 rfl rfl<|oL rfl (H.cell 0 rfl rfl)<|qJ 29 rfl rfl<|oN rfl<|qJ 29 rfl rfl<|sp (Bv<|decide ((r.xw.length:Int)>3))<|sp (Bv<|decide ((r.xw.length:Int)>3))<|zjn<|cD rfl (fun Ko=>?_)<|fun Ko=>?_
    ·refine zcr (sp (Bv false)<|zjr<|t_r<|rH1 (Bv false) H ?_)
     rw[xE (fun h=>by obtain⟨h1,h2,h3,h4,h5,h6,h7,h8,h9,dD,cZ⟩:=h;omega)]
    refine qW<|t_n<|zcc<|oF rfl<|oL rfl (H.cell 0 rfl rfl)<|oF rfl<|oL rfl (H.cell 0 rfl rfl)<|oF rfl<|oL rfl (H.cell 0 rfl rfl)<|oF rfl<|oL rfl (H.cell 0 rfl rfl)<|oF rfl<|oL rfl (H.cell 0 rfl rfl)<|sw<|o_buildF H underlying29 ti24 [Sv g0 r.zU.length gj,Sv hX r.jJ.length gc,Sv hP r.jK.length gm,Sv gS r.jF.length ga,Sv mf r.QL.length lp] rfl (by simp[Value.cells]) rfl qj qj fun b59 w60 H=>oN rfl<|sp (yI 0)<|zjn<|xe ?_
    replace H:=H.boxRow 0 rfl 1 5 rfl qj
    replace H:=H.yD (α:=yLI)
    replace H:=H.repsCons false 7 rfl 0 rfl qm
    replace H:=H.repsCons false 7 rfl 0 rfl qm
    replace H:=H.repsCons false 7 rfl 0 rfl qm
    replace H:=H.repsCons false 7 rfl 0 rfl qm
    replace H:=H.repsCons false 7 rfl 0 rfl qm
    refine zT ((fun Z0 Z1 Z2 Z3 Z4 Z5 Z6 Z7 Z8 Z9 fi fK=>fun m' ρ w61=>∃(xP:Env) (k:Nat),ρ=upd (upd (upd (upd (upd xP 2<|pp b1 0) 3<|pp b3 0) 45<|Sv (aa b59 0) 5 5) 46<|yI 5) 47 (yI k)/\((k:Int)<=5)/\(∀j,j<k->vW s.qN ([r.zU,r.jJ,r.jK,r.jF,r.QL][j]!))/\m'=(5-(k:Int)).toNat/\Fresh w.heap.size []/\St w w61 [Z0,Z1,Z2] [Z3,Z4,Z5,Z6,Z7,Z8,Z9,fi,fK]) _ _ _ _ _ _ _ _ _ _ _ _) ((5-(0:Int)).toNat) ⟨_,0,uE5,qf,(by intro j hj;omega),rfl,N,H.pick [0,1,2] (0::zR 6 8)⟩ ?_
    clear H N
    rintro m' ρ w62 ⟨xP,k,rfl,i0,i1,rfl,N,H⟩
    refine zcr<|sp (Bv<|decide ((k:Int)<5))<|zjn<|xM<|cD rfl (fun h63=>?_)<|fun h63=>?_
    ·refine qW (t_n<|xM<|xe<|zcr<|oI rfl rfl ?_)
     obtain⟨a64,c65,G66,s67,h68,H⟩:=H.Xl 0 rfl 0 rfl (iv:=k) k qf qf
     refine oL rfl (h68)<|sq 1<|zjc<|oF rfl<|oL rfl (H.cell 2 rfl rfl)<|sq 1<|sw<|oq (VC _ s.qN ([r.zU,r.jJ,r.jK,r.jF,r.QL][k]!) (H.get 0 rfl).1) H fun w69 H=>sq 1<|zjn<|cQ rfl (fun h71=>?_)<|fun h71=>?_
     ·refine zcr (sp (Bv false)<|zjr<|zr5<|rH1 (Bv false) H ?_)
      rw[xE (fun h=>by obtain⟨h1,h2,h3,h4,h5,h6,h7,h8,h9,dD,cZ⟩:=h;(refine absurd ?_ ‹¬vW _ _›;rcases(show k=0\/k=1\/k=2\/k=3\/k=4 by omega) with e|e|e|e|e <;> subst e <;> assumption))]
     refine qW<|b_n<|t_n<|xX<|sw<|zS k 1 rfl rfl qf<|sq 1<|xU<|xu (m':=(5-((k+1):Int)).toNat) qf ⟨_,k+1,uE5,?_,?_,rfl,N,H.pick [0,1,2]<|zR 1 9⟩
     ·omega
     ·intro j hj;by_cases e:j=k;(subst e;assumption);exact i1 j qf
    refine zx4<|zcc<|oF rfl<|oL rfl (H.cell 1 rfl rfl)<|oN rfl<|sp (yI 0)<|zjn<|xe ?_
    have n1:vW s.qN r.zU:=i1 0 qf
    have n2:vW s.qN r.jJ:=i1 1 qf
    have n3:vW s.qN r.jK:=i1 2 qf
    have n4:vW s.qN r.jF:=i1 3 qf
    have n5:vW s.qN r.QL:=i1 4 qf
    refine zT ((fun Z0 Z1 Z2 Z3 Z4 Z5 Z6 Z7 Z8 Z9 fi fK=>fun m' ρ Kc=>∃(xP:Env) (i:Nat),ρ=upd (upd (upd (upd (upd xP 2<|pp b1 0) 3<|pp b3 0) 58<|Sv Vt r.xw.length Vs) 59<|yI r.xw.length) 60 (yI i)/\((i:Int)<=r.xw.length)/\(IntosTo s r i)/\m'=(r.xw.length-(i:Int)).toNat/\Fresh w.heap.size []/\St w Kc [Z0,Z1,Z2] [Z3,Z4,Z5,Z6,Z7,Z8,Z9,fi,fK]) _ _ _ _ _ _ _ _ _ _ _ _) ((r.xw.length-(0:Int)).toNat) ⟨_,0,uE5,qf,qx,rfl,N,H⟩ ?_
    clear H N
    rintro m' ρ w73 ⟨xP,i,rfl,i0,i2,rfl,N,H⟩
    refine zcr<|sq 1<|zjn<|xM<|cD rfl (fun h74=>?_)<|fun h74=>?_
    ·refine qW (t_n<|xM<|xe<|zcr<|sp (yI i) ?_)
     obtain⟨b75,o76,rfl⟩:=H.addr 8 rfl qf
     obtain⟨Hz,Gv,aqw,H⟩:=H.Qw 8 rfl i i qf qf qf
     refine oI rfl rfl<|sw<|xW [yI ((r.xw[i]!).qZ),Sv Hz (((r.xw[i]!).Xa).length) Gv] isAgg161 sizeOf161 rfl (qH (H.get 1 rfl) 0 2)<|sw<|zn H ti161 [yI 0,yN] fun Ia Te H=>sp (yI i)<|sw<|zF H 0 [yI ((r.xw[i]!).qZ),Sv Hz (((r.xw[i]!).Xa).length) Gv] sizeOf161 fun w81 H=>zjn<|xM<|QE rfl H fun H=>rt 0 _ (Qg (cs:=(yS s qU qR xC xx)) isAgg27 sizeOf27 rfl<|fun _ h=>qH (h.cells 3 rfl) 0 3) H ?_
     refine tF 1 rfl rfl H ?_
     refine tL 2 rfl rfl (fun _ h=>h.cell 0 rfl rfl) H ?_
     refine ro 3 rfl<|oq (isCell_ok _ s ((r.xw[i]!).qZ) (H.get 3 rfl).1 (H.get 4 rfl).1) H fun w84 H=>⟨H,(rtp 4 (Bv (!(inR ((r.xw[i]!).qZ) 0 ((s.qA.length:Int)-1)))) H ?_)⟩
     refine rtp 5 (Bv (!(inR ((r.xw[i]!).qZ) 0 ((s.qA.length:Int)-1)))) H ?_
     cases Cr:(!(inR ((r.xw[i]!).qZ) 0 ((s.qA.length:Int)-1)))
     ·replace Cr:=xf Cr
      replace Cr:=QM.1 Cr
      refine rg 6 _ 70 (Qg (cs:=(yS s qU qR xC xx)) isAgg27 sizeOf27 rfl<|fun _ h=>qH (h.cells 3 rfl) 0 3) H ?_
      refine gF 7 rfl rfl H ?_
      refine gL 8 rfl rfl (fun _ h=>h.cell 0 rfl rfl) H ?_
      refine gF 9 rfl rfl H ?_
      refine gL 10 rfl rfl (fun _ h=>h.cell 2 rfl rfl) H ?_
      refine jC [11] qh qm<|Xj rfl (e:=70) rfl rfl (oq (lies_ok _ s ((r.xw[i]!).qZ) r.qZ (H.get 3 rfl).1 (H.get 4 rfl).1 qg qg) H fun w88 H=>⟨H,(rgp 12 (Bv (!(dec<|Lies s.qA r.qZ ((r.xw[i]!).qZ)))) 70 H ?_)⟩) jD
      refine rtp 13 (Bv (!(dec<|Lies s.qA r.qZ ((r.xw[i]!).qZ)))) H ?_
      refine rtp 14 (Bv (!(dec<|Lies s.qA r.qZ ((r.xw[i]!).qZ)))) H ?_
      cases TH:(!(dec (Lies s.qA r.qZ ((r.xw[i]!).qZ))))
      ·replace TH:=xf TH
       replace TH:=Qz TH
       refine gF 15 rfl rfl H ?_
       refine gL 16 rfl rfl (fun _ h=>h.cell 3 rfl rfl) H ?_
       refine gF 17 rfl rfl H ?_
       refine gL 18 rfl rfl (fun _ h=>h.cell 0 rfl rfl) H ?_
       refine jC [19] qh qm<|Xj rfl (e:=79) rfl rfl (oq (VC _ s.qN ((r.xw[i]!).Xa) (H.get 0 rfl).1) H fun w91 H=>⟨H,(rgp 20 (Bv (!(dec<|vW s.qN ((r.xw[i]!).Xa)))) 79 H ?_)⟩) jD
       refine rtp 21 (Bv (!(dec<|vW s.qN ((r.xw[i]!).Xa)))) H ?_
       refine rtp 22 (Bv (!(dec<|vW s.qN ((r.xw[i]!).Xa)))) H ?_
       cases Kb:(!(dec (vW s.qN ((r.xw[i]!).Xa))))
       ·replace Kb:=xf Kb
        replace Kb:=Qz Kb
        refine gF 23 rfl rfl H ?_
        refine gL 24 rfl rfl (fun _ h=>h.cell 0 rfl rfl) H ?_
        refine jC [25] qh qm<|Xj rfl (e:=87) rfl rfl ?_ jD
        have sm:Small ((r.xw[i]!).Xa):=vP<|by assumption
        refine oq (bagSize_ok _ ((r.xw[i]!).Xa) (H.get 0 rfl).1<|by assumption) H fun w94 H=>⟨H,(rgp 26 (Bv ((VN ((r.xw[i]!).Xa):Int) == 0)) 87 H ?_)⟩
        refine rtp 27 (Bv ((VN ((r.xw[i]!).Xa):Int) == 0)) H ?_
        refine rtp 28 (Bv ((VN ((r.xw[i]!).Xa):Int) == 0)) H ?_
        cases Mx:((VN ((r.xw[i]!).Xa):Int) == 0)
        ·replace Mx:=ne_of_beq_false Mx
         refine rgp 29 (yI i) 93 H ?_
         refine rgp 30 (Bv<|decide ((i:Int)>0)) 93 H ?_
         refine rgp 31 (Bv<|decide ((i:Int)>0)) 93 H ?_
         cases h97:(decide ((i:Int)>0))
         ·replace h97:=of_decide_eq_false h97
          refine zZ (zR 32 10) 10 (H)<|rgp 42 (Bv false) 93 H ?_
          refine rtp 43 (Bv false) H ?_
          refine xy qh<|t_n<|cFr rfl<|qW<|b_n<|t_n<|xX<|sw<|zS i 1 rfl rfl qf<|sq 1<|xU<|xu (m':=(r.xw.length-((i+1):Int)).toNat) qf ⟨_,i+1,uE5,?_,?_,rfl,N,H.pick [1,2,3]<|zR 2 9⟩
          ·omega
          ·exact i2.succ ⟨‹_›,‹_›,‹_›,‹_›,fun hk=>by omega⟩
         replace h97:=of_decide_eq_true h97
         refine gF 32 rfl rfl H ?_
         refine gL 33 rfl rfl (fun _ h=>h.cell 0 rfl rfl) H ?_
         refine gF 34 rfl rfl H ?_
         refine gL 35 rfl rfl (fun _ h=>h.cell 2 rfl rfl) H ?_
         refine rgp 36 (yI i) 96 H ?_
         refine rg 37 _ 96 (y_sub i 1 rfl rfl qf) H ?_
         obtain⟨aqA,asq,asl,H⟩:=H.Qw 10 rfl (i-1) (i-1) qf qf qf
         have S:=H.zW (zR 0 4)<|zR 2 11
         refine gI 38 rfl rfl rfl S ?_
         refine gF 39 rfl rfl S ?_
         refine jC [40] qh qm<|Xj rfl (e:=96) rfl rfl (zJ (yI ((r.xw[i-1]!).qZ)) isAgg2 rfl (H.zG 1 rfl 0 rfl)<|⟨H.pick (zR 0 4)<|zR 2 11,?_⟩) jD
         have S:=H.zW (zR 0 4)<|zR 2 11
         refine rgl 41 96 S ?_
         refine rgl 42 93 S ?_
         refine rtl 43 S ?_
         refine xy qh<|t_n<|cD rfl (fun h99=>?_)<|fun h99=>?_
         ·refine zcr (sp (Bv false)<|zjr<|zr5<|rH1 (Bv false) H ?_)
          rw[xE (fun h=>by obtain⟨h1,h2,h3,h4,h5,h6,h7,h8,h9,dD,cZ⟩:=h;(obtain⟨q1,q2,q3,q4,q5⟩:=cZ i qf;omega))]
         refine qW<|b_n<|t_n<|xX<|sw<|zS i 1 rfl rfl qf<|sq 1<|xU<|xu (m':=(r.xw.length-((i+1):Int)).toNat) qf ⟨_,i+1,uE5,?_,?_,rfl,N,H.pick [1,2,3]<|zR 4 9⟩
         ·omega
         ·exact i2.succ ⟨‹_›,‹_›,‹_›,‹_›,fun hk=>by omega⟩
        replace Mx:=eq_of_beq Mx
        refine zZ (zR 29 14) 14 (H)<|rtp 43 (Bv true) H ?_
        refine xy qh<|t_n<|cTr rfl<|zcr<|sp (Bv false)<|zjr<|zr5<|rH1 (Bv false) H ?_
        rw[xE (fun h=>by obtain⟨h1,h2,h3,h4,h5,h6,h7,h8,h9,dD,cZ⟩:=h;(obtain⟨q1,q2,q3,q4,q5⟩:=cZ i qf;contradiction))]
       replace Kb:=xq Kb
       replace Kb:=vF Kb
       refine zZ (zR 23 4) 4 (H)<|rtp 27 (Bv true) H ?_
       refine rtp 28 (Bv true) H ?_
       refine zZ (zR 29 14) 14 (H)<|rtp 43 (Bv true) H ?_
       refine xy qh<|t_n<|cTr rfl<|zcr<|sp (Bv false)<|zjr<|zr5<|rH1 (Bv false) H ?_
       rw[xE (fun h=>by obtain⟨h1,h2,h3,h4,h5,h6,h7,h8,h9,dD,cZ⟩:=h;(obtain⟨q1,q2,q3,q4,q5⟩:=cZ i qf;contradiction))]
      replace TH:=xq TH
      replace TH:=vF TH
      refine zZ (zR 15 6) 6 (H)<|rtp 21 (Bv true) H ?_
      refine rtp 22 (Bv true) H ?_
      refine zZ (zR 23 4) 4 (H)<|rtp 27 (Bv true) H ?_
      refine rtp 28 (Bv true) H ?_
      refine zZ (zR 29 14) 14 (H)<|rtp 43 (Bv true) H ?_
      refine xy qh<|t_n<|cTr rfl<|zcr<|sp (Bv false)<|zjr<|zr5<|rH1 (Bv false) H ?_
      rw[xE (fun h=>by obtain⟨h1,h2,h3,h4,h5,h6,h7,h8,h9,dD,cZ⟩:=h;(obtain⟨q1,q2,q3,q4,q5⟩:=cZ i qf;contradiction))]
     replace Cr:=xq Cr
     replace Cr:=QZ Cr
     refine zZ (zR 6 7) 7 (H)<|rtp 13 (Bv true) H ?_
     refine rtp 14 (Bv true) H ?_
     refine zZ (zR 15 6) 6 (H)<|rtp 21 (Bv true) H ?_
     refine rtp 22 (Bv true) H ?_
     refine zZ (zR 23 4) 4 (H)<|rtp 27 (Bv true) H ?_
     refine rtp 28 (Bv true) H ?_
     refine zZ (zR 29 14) 14 (H)<|rtp 43 (Bv true) H ?_
     refine xy qh<|t_n<|cTr rfl<|zcr<|sp (Bv false)<|zjr<|zr5<|rH1 (Bv false) H ?_
     rw[xE (fun h=>by obtain⟨h1,h2,h3,h4,h5,h6,h7,h8,h9,dD,cZ⟩:=h;(obtain⟨q1,q2,q3,q4,q5⟩:=cZ i qf;contradiction))]
    refine zx4<|zcr<|oF rfl<|oL rfl (H.cell 1 rfl rfl) ?_
    have sm:Small r.zU:=vP<|by assumption
    refine sw<|oq (bagSize_ok _ r.zU (H.get 3 rfl).1<|by assumption) H fun amv H=>sp (Bv<|decide ((VN r.zU:Int)>0))<|sp (Bv<|decide ((VN r.zU:Int)>0))<|zjr<|rH1 (Bv<|decide ((VN r.zU:Int)>0)) H<|congrArg Value.bool<|dec_eq ?_
    rw[decide_eq_true_iff]
    exact⟨fun h=>⟨by omega,by omega,by simp_all,by omega,n1,n2,n3,n4,n5,by omega,(show i=r.xw.length by omega)▸i2⟩,fun h=>by have:=h.2.2.2.2.2.2.2.2.2.1;have:=sum_nonneg n1.1;omega⟩
   replace h57:=eq_of_beq h57
   refine xO (zR 30 4)<|sp (Bv true)<|zjn<|cTr rfl<|zcr<|sp (Bv false)<|zjr<|t_r<|rH1 (Bv false) H ?_
   rw[xE (fun h=>by obtain⟨h1,h2,h3,h4,h5,h6,h7,h8,h9,dD,cZ⟩:=h;exact h3 ⟨‹_›,‹_›⟩)]
  replace cZ:=xq cZ
  replace cZ:=QZ cZ
  refine xO (zR 21 7)<|sp (Bv true)<|sp (Bv true)<|xO (zR 30 4)<|sp (Bv true)<|zjn<|cTr rfl<|zcr<|sp (Bv false)<|zjr<|t_r<|rH1 (Bv false) H ?_
  rw[xE (fun h=>by obtain⟨h1,h2,h3,h4,h5,h6,h7,h8,h9,dD,cZ⟩:=h;contradiction)]
 replace h8:=xq h8
 replace h8:=QZ h8
 refine xO (zR 15 4)<|sp (Bv true)<|sp (Bv true)<|xO (zR 21 7)<|sp (Bv true)<|sp (Bv true)<|xO (zR 30 4)<|sp (Bv true)<|zjn<|cTr rfl<|zcr<|sp (Bv false)<|zjr<|t_r<|rH1 (Bv false) H ?_
 rw[xE (fun h=>by obtain⟨h1,h2,h3,h4,h5,h6,h7,h8,h9,dD,cZ⟩:=h;contradiction)]
theorem validSystem_ok(w:World)(s:qO)(xh:zP w xY qU qR s.qA)(xI:zP w zX xC xx s.qB):Calls Tryz.prog 76 #[.agg #[yI s.qN,Sv qU s.qA.length qR,Sv xC s.qB.length xx]] w (Ret (fun v w'=>v=Bv (dec<|Qr s)) w):=by
 refine en func76 ntmps76 ?_
 have H:=((St.start w).arg xI).arg xh
 have vS:=qM xh
 have jV:=qM xI
 clear xh xI
 have N:=Fresh.nil w.heap.size
 have p1:=fun h:jZ s=>h.2.1
 refine zcr<|sw<|jq H (yS s qU qR xC xx) fun b1 w2 H=>sp (Bv false)<|zjcc<|sw<|xW (yS s qU qR xC xx) isAgg27 sizeOf27 rfl (qH (H.cells 0 rfl) 0 3)<|sw<|oq (isShell_ok _ s (H.get 0 rfl).1 (H.get 1 rfl).1) H fun w4 H=>sp (Bv (!(dec<|jZ s)))<|sp (Bv (!(dec<|jZ s))) ?_
 cases h6:(!(dec (jZ s)))
 ·replace h6:=xf h6
  replace h6:=Qz h6
  refine qJ 9 rfl rfl<|oF rfl<|qJ 9 rfl rfl<|oL rfl (H.cell 0 rfl rfl)<|qJ 9 rfl rfl<|oN rfl<|qJ 9 rfl rfl<|sp (Bv<|decide ((s.qB.length:Int)>16))<|sp (Bv<|decide ((s.qB.length:Int)>16))<|zjn<|cD rfl (fun h7=>?_)<|fun h7=>?_
  ·refine zcr (sp (Bv false)<|zjr<|t_r<|rH1 (Bv false) H ?_)
   rw[xE (fun h=>by obtain⟨h1,h2,h3⟩:=h;omega)]
  refine qW<|t_n<|zcr<|sw<|jE [yI 0,yI 0,yI 0,yI 0,yI 0,yI 0] []<|sw<|zn H ti156 [yI 0,yI 0,yI 0,yI 0,yI 0,yI 0] fun b8 w9 H=>sw<|zF H 0 [yI 0,yI 0,yI 0,yI 0,yI 0,yI 0] sizeOf156 fun sI H=>zjcc<|oF rfl<|oL rfl (H.cell 1 rfl rfl)<|oN rfl<|sp (yI 0)<|zjn<|xe ?_
  have p2:=p1 ‹_›
  refine zT ((fun Z0 Z1 Z2=>fun m' ρ BF=>∃(xP:Env) (k:Nat) (many:yLI),ρ=upd (upd (upd (upd (upd xP 1<|pp b1 0) 3<|pp b8 0) 17<|Sv xC s.qB.length xx) 18<|yI s.qB.length) 19 (yI k)/\many=counts6 s k/\((k:Int)<=s.qB.length)/\(RulesTo s k)/\m'=(s.qB.length-(k:Int)).toNat/\Fresh w.heap.size []/\St w BF [.box b8 (many.map<|Value.int .i64) 156,Z0] [Z1,Z2]) _ _ _) ((s.qB.length-(0:Int)).toNat) ⟨_,0,[0,0,0,0,0,0],uE5,(by exact counts6_zero s),qf,qx,rfl,N,H⟩ ?_
  clear H N
  rintro m' ρ G7 ⟨xP,k,many,rfl,rfl,i0,i1,rfl,N,H⟩
  refine zcr<|sq 1<|zjn<|xM<|cD rfl (fun Ed=>?_)<|fun Ed=>?_
  ·refine qW (t_n<|xM<|xe<|zcr ?_)
   obtain⟨Kn,o15,rfl⟩:=H.addr 1 rfl qf
   obtain⟨uu,uT,ajg,wG,uf,af8,t7,uy,ang,wE,wy,ahF,Ao,A0,aqM,uL,uj,ale,H⟩:=H.QY 1 rfl k k qf qf qf
   refine oI rfl rfl<|sw<|xW [yI ((s.qB[k]!).qZ),yI ((s.qB[k]!).yJ),Sv uu (((s.qB[k]!).zU).length) uT,Sv wG (((s.qB[k]!).jJ).length) uf,Sv t7 (((s.qB[k]!).jK).length) uy,Sv wE (((s.qB[k]!).jF).length) wy,Sv Ao (((s.qB[k]!).QL).length) A0,Sv uL (((s.qB[k]!).xw).length) uj,Bv ((s.qB[k]!).jw)] isAgg110 sizeOf110 rfl (qH (H.get 6 rfl) 0 9)<|sw<|zn H ti110 [yI 0,yI 0,yN,yN,yN,yN,yN,yN,Bv false] fun WW Kk H=>sw<|zF H 0 [yI ((s.qB[k]!).qZ),yI ((s.qB[k]!).yJ),Sv uu (((s.qB[k]!).zU).length) uT,Sv wG (((s.qB[k]!).jJ).length) uf,Sv t7 (((s.qB[k]!).jK).length) uy,Sv wE (((s.qB[k]!).jF).length) wy,Sv Ao (((s.qB[k]!).QL).length) A0,Sv uL (((s.qB[k]!).xw).length) uj,Bv ((s.qB[k]!).jw)] sizeOf110 fun KA H=>(zjcc<|sw<|xW [yI s.qN,Sv qU s.qA.length qR,Sv (aa Kn o15) s.qB.length xx] isAgg27 sizeOf27 rfl (qH (H.cells 2 rfl) 0 3)<|sw<|xW [yI ((s.qB[k]!).qZ),yI ((s.qB[k]!).yJ),Sv uu (((s.qB[k]!).zU).length) uT,Sv wG (((s.qB[k]!).jJ).length) uf,Sv t7 (((s.qB[k]!).jK).length) uy,Sv wE (((s.qB[k]!).jF).length) wy,Sv Ao (((s.qB[k]!).QL).length) A0,Sv uL (((s.qB[k]!).xw).length) uj,Bv ((s.qB[k]!).jw)] isAgg110 sizeOf110 rfl (qH (H.cells 0 rfl) 0 9)<|sw<|oq (isRule_ok _ s (s.qB[k]!) (H.get 7 rfl).1 (H.get 8 rfl).1 (H.get 0 rfl).1 (H.get 1 rfl).1 (H.get 2 rfl).1 (H.get 3 rfl).1 (H.get 4 rfl).1 (H.get 5 rfl).1 qg) H fun Ke H=>?_)
   have q:=fun h:RuleOk s (s.qB[k]!)=>(show 0<=(s.qB[k]!).qZ/\(s.qB[k]!).qZ<=5 from⟨h.1.1,by have:=h.1.2;omega⟩)
   refine sq 1<|zjn<|cQ rfl (fun BH=>?_)<|fun BH=>?_
   ·refine zcr (sp (Bv false)<|zjr<|t_r<|zr5<|rH1 (Bv false) H ?_)
    rw[xE (fun h=>by obtain⟨h1,h2,h3⟩:=h;(obtain⟨r1,r2⟩:=h3 k qf;contradiction))]
   obtain⟨q1,q2⟩:=q ‹_›
   have q3:=VF (s:=s) (k:=k) q1 q2
   have q4:=ofCell_bd s.qB (s.qB[k]!).qZ k
   refine qW<|t_n<|zcr<|oF rfl<|oL rfl (H.cell 0 rfl rfl)<|sw<|o_idxArr ((s.qB[k]!).qZ) underlying156 ti3 rfl rfl qf qf<|oL rfl (H.cell 1 rfl<|ints_at (iv:=(s.qB[k]!).qZ) (i:=(((s.qB[k]!).qZ).toNat)) qf<|by simp only[List.length_set,List.length_cons,List.length_nil,counts6_len];omega)<|sw<|zS ((counts6 s k)[((s.qB[k]!).qZ).toNat]!) 1 rfl rfl qf<|sw<|o_idxArr ((s.qB[k]!).qZ) underlying156 ti3 rfl rfl qf qf<|sw<|o_storeArr H 1 rfl (((counts6 s k)[((s.qB[k]!).qZ).toNat]!)+1) sizeOf3 rfl rfl (i:=(((s.qB[k]!).qZ).toNat)) qf (by simp only[List.length_set,List.length_cons,List.length_nil,counts6_len];omega) fun D0 H=>?_
   rw[counts6_succ q1 q2] at H
   refine zjc<|oF rfl<|oL rfl (H.cell 0 rfl rfl)<|sw<|o_idxArr ((s.qB[k]!).qZ) underlying156 ti3 rfl rfl qf qf<|oL rfl (H.cell 1 rfl<|ints_at (iv:=(s.qB[k]!).qZ) (i:=(((s.qB[k]!).qZ).toNat)) qf<|by simp only[List.length_set,List.length_cons,List.length_nil,counts6_len];omega)<|sp (Bv<|decide (((counts6 s<|k+1)[((s.qB[k]!).qZ).toNat]! :Int)>8))<|zjn<|cD rfl (fun ze=>?_)<|fun ze=>?_
   ·refine zcr (sp (Bv false)<|zjr<|zr5<|rH1 (Bv false) H ?_)
    rw[xE (fun h=>by obtain⟨h1,h2,h3⟩:=h;(obtain⟨r1,r2⟩:=h3 k qf;(have:=VF (s:=s) (k:=k+1) q1 q2;omega)))]
   refine qW<|b_n<|t_n<|xX<|sw<|zS k 1 rfl rfl qf<|sq 1<|xU<|xu (m':=(s.qB.length-((k+1):Int)).toNat) qf ⟨_,k+1,_,uE5,?_,?_,?_,rfl,N,H.pick [1,2] [7,8]⟩
   ·rfl
   ·omega
   ·exact i1.succ ‹_› (by have:=VF (s:=s) (k:=k+1) q1 q2;omega)
  refine zx4<|zcr<|sp (Bv true)<|zjr<|rH1 (Bv true) H ?_
  rw[Qx ⟨by assumption,by omega,(show s.qB.length=k by omega)▸i1⟩]
 replace h6:=xq h6
 replace h6:=vF h6
 refine xO (zR 10 4)<|sp (Bv true)<|zjn<|cTr rfl<|zcr<|sp (Bv false)<|zjr<|t_r<|rH1 (Bv false) H ?_
 rw[xE (fun h=>by obtain⟨h1,h2,h3⟩:=h;contradiction)]
theorem validState_ok(w:World)(s:qO)(t:xn)(xh:zP w xY qU qR s.qA)(xI:zP w zX xC xx s.qB)(ve:zP w jY zK zI t.xF)(jd:zP w Qe vC vk t.qG)(zB:zP w je zg zf t.qF):Calls Tryz.prog 36 #[.agg #[yI s.qN,Sv qU s.qA.length qR,Sv xC s.qB.length xx],.agg #[Sv zK t.xF.length zI,Sv vC t.qG.length vk,Sv zg t.qF.length zf]] w (Ret (fun v w'=>v=Bv (dec<|Qr s/\vU s t)) w):=by
 refine en func36 ntmps36 ?_
 have H:=(((((St.start w).arg zB).arg jd).arg ve).arg xI).arg xh
 have vS:=qM xh
 clear xh xI ve jd zB
 have N:=Fresh.nil w.heap.size
 refine zcr<|sw<|jq H (yS s qU qR xC xx) fun b1 w2 H=>sw<|jq H (yT t zK zI vC vk zg zf) fun b3 w4 H=>sp (Bv false)<|zjcc<|sw<|xW (yS s qU qR xC xx) isAgg27 sizeOf27 rfl (qH (H.cells 1 rfl) 0 3)<|sw<|oq (validSystem_ok _ s (H.get 0 rfl).1 (H.get 1 rfl).1) H fun w6 H=>sp (Bv (!(dec<|Qr s)))<|sp (Bv (!(dec<|Qr s))) ?_
 cases h8:(!(dec (Qr s)))
 ·replace h8:=xf h8
  replace h8:=Qz h8
  have z1:=(‹Qr s›:Qr s).1.2.1
  refine qJ 10 rfl rfl<|oF rfl<|qJ 10 rfl rfl<|oL rfl (H.cell 0 rfl rfl)<|qJ 10 rfl rfl<|oN rfl<|qJ 10 rfl rfl<|oF rfl<|qJ 10 rfl rfl<|oL rfl (H.cell 1 rfl rfl)<|qJ 10 rfl rfl<|oN rfl<|qJ 10 rfl rfl<|sp (Bv ((t.xF.length:Int) != s.qA.length))<|sp (Bv ((t.xF.length:Int) != s.qA.length))<|sp (Bv ((t.xF.length:Int) != s.qA.length)) ?_
  cases h9:((t.xF.length:Int) != s.qA.length)
  ·replace h9:=xK h9
   refine qJ 19 rfl rfl<|oF rfl<|qJ 19 rfl rfl<|oL rfl (H.cell 0 rfl rfl)<|qJ 19 rfl rfl<|oN rfl<|qJ 19 rfl rfl<|oF rfl<|qJ 19 rfl rfl<|oL rfl (H.cell 1 rfl rfl)<|qJ 19 rfl rfl<|oN rfl<|qJ 19 rfl rfl<|sp (Bv ((t.qG.length:Int) != s.qA.length))<|sp (Bv ((t.qG.length:Int) != s.qA.length))<|sp (Bv ((t.qG.length:Int) != s.qA.length)) ?_
   cases dD:((t.qG.length:Int) != s.qA.length)
   ·replace dD:=xK dD
    refine qJ 28 rfl rfl<|oF rfl<|qJ 28 rfl rfl<|oL rfl (H.cell 0 rfl rfl)<|qJ 28 rfl rfl ?_
    obtain⟨sT,Za,rfl⟩:=H.addr 2 rfl qf
    refine oI rfl rfl<|qJ 28 rfl rfl<|oL rfl (H.XZ 2 rfl 0 qf)<|qJ 28 rfl rfl<|sp (Bv (!(t.xF[0]!)))<|sp (Bv (!(t.xF[0]!)))<|sp (Bv (!(t.xF[0]!))) ?_
    cases mo:(!(t.xF[0]!))
    ·replace mo:=xf mo
     refine qJ 35 rfl rfl<|oF rfl<|qJ 35 rfl rfl<|oL rfl (H.cell 1 rfl rfl)<|qJ 35 rfl rfl<|oF rfl<|qJ 35 rfl rfl<|oL rfl (H.cell 0 rfl rfl)<|qJ 35 rfl rfl<|sw<|oq (VC _ s.qN t.qF (H.get 4 rfl).1) H fun H7 H=>qJ 35 rfl rfl<|sq 2<|zjn<|cQ rfl (fun GF=>?_)<|fun GF=>?_
     ·refine zcr (sp (Bv false)<|zjr<|t_r<|rH1 (Bv false) H ?_)
      rw[xE (fun h=>by obtain⟨h0,h1,h2,h3,h4,h5⟩:=h;contradiction)]
     refine qW<|t_n<|zcc<|oF rfl<|oL rfl (H.cell 0 rfl rfl)<|oN rfl<|sp (yI 0)<|zjn<|xe<|zT ((fun Z0 Z1 Z2 Z3 Z4 Z5 Z6=>fun m' ρ ZR=>∃(xP:Env) (c:Nat),ρ=upd (upd (upd (upd (upd xP 2<|pp b1 0) 3<|pp b3 0) 44<|Sv vC t.qG.length vk) 45<|yI t.qG.length) 46 (yI c)/\((c:Int)<=t.qG.length)/\(BagsTo s t c)/\m'=(t.qG.length-(c:Int)).toNat/\Fresh w.heap.size []/\St w ZR [Z0,Z1] [Z2,Z3,Z4,Z5,Z6]) _ _ _ _ _ _ _) ((t.qG.length-(0:Int)).toNat) ⟨_,0,uE5,qf,qx,rfl,N,H⟩ ?_
     clear H N
     rintro m' ρ Kk ⟨xP,c,rfl,i0,i1,rfl,N,H⟩
     refine zcr<|sq 1<|zjn<|xM<|cD rfl (fun zv=>?_)<|fun zv=>?_
     ·refine qW (t_n<|xM<|xe<|zcr<|sp (yI c) ?_)
      obtain⟨wK,o22,rfl⟩:=H.addr 3 rfl qf
      obtain⟨aDS,aDA,aCZ,H⟩:=H.yB 3 rfl c c qf qf qf
      refine oI rfl rfl<|oL rfl (H.zG 1 rfl 0 rfl)<|sp (yI c)<|sq 1<|zjc<|oF rfl<|oL rfl (H.cell 1 rfl rfl)<|sq 1<|sw<|oq (VC _ s.qN (t.qG[c]!) (H.get 0 rfl).1) H fun D0 H=>sp (Bv (!(dec<|vW s.qN<|t.qG[c]!)))<|sp (Bv (!(dec<|vW s.qN<|t.qG[c]!))) ?_
      cases oz:(!(dec (vW s.qN (t.qG[c]!))))
      ·replace oz:=xf oz
       replace oz:=Qz oz
       refine qJ 56 rfl rfl<|oF rfl<|qJ 56 rfl rfl<|oL rfl (H.cell 0 rfl rfl)<|qJ 56 rfl rfl<|sp (yI c)<|qJ 56 rfl rfl<|oI rfl rfl<|qJ 56 rfl rfl<|oL rfl (H.XZ 4 rfl c qf)<|qJ 56 rfl rfl<|sp (Bv (!(t.xF[c]!)))<|qJ 56 rfl rfl<|sp (Bv (!(t.xF[c]!))) ?_
       cases oi:(!(t.xF[c]!))
       ·replace oi:=xf oi
        refine xO [64,65,66]<|qJ 56 rfl rfl<|sp (Bv false)<|sp (Bv false)<|zjn<|cFr rfl<|qW<|b_n<|t_n<|xX<|sw<|zS c 1 rfl rfl qf<|sq 1<|xU<|xu (m':=(t.qG.length-((c+1):Int)).toNat) qf ⟨_,c+1,uE5,?_,?_,rfl,N,H.pick [0,1]<|zR 2 5⟩
        ·omega
        ·exact i1.succ ‹_› (fun hk=>by simp_all)
       replace oi:=xq oi
       refine qJ 63 rfl rfl<|sq 1<|qJ 63 rfl rfl<|sw<|oq (bagSize_ok _ (t.qG[c]!) (H.get 0 rfl).1<|by exact vP ql) H fun JJ H=>qJ 63 rfl rfl<|sp (Bv<|decide ((VN (t.qG[c]!):Int)>0))<|qJ 56 rfl rfl<|sp (Bv<|decide ((VN (t.qG[c]!):Int)>0))<|sp (Bv<|decide ((VN (t.qG[c]!):Int)>0))<|zjn<|cD rfl (fun h31=>?_)<|fun h31=>?_
       ·refine zcr (sp (Bv false)<|zjr<|zr5<|rH1 (Bv false) H ?_)
        rw[xE (fun h=>by obtain⟨h0,h1,h2,h3,h4,h5⟩:=h;(obtain⟨q1,q2⟩:=h5 c qf;(have:=q2 ql;omega)))]
       refine qW<|b_n<|t_n<|xX<|sw<|zS c 1 rfl rfl qf<|sq 1<|xU<|xu (m':=(t.qG.length-((c+1):Int)).toNat) qf ⟨_,c+1,uE5,?_,?_,rfl,N,H.pick [0,1]<|zR 2 5⟩
       ·omega
       ·exact i1.succ ‹_› (fun hk=>by omega)
      replace oz:=xq oz
      replace oz:=vF oz
      refine xO (zR 57 11)<|sp (Bv true)<|zjn<|cTr rfl<|zcr<|sp (Bv false)<|zjr<|zr5<|rH1 (Bv false) H ?_
      rw[xE (fun h=>by obtain⟨h0,h1,h2,h3,h4,h5⟩:=h;(obtain⟨q1,q2⟩:=h5 c qf;contradiction))]
     refine zx4<|zcr<|sp (Bv true)<|zjr<|rH1 (Bv true) H ?_
     rw[Qx ⟨by assumption,by omega,by omega,by assumption,by assumption,(show t.qG.length=c by omega)▸i1⟩]
    replace mo:=xq mo
    refine xO (zR 36 6)<|sp (Bv true)<|zjn<|cTr rfl<|zcr<|sp (Bv false)<|zjr<|t_r<|rH1 (Bv false) H ?_
    rw[xE (fun h=>by obtain⟨h0,h1,h2,h3,h4,h5⟩:=h;(simp_all;done))]
   replace dD:=bne_iff_ne.1 dD
   refine xO (zR 29 5)<|sp (Bv true)<|sp (Bv true)<|xO (zR 36 6)<|sp (Bv true)<|zjn<|cTr rfl<|zcr<|sp (Bv false)<|zjr<|t_r<|rH1 (Bv false) H ?_
   rw[xE (fun h=>by obtain⟨h0,h1,h2,h3,h4,h5⟩:=h;omega)]
  replace h9:=bne_iff_ne.1 h9
  refine xO (zR 20 7)<|sp (Bv true)<|sp (Bv true)<|xO (zR 29 5)<|sp (Bv true)<|sp (Bv true)<|xO (zR 36 6)<|sp (Bv true)<|zjn<|cTr rfl<|zcr<|sp (Bv false)<|zjr<|t_r<|rH1 (Bv false) H ?_
  rw[xE (fun h=>by obtain⟨h0,h1,h2,h3,h4,h5⟩:=h;omega)]
 replace h8:=xq h8
 replace h8:=vF h8
 refine xO (zR 11 7)<|sp (Bv true)<|sp (Bv true)<|xO (zR 20 7)<|sp (Bv true)<|sp (Bv true)<|xO (zR 29 5)<|sp (Bv true)<|sp (Bv true)<|xO (zR 36 6)<|sp (Bv true)<|zjn<|cTr rfl<|zcr<|sp (Bv false)<|zjr<|t_r<|rH1 (Bv false) H ?_
 rw[xE (fun h=>by obtain⟨h0,h1,h2,h3,h4,h5⟩:=h;contradiction)]
theorem parentNow_ok(w:World)(s:qO)(t:xn)(c:Int)(xh:zP w xY qU qR s.qA)(xI:zP w zX xC xx s.qB)(ve:zP w jY zK zI t.xF)(jd:zP w Qe vC vk t.qG)(zB:zP w je zg zf t.qF)(p0:jZ s)(p1:CellIn s c)(p2:t.xF.length=s.qA.length):Calls Tryz.prog 127 #[.agg #[yI s.qN,Sv qU s.qA.length qR,Sv xC s.qB.length xx],.agg #[Sv zK t.xF.length zI,Sv vC t.qG.length vk,Sv zg t.qF.length zf],yI c] w (Ret (fun v w'=>v=yI (zO s t c)) w):=by
 refine en func127 ntmps127 ?_
 have H:=(((((St.start w).arg zB).arg jd).arg ve).arg xI).arg xh
 have vS:=qM xh
 clear xh xI ve jd zB
 have N:=Fresh.nil w.heap.size
 have p3:=p0.step p1.1 p1.2
 refine zcr<|sw<|jq H (yS s qU qR xC xx) fun b1 w2 H=>sw<|jq H (yT t zK zI vC vk zg zf) fun b3 w4 H=>sp (yI 0)<|zjc<|oF rfl<|oL rfl (H.cell 1 rfl rfl)<|sp (yI c) ?_
 obtain⟨b5,o6,rfl⟩:=H.addr 0 rfl qf
 refine oI rfl rfl<|oL rfl (H.elemInt 0 rfl c qf qf)<|sq 1<|zjn<|xM<|xe<|zT ((fun Z0 Z1 Z2 Z3 Z4 Z5 Z6=>fun m' ρ w8=>∃(xP:Env) (p:Int) (n:Nat),ρ=upd (upd (upd xP 3<|pp b1 0) 4<|pp b3 0) 7 (yI p)/\(-1<=p/\p<=(s.qA.length:Int)-1)/\(p<n)/\(zO s t c=climb s.qA t.xF n p)/\m'=(p+1).toNat/\Fresh w.heap.size []/\St w w8 [Z0,Z1] [Z2,Z3,Z4,Z5,Z6]) _ _ _ _ _ _ _) (((s.qA[c.toNat]!)+1).toNat) ⟨_,s.qA[c.toNat]!,s.qA.length,uE3,qf,qf,(by rfl),rfl,N,H⟩ ?_
 clear H N
 rintro m' ρ w9 ⟨xP,p,n,rfl,i0,i1,i2,rfl,N,H⟩
 have up:=fun h=>p0.step (c:=p) h i0.2
 refine zcc<|sp (yI p)<|sp (Bv<|decide ((p:Int)>=0))<|sp (Bv<|decide ((p:Int)>=0)) ?_
 cases dD:(decide ((p:Int)>=0))
 ·replace dD:=of_decide_eq_false dD
  refine xO (zR 16 6)<|sp (Bv false)<|zjn<|cFr rfl<|zx4<|zcr<|sp (yI p)<|sp (yI p)<|zjr<|rH1 (yI p) H ?_
  rw[i2,climb_end<|by omega]
 replace dD:=of_decide_eq_true dD
 refine qJ 15 rfl rfl<|oF rfl<|qJ 15 rfl rfl<|oL rfl (H.cell 0 rfl rfl)<|qJ 15 rfl rfl<|sp (yI p)<|qJ 15 rfl rfl ?_
 obtain⟨sT,Za,rfl⟩:=H.addr 2 rfl qf
 refine oI rfl rfl<|qJ 15 rfl rfl<|oL rfl (H.elemBool 2 rfl p qf qf)<|qJ 15 rfl rfl<|sq 2<|zjn<|vg _ rfl (fun mo=>?_)<|fun mo=>?_
 ·replace mo:=xq mo
  refine qW<|t_n<|xe<|xX<|oF rfl<|oL rfl (H.cell 1 rfl rfl)<|sp (yI p)<|oI rfl rfl<|oL rfl (H.elemInt 0 rfl p qf qf)<|sq 1<|xU<|b_n ?_
  have up1:=up qf
  refine xu (m':=((s.qA[p.toNat]!)+1).toNat) qf ⟨_,_,n-1,uE3,?_,?_,?_,rfl,N,H⟩
  ·omega
  ·omega
  ·exact i2.trans<|climb_go qf qf ‹_›
 replace mo:=xf mo
 refine zx4<|zcr<|sp (yI p)<|sp (yI p)<|zjr<|rH1 (yI p) H ?_
 rw[i2,climb_end<|by simp_all]
theorem isEnabled_ok(w:World)(s:qO)(t:xn)(r:yu)(xh:zP w xY qU qR s.qA)(xI:zP w zX xC xx s.qB)(ve:zP w jY zK zI t.xF)(jd:zP w Qe vC vk t.qG)(zB:zP w je zg zf t.qF)(gQ:zP w AO g0 gj r.zU)(iS:zP w AC hX gc r.jJ)(jx:zP w Br hP gm r.jK)(jN:zP w AK gS ga r.jF)(my:zP w HX mf lp r.QL)(fw:zP w AP Vt Vs r.xw)(p0:Qr s)(p1:vU s t)(p2:RuleOk s r):Calls Tryz.prog 79 #[.agg #[yI s.qN,Sv qU s.qA.length qR,Sv xC s.qB.length xx],.agg #[Sv zK t.xF.length zI,Sv vC t.qG.length vk,Sv zg t.qF.length zf],.agg #[yI r.qZ,yI r.yJ,Sv g0 r.zU.length gj,Sv hX r.jJ.length gc,Sv hP r.jK.length gm,Sv gS r.jF.length ga,Sv mf r.QL.length lp,Sv Vt r.xw.length Vs,Bv r.jw]] w (Ret (fun v w'=>v=Bv (dec<|EnOk s t r)) w):=by
 refine en func79 ntmps79 ?_
 have H:=(((((((((((St.start w).arg fw).arg my).arg jN).arg jx).arg iS).arg gQ).arg zB).arg jd).arg ve).arg xI).arg xh
 have XM:=qM jd
 have asr:=qM gQ
 have Ax:=qM fw
 clear xh xI ve jd zB gQ iS jx jN my fw
 have N:=Fresh.nil w.heap.size
 have p3:=p2.1
 have p4:=p1.1
 have p5:=p1.2.1
 have p6:=(p1.bagLen (k:=r.qZ.toNat) qf).len
 have p7:=p2.2.2.2.2.1.len
 have p8:=p2.2.2.2.2.2.1.len
 have p9:=p2.2.2.2.2.2.2.1.len
 have p10:=vP p2.2.2.2.2.2.2.1
 have p11:=p0.1
 have UG:=p2.2.2.2.2.2.2.2.2.2.2
 have p13:=XR p0
 refine zcr<|sw<|jq H (yS s qU qR xC xx) fun b1 w2 H=>sw<|jq H (yT t zK zI vC vk zg zf) fun b3 w4 H=>sw<|jq H [yI r.qZ,yI r.yJ,Sv g0 r.zU.length gj,Sv hX r.jJ.length gc,Sv hP r.jK.length gm,Sv gS r.jF.length ga,Sv mf r.QL.length lp,Sv Vt r.xw.length Vs,Bv r.jw] fun b5 w6 H=>sp (Bv false)<|zjcc<|oF rfl<|oL rfl (H.cell 1 rfl rfl)<|oF rfl<|oL rfl (H.cell 0 rfl rfl) ?_
 obtain⟨b7,o8,rfl⟩:=H.addr 2 rfl qf
 refine oI rfl rfl<|oL rfl (H.elemBool 2 rfl r.qZ qf qf)<|sq 1<|zjn<|vg _ rfl (fun dD=>?_)<|fun dD=>?_
 ·replace dD:=xq dD
  refine zcr<|sp (Bv false)<|zjr<|t_r<|rH1 (Bv false) H ?_
  rw[xE (fun h=>by obtain⟨h1,h2,h3,h4,h5⟩:=h;exact ft h1 ‹_›)]
 replace dD:=xf dD
 refine qW<|t_n<|zcr<|oF rfl<|oL rfl (H.cell 1 rfl rfl)<|oF rfl<|oL rfl (H.cell 0 rfl rfl) ?_
 obtain⟨sT,Za,rfl⟩:=H.addr 3 rfl qf
 obtain⟨aFw,aEs,aD2,H⟩:=H.yB 3 rfl r.qZ r.qZ.toNat qf qf qf
 refine oI rfl rfl<|oL rfl (H.zG 1 rfl 0 rfl)<|sq 1<|zjcc<|oF rfl<|oL rfl (H.cell 0 rfl rfl)<|sq 1<|sw<|oq (isWithin_ok _ r.zU (t.qG[r.qZ.toNat]!) (H.get 7 rfl).1 (H.get 0 rfl).1 qg qg) H fun H7 H=>sp (Bv (!(within r.zU<|t.qG[r.qZ.toNat]!)))<|sp (Bv (!(within r.zU<|t.qG[r.qZ.toNat]!))) ?_
 cases GF:(!(within r.zU (t.qG[r.qZ.toNat]!)))
 ·replace GF:=xf GF
  refine qJ 26 rfl rfl<|oF rfl<|qJ 26 rfl rfl<|oL rfl (H.cell 0 rfl rfl)<|qJ 26 rfl rfl<|sq 1<|qJ 26 rfl rfl<|sw<|oq (isWithin_ok _ r.jJ (t.qG[r.qZ.toNat]!) (H.get 8 rfl).1 (H.get 0 rfl).1 qg qg) H fun ZR H=>qJ 26 rfl rfl<|sp (Bv (!(within r.jJ<|t.qG[r.qZ.toNat]!)))<|sp (Bv (!(within r.jJ<|t.qG[r.qZ.toNat]!)))<|sp (Bv (!(within r.jJ<|t.qG[r.qZ.toNat]!))) ?_
  cases zv:(!(within r.jJ (t.qG[r.qZ.toNat]!)))
  ·replace zv:=xf zv
   refine qJ 33 rfl rfl<|oF rfl<|qJ 33 rfl rfl<|oL rfl (H.cell 0 rfl rfl)<|qJ 33 rfl rfl<|sw<|oq (bagSize_ok _ r.jK (H.get 9 rfl).1<|by assumption) H fun Pz H=>qJ 33 rfl rfl<|sp (Bv<|decide ((VN r.jK:Int)>0))<|qJ 33 rfl rfl<|sp (Bv<|decide ((VN r.jK:Int)>0)) ?_
   cases PL:(decide ((VN r.jK:Int)>0))
   ·replace PL:=of_decide_eq_false PL
    refine xO (zR 39 4)<|qJ 33 rfl rfl<|sp (Bv false)<|sp (Bv false)<|zjn<|cFr rfl<|qW<|t_n<|zcr<|oF rfl<|oL rfl (H.cell 0 rfl rfl)<|sp (.func (.func 126) #[] #[pp b3 0,pp b1 0,pp b5 0])<|sw<|vz #[Sv Vt r.xw.length Vs,.func (.func 126) #[] #[pp b3 0,pp b1 0,pp b5 0]] rfl rfl call125<|en func125 ntmps125 ?_
    refine zcr<|sp (Bv false)<|zjc<|sq 1<|sp (.func (.func 126) #[] #[pp b3 0,pp b1 0,pp b5 0])<|sw<|vz #[Sv Vt r.xw.length Vs,.func (.func 126) #[] #[pp b3 0,pp b1 0,pp b5 0]] rfl rfl call163<|en func163 ntmps163 ?_
    refine zcr<|sp (yI 0)<|zjcc<|sq 1<|oN rfl<|sp (yI 0)<|zjn<|xe<|zT ((fun Z0 Z1 Z2 Z3 Z4 Z5 Z6 Z7 Z8 Z9 fi fK gW ka lc lN=>fun m' ρ D1=>∃(xP:Env) (i:Nat),ρ=upd (upd (upd (upd xP 0<|Sv Vt r.xw.length Vs) 1<|.func (.func 126) #[] #[pp b3 0,pp b1 0,pp b5 0]) 7<|yI r.xw.length) 8 (yI i)/\((i:Int)<=r.xw.length)/\(IntoUp s t r i)/\m'=(r.xw.length-(i:Int)).toNat/\Fresh w.heap.size []/\St w D1 [Z0,Z1,Z2] [Z3,Z4,Z5,Z6,Z7,Z8,Z9,fi,fK,gW,ka,lc,lN]) _ _ _ _ _ _ _ _ _ _ _ _ _ _ _ _) ((r.xw.length-(0:Int)).toNat) ⟨_,0,uE4,qf,qx,rfl,N,H⟩ ?_
    clear H N
    rintro m' ρ D0 ⟨xP,i,rfl,i0,i1,rfl,N,H⟩
    refine zcr<|sq 1<|zjn<|xM<|cD rfl (fun ze=>?_)<|fun ze=>?_
    ·have q:=(UG i qf).1
     have q1:=q.1
     have q2:=q.2
     refine qW<|t_n<|xM<|xe<|zcr<|sp (yI i)<|sp (yI i)<|zjc<|sp (.func (.func 126) #[] #[pp b3 0,pp b1 0,pp b5 0])<|sq 1<|sp (yI i) ?_
     obtain⟨b27,o28,rfl⟩:=H.addr 12 rfl qf
     obtain⟨Af,AG,arL,H⟩:=H.Qw 12 rfl i i qf qf qf
     refine oI rfl rfl<|sw<|xW [yI ((r.xw[i]!).qZ),Sv Af (((r.xw[i]!).Xa).length) AG] isAgg161 sizeOf161 rfl (qH (H.get 1 rfl) 0 2)<|sw<|vz #[.agg #[yI ((r.xw[i]!).qZ),Sv Af (((r.xw[i]!).Xa).length) AG],pp b3 0,pp b1 0,pp b5 0] rfl rfl call126<|en func126 ntmps126 ?_
     refine zcr<|sw<|jq H [yI ((r.xw[i]!).qZ),Sv Af (((r.xw[i]!).Xa).length) AG] fun b31 Pn H=>sp (Bv false)<|zjn<|xM<|QE rfl H fun H=>tF 0 rfl rfl H ?_
     refine tL 1 rfl rfl (fun _ h=>h.cell 2 rfl rfl) H ?_
     refine tF 2 rfl rfl H ?_
     refine tL 3 rfl rfl (fun _ h=>h.cell 0 rfl rfl) H ?_
     refine tI 4 rfl rfl rfl H ?_
     refine tL 5 rfl rfl (fun _ h=>h.elemBool 6 rfl ((r.xw[i]!).qZ) qf qf) H ?_
     refine rtp 6 (Bv (!(t.xF[((r.xw[i]!).qZ).toNat]!))) H ?_
     refine rtp 7 (Bv (!(t.xF[((r.xw[i]!).qZ).toNat]!))) H ?_
     cases sE:(!(t.xF[((r.xw[i]!).qZ).toNat]!))
     ·replace sE:=xf sE
      refine rg 8 _ 13 (Qg (cs:=(yS s qU qR xC xx)) isAgg27 sizeOf27 rfl<|fun _ h=>qH (h.cells 3 rfl) 0 3) H ?_
      refine rg 9 _ 13 (Qg (cs:=[Sv (aa b7 o8) t.xF.length zI,Sv (aa sT Za) t.qG.length vk,Sv zg t.qF.length zf]) isAgg31 sizeOf31 rfl<|fun _ h=>qH (h.cells 2 rfl) 0 3) H ?_
      refine gF 10 rfl rfl H ?_
      refine gL 11 rfl rfl (fun _ h=>h.cell 0 rfl rfl) H ?_
      refine gF 13 rfl rfl H ?_
      refine gL 14 rfl rfl (fun _ h=>h.cell 1 rfl rfl) H ?_
      refine jC [12] qh qm<|Xj rfl (e:=13) rfl rfl (oq (parentNow_ok _ s t ((r.xw[i]!).qZ) (H.get 4 rfl).1 (H.get 5 rfl).1 (H.get 6 rfl).1 (H.get 7 rfl).1 (H.get 8 rfl).1 qg qg qg) H fun FY H=>⟨H,(rgl 15 13 H ?_)⟩) jD
      refine rtl 16 H ?_
      refine rtl 17 H ?_
      refine xy qh<|t_n<|c_ret<|ret1 (Bv ((zO s t ((r.xw[i]!).qZ):Int) != r.qZ)) rfl rfl ⟨_,rfl,?_⟩
      replace H:=H.erases [0]
      dsimp only[zL,List.eraseIdx,List.set] at H
      refine zjn<|vg _ rfl (fun EB=>?_)<|fun EB=>?_
      ·replace EB:=bne_iff_ne.1 EB
       refine zcr<|sp (yI i)<|sp (yI i)<|zjr<|zr5<|ret1 (yI i) rfl rfl ⟨_,rfl,(sw<|o_pure (Bv true) (by show some (Value.bool<|decide ((i:Int)>=0))=some (Value.bool true);rw[decide_eq_true qf])<|sp (Bv true)<|zjr<|ret1 (Bv true) rfl rfl ⟨_,rfl,(sp (Bv false)<|sp (Bv false)<|zjr<|rH1 (Bv false) H ?_)⟩)⟩
       rw[xE (fun h=>by obtain⟨h1,h2,h3,h4,h5⟩:=h;(obtain⟨q1,q2⟩:=h5 i qf;exact absurd q2 ‹_›))]
      replace EB:=xK EB
      refine qW<|b_n<|t_n<|xX<|sw<|zS i 1 rfl rfl qf<|sq 1<|xU<|xu (m':=(r.xw.length-((i+1):Int)).toNat) qf ⟨_,i+1,uE4,?_,?_,rfl,N,H.pick [0,1,2]<|zR 2 13⟩
      ·omega
      ·exact i1.succ ‹_› ‹_›
     replace sE:=xq sE
     refine zZ (zR 8 8) 8 (H)<|rtp 16 (Bv true) H ?_
     refine rtp 17 (Bv true) H ?_
     refine xy qh<|t_n<|c_ret<|ret1 (Bv true) rfl rfl ⟨_,rfl,?_⟩
     replace H:=H.erases [0]
     dsimp only[zL,List.eraseIdx,List.set] at H
     refine zjn<|cTr rfl<|zcr<|sp (yI i)<|sp (yI i)<|zjr<|zr5<|ret1 (yI i) rfl rfl ⟨_,rfl,(sw<|o_pure (Bv true) (by show some (Value.bool<|decide ((i:Int)>=0))=some (Value.bool true);rw[decide_eq_true qf])<|sp (Bv true)<|zjr<|ret1 (Bv true) rfl rfl ⟨_,rfl,(sp (Bv false)<|sp (Bv false)<|zjr<|rH1 (Bv false) H ?_)⟩)⟩
     rw[xE (fun h=>by obtain⟨h1,h2,h3,h4,h5⟩:=h;(obtain⟨q1,q2⟩:=h5 i qf;exact ft q1 ‹_›))]
    refine zx4<|zcr<|sq 1<|zjr<|ret1 (yI (-1)) rfl rfl ⟨_,rfl,(sp (Bv false)<|sp (Bv false)<|zjr<|ret1 (Bv false) rfl rfl ⟨_,rfl,(sp (Bv true)<|sp (Bv true)<|zjr<|rH1 (Bv true) H ?_)⟩)⟩
    rw[Qx ⟨by assumption,by assumption,by assumption,fun⟨u,v⟩=>by omega,(show i=r.xw.length by omega)▸i1⟩]
   replace PL:=of_decide_eq_true PL
   refine qJ 38 rfl rfl<|oF rfl<|qJ 38 rfl rfl<|oL rfl (H.cell 0 rfl rfl)<|qJ 38 rfl rfl<|sq 1<|qJ 38 rfl rfl<|sw<|oq (isWithin_ok _ r.jK (t.qG[r.qZ.toNat]!) (H.get 9 rfl).1 (H.get 0 rfl).1 qg qg) H fun Rr H=>qJ 33 rfl rfl<|sq 2<|zjn<|vg _ rfl (fun th=>?_)<|fun th=>?_
   ·refine zcr (sp (Bv false)<|zjr<|t_r<|rH1 (Bv false) H ?_)
    rw[xE (fun h=>by obtain⟨h1,h2,h3,h4,h5⟩:=h;exact h4 ⟨‹_›,‹_›⟩)]
   refine qW<|t_n<|zcr<|oF rfl<|oL rfl (H.cell 0 rfl rfl)<|sp (.func (.func 126) #[] #[pp b3 0,pp b1 0,pp b5 0])<|sw<|vz #[Sv Vt r.xw.length Vs,.func (.func 126) #[] #[pp b3 0,pp b1 0,pp b5 0]] rfl rfl call125<|en func125 ntmps125 ?_
   refine zcr<|sp (Bv false)<|zjc<|sq 1<|sp (.func (.func 126) #[] #[pp b3 0,pp b1 0,pp b5 0])<|sw<|vz #[Sv Vt r.xw.length Vs,.func (.func 126) #[] #[pp b3 0,pp b1 0,pp b5 0]] rfl rfl call163<|en func163 ntmps163 ?_
   refine zcr<|sp (yI 0)<|zjcc<|sq 1<|oN rfl<|sp (yI 0)<|zjn<|xe<|zT ((fun Z0 Z1 Z2 Z3 Z4 Z5 Z6 Z7 Z8 Z9 fi fK gW ka lc lN=>fun m' ρ Sh=>∃(xP:Env) (i:Nat),ρ=upd (upd (upd (upd xP 0<|Sv Vt r.xw.length Vs) 1<|.func (.func 126) #[] #[pp b3 0,pp b1 0,pp b5 0]) 7<|yI r.xw.length) 8 (yI i)/\((i:Int)<=r.xw.length)/\(IntoUp s t r i)/\m'=(r.xw.length-(i:Int)).toNat/\Fresh w.heap.size []/\St w Sh [Z0,Z1,Z2] [Z3,Z4,Z5,Z6,Z7,Z8,Z9,fi,fK,gW,ka,lc,lN]) _ _ _ _ _ _ _ _ _ _ _ _ _ _ _ _) ((r.xw.length-(0:Int)).toNat) ⟨_,0,uE4,qf,qx,rfl,N,H⟩ ?_
   clear H N
   rintro m' ρ UM ⟨xP,i,rfl,i0,i1,rfl,N,H⟩
   refine zcr<|sq 1<|zjn<|xM<|cD rfl (fun h44=>?_)<|fun h44=>?_
   ·have q:=(UG i qf).1
    have q1:=q.1
    have q2:=q.2
    refine qW<|t_n<|xM<|xe<|zcr<|sp (yI i)<|sp (yI i)<|zjc<|sp (.func (.func 126) #[] #[pp b3 0,pp b1 0,pp b5 0])<|sq 1<|sp (yI i) ?_
    obtain⟨b45,o46,rfl⟩:=H.addr 12 rfl qf
    obtain⟨z9,Al,aqZ,H⟩:=H.Qw 12 rfl i i qf qf qf
    refine oI rfl rfl<|sw<|xW [yI ((r.xw[i]!).qZ),Sv z9 (((r.xw[i]!).Xa).length) Al] isAgg161 sizeOf161 rfl (qH (H.get 1 rfl) 0 2)<|sw<|vz #[.agg #[yI ((r.xw[i]!).qZ),Sv z9 (((r.xw[i]!).Xa).length) Al],pp b3 0,pp b1 0,pp b5 0] rfl rfl call126<|en func126 ntmps126 ?_
    refine zcr<|sw<|jq H [yI ((r.xw[i]!).qZ),Sv z9 (((r.xw[i]!).Xa).length) Al] fun b49 w50 H=>sp (Bv false)<|zjn<|xM<|QE rfl H fun H=>tF 0 rfl rfl H ?_
    refine tL 1 rfl rfl (fun _ h=>h.cell 2 rfl rfl) H ?_
    refine tF 2 rfl rfl H ?_
    refine tL 3 rfl rfl (fun _ h=>h.cell 0 rfl rfl) H ?_
    refine tI 4 rfl rfl rfl H ?_
    refine tL 5 rfl rfl (fun _ h=>h.elemBool 6 rfl ((r.xw[i]!).qZ) qf qf) H ?_
    refine rtp 6 (Bv (!(t.xF[((r.xw[i]!).qZ).toNat]!))) H ?_
    refine rtp 7 (Bv (!(t.xF[((r.xw[i]!).qZ).toNat]!))) H ?_
    cases J2:(!(t.xF[((r.xw[i]!).qZ).toNat]!))
    ·replace J2:=xf J2
     refine rg 8 _ 13 (Qg (cs:=(yS s qU qR xC xx)) isAgg27 sizeOf27 rfl<|fun _ h=>qH (h.cells 3 rfl) 0 3) H ?_
     refine rg 9 _ 13 (Qg (cs:=[Sv (aa b7 o8) t.xF.length zI,Sv (aa sT Za) t.qG.length vk,Sv zg t.qF.length zf]) isAgg31 sizeOf31 rfl<|fun _ h=>qH (h.cells 2 rfl) 0 3) H ?_
     refine gF 10 rfl rfl H ?_
     refine gL 11 rfl rfl (fun _ h=>h.cell 0 rfl rfl) H ?_
     refine gF 13 rfl rfl H ?_
     refine gL 14 rfl rfl (fun _ h=>h.cell 1 rfl rfl) H ?_
     refine jC [12] qh qm<|Xj rfl (e:=13) rfl rfl (oq (parentNow_ok _ s t ((r.xw[i]!).qZ) (H.get 4 rfl).1 (H.get 5 rfl).1 (H.get 6 rfl).1 (H.get 7 rfl).1 (H.get 8 rfl).1 qg qg qg) H fun w54 H=>⟨H,(rgl 15 13 H ?_)⟩) jD
     refine rtl 16 H ?_
     refine rtl 17 H ?_
     refine xy qh<|t_n<|c_ret<|ret1 (Bv ((zO s t ((r.xw[i]!).qZ):Int) != r.qZ)) rfl rfl ⟨_,rfl,?_⟩
     replace H:=H.erases [0]
     dsimp only[zL,List.eraseIdx,List.set] at H
     refine zjn<|vg _ rfl (fun h56=>?_)<|fun h56=>?_
     ·replace h56:=bne_iff_ne.1 h56
      refine zcr<|sp (yI i)<|sp (yI i)<|zjr<|zr5<|ret1 (yI i) rfl rfl ⟨_,rfl,(sw<|o_pure (Bv true) (by show some (Value.bool<|decide ((i:Int)>=0))=some (Value.bool true);rw[decide_eq_true qf])<|sp (Bv true)<|zjr<|ret1 (Bv true) rfl rfl ⟨_,rfl,(sp (Bv false)<|sp (Bv false)<|zjr<|rH1 (Bv false) H ?_)⟩)⟩
      rw[xE (fun h=>by obtain⟨h1,h2,h3,h4,h5⟩:=h;(obtain⟨q1,q2⟩:=h5 i qf;exact absurd q2 ‹_›))]
     replace h56:=xK h56
     refine qW<|b_n<|t_n<|xX<|sw<|zS i 1 rfl rfl qf<|sq 1<|xU<|xu (m':=(r.xw.length-((i+1):Int)).toNat) qf ⟨_,i+1,uE4,?_,?_,rfl,N,H.pick [0,1,2]<|zR 2 13⟩
     ·omega
     ·exact i1.succ ‹_› ‹_›
    replace J2:=xq J2
    refine zZ (zR 8 8) 8 (H)<|rtp 16 (Bv true) H ?_
    refine rtp 17 (Bv true) H ?_
    refine xy qh<|t_n<|c_ret<|ret1 (Bv true) rfl rfl ⟨_,rfl,?_⟩
    replace H:=H.erases [0]
    dsimp only[zL,List.eraseIdx,List.set] at H
    refine zjn<|cTr rfl<|zcr<|sp (yI i)<|sp (yI i)<|zjr<|zr5<|ret1 (yI i) rfl rfl ⟨_,rfl,(sw<|o_pure (Bv true) (by show some (Value.bool<|decide ((i:Int)>=0))=some (Value.bool true);rw[decide_eq_true qf])<|sp (Bv true)<|zjr<|ret1 (Bv true) rfl rfl ⟨_,rfl,(sp (Bv false)<|sp (Bv false)<|zjr<|rH1 (Bv false) H ?_)⟩)⟩
    rw[xE (fun h=>by obtain⟨h1,h2,h3,h4,h5⟩:=h;(obtain⟨q1,q2⟩:=h5 i qf;exact ft q1 ‹_›))]
   refine zx4<|zcr<|sq 1<|zjr<|ret1 (yI (-1)) rfl rfl ⟨_,rfl,(sp (Bv false)<|sp (Bv false)<|zjr<|ret1 (Bv false) rfl rfl ⟨_,rfl,(sp (Bv true)<|sp (Bv true)<|zjr<|rH1 (Bv true) H ?_)⟩)⟩
   rw[Qx ⟨by assumption,by assumption,by assumption,fun⟨u,v⟩=>by exact ft v ‹_›,(show i=r.xw.length by omega)▸i1⟩]
  replace zv:=xq zv
  refine xO (zR 34 10)<|sp (Bv true)<|zjn<|cTr rfl<|zcr<|sp (Bv false)<|zjr<|t_r<|rH1 (Bv false) H ?_
  rw[xE (fun h=>by obtain⟨h1,h2,h3,h4,h5⟩:=h;exact ft h3 ‹_›)]
 replace GF:=xq GF
 refine xO (zR 27 5)<|sp (Bv true)<|sp (Bv true)<|xO (zR 34 10)<|sp (Bv true)<|zjn<|cTr rfl<|zcr<|sp (Bv false)<|zjr<|t_r<|rH1 (Bv false) H ?_
 rw[xE (fun h=>by obtain⟨h1,h2,h3,h4,h5⟩:=h;exact ft h2 ‹_›)]
theorem cloneSS_ok(w:World)(l:yLL)(hl:zP w Fl al cl l)(p0:l.length<=1000000):Calls Tryz.prog 80 #[Sv al l.length cl] w (Ret (fun v w'=>∃(ra:yOA) (rn:Nat) (rc:Nat) (rx:List Value) (rF:yLN),v=Sv ra rn rc/\(∀b∈rF,b∈Fl)/\St w w' [rr ra rn rc 24 1 rx] [qQ false rF rx l]) w):=by
 refine en func80 ntmps80 ?_
 have H:=(St.start w).arg hl
 have C5:=qM hl
 clear hl
 refine zcr<|sq 1<|zjcc<|sq 1<|sw<|o_eqnil underlying29 al l.length cl rfl<|zjn<|vg _ rfl (fun h1=>?_)<|fun h1=>?_
 ·refine zcr (sq 1<|zjr<|t_r ?_)
  replace H:=H.nilRow 24 1
  replace H:=H.yD (α:=yLI)
  refine rH1 yN H ?_
  obtain rfl:=H.nilOf 1 rfl ‹_›
  replace H:=H.unfree 0 rfl
  exact⟨none,0,0,[],[],rfl,(by intro b hb;(simp at hb;done)),H.pick [0] [0]⟩
 refine qW<|t_n<|zcr<|sw<|jH H underlying29 ti24 fun b2 w3 H=>sq 1 ?_
 replace H:=H.boxRow 0 rfl 1 0 rfl qj
 replace H:=H.yD (α:=yLI)
 refine sw<|VH H 0 rfl 1 rfl underlying29 ti24 rfl qj rfl rfl qp qf fun a4 c5 w6 us7 G8 H hG9=>?_
 replace H:=H.repsCat false 1 rfl 0 rfl qm
 refine sq 1<|zjr<|rH1 (Sv a4 (0+l.length) c5) H<|⟨a4,0+l.length,c5,[]++us7,([]++G8),rfl,(by intro b hb;exact hG9 b<|by simpa using hb),H.pick [0] [0]⟩
theorem timesIn_ok(w:World)(l:yLI)(m:yLI){cm:Nat}(hl:zP w Fl al cl l)(hm:zP w Fm am cm m)(p0:l.length<=m.length)(p2:∀q,q<l.length->0<=m[q]! /\m[q]! <=1000):Calls Tryz.prog 86 #[Sv al l.length cl,Sv am m.length cm] w (Ret (fun v w'=>v=yI (Xr l m)) w):=by
 refine en func86 ntmps86 ?_
 have H:=((St.start w).arg hm).arg hl
 have C5:=qM hl
 have nhm:=qM hm
 clear hl hm
 have N:=Fresh.nil w.heap.size
 refine zcr<|sp (yI 0)<|zjc<|sq 1<|zjcc<|sq 1<|oN rfl<|sp (yI 0)<|zjn<|xe<|zT ((fun Z0 Z1=>fun m' ρ w1=>∃(xP:Env) (fa:Int) (k:Nat),ρ=upd (upd (upd (upd (upd xP 1<|Sv am m.length cm) 5<|yI fa) 8<|Sv al l.length cl) 9<|yI l.length) 10 (yI k)/\fa=Q9 l m k/\((k:Int)<=l.length)/\m'=(l.length-(k:Int)).toNat/\Fresh w.heap.size []/\St w w1 [] [Z0,Z1]) _ _) ((l.length-(0:Int)).toNat) ⟨_,1000,0,uE5,(by rfl),qf,rfl,N,H⟩ ?_
 clear H N
 rintro m' ρ w2 ⟨xP,fa,k,rfl,rfl,i0,rfl,N,H⟩
 refine zcr<|sq 1<|zjn<|xM<|cD rfl (fun h3=>?_)<|fun h3=>?_
 ·refine qW (t_n<|xM<|xe<|zcr<|sp (yI k) ?_)
  obtain⟨b4,o5,rfl⟩:=H.addr 0 rfl qf
  refine oI rfl rfl<|oL rfl (H.vG 0 rfl k qf)<|sp (yI k)<|sq 1<|zjc<|sq 1<|sp (Bv<|decide ((l[k]! :Int)>0))<|zjn<|cD rfl (fun h7=>?_)<|fun h7=>?_
  ·refine xX (sq 2<|sp (yI k) ?_)
   obtain⟨b8,o9,rfl⟩:=H.addr 1 rfl qf
   refine oI rfl rfl<|oL rfl (H.vG 1 rfl k qf)<|sq 1<|sw<|o_quo (m[k]!) (l[k]!) rfl rfl (by(have:=p2 k qf;omega)) (by(have:=p2 k qf;omega))<|sw<|o_min (Q9 l m k) ((m[k]!) / (l[k]!)) rfl rfl<|sq 1<|xU<|b_n<|t_n<|xX<|sw<|zS k 1 rfl rfl (by(have:=p2 k qf;omega))<|sq 1<|xU<|xu (m':=(l.length-((k+1):Int)).toNat) qf ⟨_,_,k+1,uE5,?_,?_,rfl,N,H⟩
   ·exact(timesTo_pos qf).symm
   ·omega
  refine qW<|b_n<|t_n<|xX<|sw<|zS k 1 rfl rfl (by(have:=p2 k qf;omega))<|sq 1<|xU<|xu (m':=(l.length-((k+1):Int)).toNat) qf ⟨_,_,k+1,uE5,?_,?_,rfl,N,H⟩
  ·exact(timesTo_skip qf).symm
  ·omega
 refine zx4<|zcr<|sq 2<|zjr<|rH1 (yI<|Q9 l m k) H ?_
 obtain rfl:k=l.length:=by omega
 rfl
theorem applicable_ok(w:World)(s:qO)(t:xn)(xh:zP w xY qU qR s.qA)(xI:zP w zX xC xx s.qB)(ve:zP w jY zK zI t.xF)(jd:zP w Qe vC vk t.qG)(zB:zP w je zg zf t.qF)(p0:Qr s)(p1:vU s t):Calls Tryz.prog 39 #[.agg #[yI s.qN,Sv qU s.qA.length qR,Sv xC s.qB.length xx],.agg #[Sv zK t.xF.length zI,Sv vC t.qG.length vk,Sv zg t.qF.length zf]] w (Ret (fun v w'=>∃(ra:yOA) (rn:Nat) (rc:Nat),v=Sv ra rn rc/\Fresh w.heap.size []/\St w w' [rr ra rn rc 2 1 ((appls s t).map<|Value.int .i64)] []) w):=by
 refine en func39 ntmps39 ?_
 have H:=(((((St.start w).arg zB).arg jd).arg ve).arg xI).arg xh
 have vS:=qM xh
 have jV:=qM xI
 clear xh xI ve jd zB
 have N:=Fresh.nil w.heap.size
 have p2:=p0.2.1
 have p3:=p0.1.2.1
 refine zcr<|sw<|jq H (yS s qU qR xC xx) fun b1 w2 H=>sw<|jq H (yT t zK zI vC vk zg zf) fun b3 w4 H=>sq 1<|zjc<|sw<|jE [yI 0,yI 0,yI 0,yI 0,yI 0,yI 0] []<|sw<|zn H ti129 [yI 0,yI 0,yI 0,yI 0,yI 0,yI 0] fun b5 w6 H=>(sw<|zF H 0 [yI 0,yI 0,yI 0,yI 0,yI 0,yI 0] sizeOf129 fun w7 H=>zjcc<|sp (yI 0)<|zjn<|xe<|zT ((fun Z0 Z1 Z2 Z3 Z4 Z5 Z6=>fun m' ρ w8=>∃(xP:Env) (c:Nat) (top:yLI),ρ=upd (upd (upd (upd xP 2<|pp b1 0) 3<|pp b3 0) 5<|pp b5 0) 13 (yI c)/\top=minus c/\((c:Int)<=6)/\m'=(6-(c:Int)).toNat/\Fresh w.heap.size []/\St w w8 [.box b5 (top.map<|Value.int .i64) 129,Z0,Z1] [Z2,Z3,Z4,Z5,Z6]) _ _ _ _ _ _ _) ((6-(0:Int)).toNat) ⟨_,0,[0,0,0,0,0,0],uE4,(by rfl),qf,rfl,N,H⟩ ?_)
 clear H N
 rintro m' ρ w9 ⟨xP,c,top,rfl,rfl,i0,rfl,N,H⟩
 refine zcr<|sp (Bv<|decide ((c:Int)<6))<|zjn<|xM<|cD rfl (fun dD=>?_)<|fun dD=>?_
 ·refine qW (t_n<|xM<|xe<|zcr<|sp (yI c)<|sp (yI c)<|zjn<|xX<|sp (yI c)<|sw<|o_idxArr c underlying129 ti2 rfl rfl qf qf<|sw<|o_storeArr H 0 rfl (-1) sizeOf2 rfl rfl (i:=c) qf (by simp only[List.length_set,List.length_cons,List.length_nil,minus_len,XG];omega) fun BF H=>xU<|b_n<|t_n<|xX<|sw<|zS c 1 rfl rfl qf<|sq 1<|xU<|xu (m':=(6-((c+1):Int)).toNat) qf ⟨_,c+1,_,uE4,?_,?_,rfl,N,H⟩)
  ·exact minus_set qf
  ·omega
 refine zx4<|zcc<|oF rfl<|oL rfl (H.cell 2 rfl rfl)<|oN rfl<|sp (yI 0)<|zjn<|xe<|zT ((fun Z0 Z1 Z2 Z3 Z4 Z5 Z6=>fun m' ρ G7=>∃(xP:Env) (k:Nat) (Lk:yLI),ρ=upd (upd (upd (upd (upd (upd xP 2<|pp b1 0) 3<|pp b3 0) 5<|pp b5 0) 20<|Sv xC s.qB.length xx) 21<|yI s.qB.length) 22 (yI k)/\Lk=bests s t (-1) 6 k/\((k:Int)<=s.qB.length)/\m'=(s.qB.length-(k:Int)).toNat/\Fresh w.heap.size []/\St w G7 [.box b5 (Lk.map<|Value.int .i64) 129,Z0,Z1] [Z2,Z3,Z4,Z5,Z6]) _ _ _ _ _ _ _) ((s.qB.length-(0:Int)).toNat) ⟨_,0,(minus c),uE6,(by exact minus_six qf s t),qf,rfl,N,H⟩ ?_
 clear H N
 rintro m' ρ Dv ⟨xP,k,Lk,rfl,rfl,i0,rfl,N,H⟩
 refine zcr<|sq 1<|zjn<|xM<|cD rfl (fun mo=>?_)<|fun mo=>?_
 ·have q:=p0.rule (i:=k) qf
  have qc:=q.1
  have q6:(s.qB[k]!).qZ.toNat<6:=by omega
  refine qW<|t_n<|xM<|xe<|zcr ?_
  obtain⟨DV,o16,rfl⟩:=H.addr 1 rfl qf
  obtain⟨tM,uH,akU,tz,uX,an3,tZ,uq,ai8,ud,tt,ajO,AA,AY,aq9,uB,uQ,anF,H⟩:=H.QY 1 rfl k k qf qf qf
  refine oI rfl rfl<|sw<|xW [yI ((s.qB[k]!).qZ),yI ((s.qB[k]!).yJ),Sv tM (((s.qB[k]!).zU).length) uH,Sv tz (((s.qB[k]!).jJ).length) uX,Sv tZ (((s.qB[k]!).jK).length) uq,Sv ud (((s.qB[k]!).jF).length) tt,Sv AA (((s.qB[k]!).QL).length) AY,Sv uB (((s.qB[k]!).xw).length) uQ,Bv ((s.qB[k]!).jw)] isAgg110 sizeOf110 rfl (qH (H.get 6 rfl) 0 9)<|sw<|zn H ti110 [yI 0,yI 0,yN,yN,yN,yN,yN,yN,Bv false] fun Ki KA H=>sw<|zF H 0 [yI ((s.qB[k]!).qZ),yI ((s.qB[k]!).yJ),Sv tM (((s.qB[k]!).zU).length) uH,Sv tz (((s.qB[k]!).jJ).length) uX,Sv tZ (((s.qB[k]!).jK).length) uq,Sv ud (((s.qB[k]!).jF).length) tt,Sv AA (((s.qB[k]!).QL).length) AY,Sv uB (((s.qB[k]!).xw).length) uQ,Bv ((s.qB[k]!).jw)] sizeOf110 fun Pz H=>(zjc<|sw<|xW [yI s.qN,Sv qU s.qA.length qR,Sv (aa DV o16) s.qB.length xx] isAgg27 sizeOf27 rfl (qH (H.cells 3 rfl) 0 3)<|sw<|xW (yT t zK zI vC vk zg zf) isAgg31 sizeOf31 rfl (qH (H.cells 2 rfl) 0 3)<|sw<|xW [yI ((s.qB[k]!).qZ),yI ((s.qB[k]!).yJ),Sv tM (((s.qB[k]!).zU).length) uH,Sv tz (((s.qB[k]!).jJ).length) uX,Sv tZ (((s.qB[k]!).jK).length) uq,Sv ud (((s.qB[k]!).jF).length) tt,Sv AA (((s.qB[k]!).QL).length) AY,Sv uB (((s.qB[k]!).xw).length) uQ,Bv ((s.qB[k]!).jw)] isAgg110 sizeOf110 rfl (qH (H.cells 0 rfl) 0 9)<|sw<|oq (isEnabled_ok _ s t (s.qB[k]!) (H.get 7 rfl).1 (H.get 8 rfl).1 (H.get 9 rfl).1 (H.get 10 rfl).1 (H.get 11 rfl).1 (H.get 0 rfl).1 (H.get 1 rfl).1 (H.get 2 rfl).1 (H.get 3 rfl).1 (H.get 4 rfl).1 (H.get 5 rfl).1 qg qg qg) H fun Kf H=>zjn<|cP rfl (fun h25=>?_)<|fun h25=>?_)
  ·refine X4 rfl H [0,2,3] fun H=>?_
   have S:=H.zW [0,2,3]<|zR 0 12
   refine tF 0 rfl rfl S ?_
   refine tL 1 rfl rfl (fun _ h=>h.cell 0 rfl rfl) S ?_
   refine tF 2 rfl rfl S ?_
   refine tL 3 rfl rfl (fun _ h=>h.cell 0 rfl rfl) S ?_
   refine rt 4 _ (y_idxArr b5 (0) 6 ((s.qB[k]!).qZ) underlying129 ti2 rfl rfl qf qf) S ?_
   refine tF 6 rfl rfl S ?_
   refine tL 7 rfl rfl (fun _ h=>h.cell 0 rfl rfl) S ?_
   refine ro 5 rfl<|zJ (yI ((bests s t (-1) 6 k)[((s.qB[k]!).qZ).toNat]!)) isAgg2 rfl (H.cell 1 rfl<|ints_at (iv:=(s.qB[k]!).qZ) (i:=(((s.qB[k]!).qZ).toNat)) qf<|by simp only[List.length_set,List.length_cons,List.length_nil,minus_len,XG];omega)<|⟨H.pick [0,2,3]<|zR 0 12,?_⟩
   have S:=H.zW [0,2,3]<|zR 0 12
   refine rt 8 _ (y_max ((bests s t (-1) 6 k)[((s.qB[k]!).qZ).toNat]!) ((s.qB[k]!).yJ) rfl rfl) S ?_
   refine rt 9 _ (y_idxArr b5 (0) 6 ((s.qB[k]!).qZ) underlying129 ti2 rfl rfl qf qf) S ?_
   refine ro 10 rfl<|o_storeArr H 1 rfl (max ((bests s t (-1) 6 k)[((s.qB[k]!).qZ).toNat]!) ((s.qB[k]!).yJ)) sizeOf2 rfl rfl (i:=(((s.qB[k]!).qZ).toNat)) qf (by simp only[List.length_set,List.length_cons,List.length_nil,minus_len,XG];omega) fun Pp H=>⟨H.pick [0,2,3]<|zR 0 12,(xy qh<|b_n<|t_n<|xX<|sw<|zS k 1 rfl rfl qf<|sq 1<|xU<|xu (m':=(s.qB.length-((k+1):Int)).toNat) qf ⟨_,k+1,_,uE6,?_,?_,rfl,N,H.pick [1,2,3]<|zR 7 5⟩)⟩
   ·exact bests_set ‹_› qf
   ·omega
  refine qW<|b_n<|t_n<|xX<|sw<|zS k 1 rfl rfl qf<|sq 1<|xU<|xu (m':=(s.qB.length-((k+1):Int)).toNat) qf ⟨_,k+1,_,uE6,?_,?_,rfl,N,H.pick [1,2,3]<|zR 7 5⟩
  ·exact bests_skip ‹_›
  ·omega
 refine zx4<|zcr<|sw<|jH H underlying24 ti2 fun b28 JJ H=>sq 1<|zjcc<|oF rfl<|oL rfl (H.cell 3 rfl rfl)<|oN rfl<|sp (yI 0)<|zjn<|xe ?_
 replace H:=H.boxRowI 0 [] 0
 refine zT ((fun Z0 Z1 Z2 Z3 Z4 Z5 Z6 Z7=>fun m' ρ ZP=>∃(xP:Env) (yO:yOA) (yH:Nat) (yM:Nat) (out:yLI) (i:Nat),ρ=upd (upd (upd (upd (upd (upd (upd xP 2<|pp b1 0) 3<|pp b3 0) 5<|pp b5 0) 9<|Sv yO yH yM) 43<|Sv xC s.qB.length xx) 44<|yI s.qB.length) 45 (yI i)/\out=applL s t i/\((i:Int)<=s.qB.length)/\m'=(s.qB.length-(i:Int)).toNat/\Fresh w.heap.size []/\St w ZP [rr yO yH yM 2 1<|out.map<|Value.int .i64,Z0,Z1,Z2] [Z3,Z4,Z5,Z6,Z7]) _ _ _ _ _ _ _ _) ((s.qB.length-(0:Int)).toNat) ⟨_,(aa b28 0),0,0,([]:yLI),0,uE7,(by rfl),qf,rfl,N,H⟩ ?_
 clear H N
 rintro m' ρ w31 ⟨xP,yO,yH,yM,out,i,rfl,rfl,i0,rfl,N,H⟩
 have Vm:=H.Qc 0 rfl
 have ll:=applL_le s t i
 refine zcr<|sq 1<|zjn<|xM<|cD rfl (fun h32=>?_)<|fun h32=>?_
 ·have q:=p0.rule (i:=i) qf
  have qc:=q.1
  have qr:=q.2.1
  have q6:(s.qB[i]!).qZ.toNat<6:=by omega
  refine qW<|t_n<|xM<|xe<|zcr<|sp (yI i) ?_
  obtain⟨Ag,o34,rfl⟩:=H.addr 1 rfl qf
  obtain⟨pA,pV,Pf,pS,pz,LM,qu,qt,Kv,pr,pJ,L0,ta,tj,Rk,qT,pX,Lp,H⟩:=H.QY 1 rfl i i qf qf qf
  refine oI rfl rfl<|sw<|xW [yI ((s.qB[i]!).qZ),yI ((s.qB[i]!).yJ),Sv pA (((s.qB[i]!).zU).length) pV,Sv pS (((s.qB[i]!).jJ).length) pz,Sv qu (((s.qB[i]!).jK).length) qt,Sv pr (((s.qB[i]!).jF).length) pJ,Sv ta (((s.qB[i]!).QL).length) tj,Sv qT (((s.qB[i]!).xw).length) pX,Bv ((s.qB[i]!).jw)] isAgg110 sizeOf110 rfl (qH (H.get 6 rfl) 0 9)<|sw<|zn H ti110 [yI 0,yI 0,yN,yN,yN,yN,yN,yN,Bv false] fun b37 R0 H=>sp (yI i)<|sw<|zF H 0 [yI ((s.qB[i]!).qZ),yI ((s.qB[i]!).yJ),Sv pA (((s.qB[i]!).zU).length) pV,Sv pS (((s.qB[i]!).jJ).length) pz,Sv qu (((s.qB[i]!).jK).length) qt,Sv pr (((s.qB[i]!).jF).length) pJ,Sv ta (((s.qB[i]!).QL).length) tj,Sv qT (((s.qB[i]!).xw).length) pX,Bv ((s.qB[i]!).jw)] sizeOf110 fun Rr H=>zjn<|xM<|QE rfl H fun H=>tF 0 rfl rfl H ?_
  refine tL 1 rfl rfl (fun _ h=>h.cell 0 rfl rfl) H ?_
  refine tF 2 rfl rfl H ?_
  refine tL 3 rfl rfl (fun _ h=>h.cell 0 rfl rfl) H ?_
  refine rt 4 _ (y_idxArr b5 (0) 6 ((s.qB[i]!).qZ) underlying129 ti2 rfl rfl qf qf) H ?_
  refine tL 5 rfl rfl (fun _ h=>h.cell 2 rfl<|ints_at (iv:=(s.qB[i]!).qZ) (i:=(((s.qB[i]!).qZ).toNat)) qf<|by simp only[List.length_set,List.length_cons,List.length_nil,minus_len,XG];omega) H ?_
  refine rtp 6 (Bv (((s.qB[i]!).yJ:Int) == ((bests s t (-1) 6 k)[((s.qB[i]!).qZ).toNat]!))) H ?_
  refine rtp 7 (Bv (((s.qB[i]!).yJ:Int) == ((bests s t (-1) 6 k)[((s.qB[i]!).qZ).toNat]!))) H ?_
  cases th:(((s.qB[i]!).yJ:Int) == ((bests s t (-1) 6 k)[((s.qB[i]!).qZ).toNat]!))
  ·replace th:=ne_of_beq_false th
   refine zZ (zR 8 4) 4 (H)<|rtp 12 (Bv false) H ?_
   refine xy qh<|t_n<|cFr rfl<|qW<|b_n<|t_n<|xX<|sw<|zS i 1 rfl rfl qf<|sq 1<|xU<|xu (m':=(s.qB.length-((i+1):Int)).toNat) qf ⟨_,_,_,_,_,i+1,uE7,?_,?_,rfl,N,H.pick (zR 1 4)<|zR 7 5⟩
   ·exact applL_no<|appl_no (n:=6) (z:= -1) (k:=k) qf qf qf q6 ‹_›
   ·omega
  replace th:=eq_of_beq th
  refine rg 8 _ 57 (Qg (cs:=[yI s.qN,Sv qU s.qA.length qR,Sv (aa Ag o34) s.qB.length xx]) isAgg27 sizeOf27 rfl<|fun _ h=>qH (h.cells 4 rfl) 0 3) H ?_
  refine rg 9 _ 57 (Qg (cs:=(yT t zK zI vC vk zg zf)) isAgg31 sizeOf31 rfl<|fun _ h=>qH (h.cells 3 rfl) 0 3) H ?_
  refine rg 10 _ 57 (Qg (cs:=[yI ((s.qB[i]!).qZ),yI ((s.qB[i]!).yJ),Sv pA (((s.qB[i]!).zU).length) pV,Sv pS (((s.qB[i]!).jJ).length) pz,Sv qu (((s.qB[i]!).jK).length) qt,Sv pr (((s.qB[i]!).jF).length) pJ,Sv ta (((s.qB[i]!).QL).length) tj,Sv qT (((s.qB[i]!).xw).length) pX,Bv ((s.qB[i]!).jw)]) isAgg110 sizeOf110 rfl<|fun _ h=>qH (h.cells 0 rfl) 0 9) H ?_
  refine jC [11] qh qm<|Xj rfl (e:=57) rfl rfl (oq (isEnabled_ok _ s t (s.qB[i]!) (H.get 7 rfl).1 (H.get 8 rfl).1 (H.get 9 rfl).1 (H.get 10 rfl).1 (H.get 11 rfl).1 (H.get 0 rfl).1 (H.get 1 rfl).1 (H.get 2 rfl).1 (H.get 3 rfl).1 (H.get 4 rfl).1 (H.get 5 rfl).1 qg qg qg) H fun UM H=>⟨H,(rtl 12 H ?_)⟩) jD
  refine xy qh<|t_n<|cP rfl (fun Bt=>?_)<|fun Bt=>?_
  ·refine xX (sq 1<|sp (yI i)<|sw<|zy H underlying24 ti2 [yI i] fun b46 w47 H=>sw<|zH H 2 rfl 0 rfl underlying24 ti2 rfl qj rfl rfl rfl qw qp qf fun a48 c49 w50 H=>?_)
   rw[snocI] at H
   refine sq 1<|xU<|b_n<|t_n<|xX<|sw<|zS i 1 rfl rfl qf<|sq 1<|xU<|xu (m':=(s.qB.length-((i+1):Int)).toNat) qf ⟨_,_,_,_,_,i+1,uE7,?_,?_,rfl,N,H.pick (zR 2 4)<|zR 7 5⟩
   ·exact applL_yes<|appl_yes (n:=6) (z:= -1) (k:=k) qf qf qf q6 ‹_› ‹_›
   ·omega
  refine qW<|b_n<|t_n<|xX<|sw<|zS i 1 rfl rfl qf<|sq 1<|xU<|xu (m':=(s.qB.length-((i+1):Int)).toNat) qf ⟨_,_,_,_,_,i+1,uE7,?_,?_,rfl,N,H.pick (zR 1 4)<|zR 7 5⟩
  ·exact applL_no<|fun h=>‹¬EnOk _ _ _› h.1
  ·omega
 refine zx4<|zcr<|sq 2<|zjr<|rH1 (Sv yO yH yM) H ?_
 obtain rfl:i=s.qB.length:=by omega
 exact⟨yO,yH,yM,rfl,N,H.pick [0] []⟩
theorem firstChoice_ok(w:World)(s:qO)(t:xn)(xh:zP w xY qU qR s.qA)(xI:zP w zX xC xx s.qB)(ve:zP w jY zK zI t.xF)(jd:zP w Qe vC vk t.qG)(zB:zP w je zg zf t.qF)(p0:Qr s)(p1:vU s t):Calls Tryz.prog 41 #[.agg #[yI s.qN,Sv qU s.qA.length qR,Sv xC s.qB.length xx],.agg #[Sv zK t.xF.length zI,Sv vC t.qG.length vk,Sv zg t.qF.length zf]] w (Ret (fun v w'=>∃(ra:yOA) (rn:Nat) (rc:Nat),v=Sv ra rn rc/\Fresh w.heap.size []/\St w w' [rr ra rn rc 2 1 ((xG s t).map<|Value.int .i64)] []) w):=by
 refine en func41 ntmps41 ?_
 have H:=(((((St.start w).arg zB).arg jd).arg ve).arg xI).arg xh
 have jV:=qM xI
 have XM:=qM jd
 clear xh xI ve jd zB
 have N:=Fresh.nil w.heap.size
 have p3:=p0.2.1
 have p7:=p1.2.1
 have p9:=p0.1.2.1
 have p11:zM s=s.qA.length:=rfl
 refine zcr<|sw<|jq H (yS s qU qR xC xx) fun b1 w2 H=>sw<|jq H (yT t zK zI vC vk zg zf) fun b3 w4 H=>sq 1<|zjn<|xM<|c_cut (fun ρ sI=>∃(xP:Env) (b5:Nat) (pq:yOA) (rc7:Nat) (rx8:List Value) (rF9:yLN),ρ=upd (upd (upd (upd xP 2<|pp b1 0) 3<|pp b3 0) 5<|Sv (aa b5 0) s.qB.length s.qB.length) 6 (Sv pq t.qG.length rc7)/\Fresh w.heap.size []/\St w sI [rr pq t.qG.length rc7 24 1 rx8,rr (aa b5 0) s.qB.length s.qB.length 2 1 ((List.replicate s.qB.length (0:Int)).map<|Value.int .i64),.box b3 (yT t zK zI vC vk zg zf) 31,.box b1 (yS s qU qR xC xx) 27] [qQ false rF9 rx8 t.qG,sF false xY qU qR s.qA,sF false zX xC xx s.qB,sF false jY zK zI t.xF,sF false Qe vC vk t.qG,sF false je zg zf t.qF]) ?_ ?_
 ·refine QE rfl H fun H=>tF 0 rfl rfl H ?_
  refine tL 1 rfl rfl (fun _ h=>h.cell 1 rfl rfl) H ?_
  refine tN 2 rfl rfl H ?_
  refine tF 4 rfl rfl H ?_
  refine tL 5 rfl rfl (fun _ h=>h.cell 0 rfl rfl) H ?_
  refine jC [3,6] qh qm<|yV rfl ?_<|yV rfl ?_ jD
  ·refine jP H underlying24 ti2 s.qB.length rfl rfl qf qf qf fun rK Dv H=>⟨H.pick [1,2]<|zR 0 5,(ro 6 rfl ?_)⟩
   refine oc (cloneSS_ok _ t.qG (H.get 3 rfl).1 qg) ?_
   rintro _ H7 ⟨rz,ab5,gE,Jh,awY,rfl,aue,K⟩ _
   replace H:=H.mergeIn K 3 rfl aue
   obtain rfl:=H.xk (α:=yLI) 0 rfl 0 rfl qj
   refine⟨H.pick [2,3]<|zR 1 5,?_⟩
   have S:=H.zW [2,3]<|zR 1 5
   refine rtl 7 S ?_
   refine rtl 8 S ?_
   refine xy qh ((meet ⟨_,rK,rz,gE,Jh,awY,uE4,N,H⟩))
  refine oc (cloneSS_ok _ t.qG (H.get 3 rfl).1 qg) ?_
  rintro _ Pz ⟨ke,aCu,lV,aar,JF,rfl,avL,K⟩ _
  replace H:=H.mergeIn K 3 rfl avL
  obtain rfl:=H.xk (α:=yLI) 0 rfl 0 rfl qj
  refine⟨H.pick [1,2]<|zR 1 5,(ro 3 rfl<|jP H underlying24 ti2 s.qB.length rfl rfl qf qf qf fun IP Pp H=>⟨H.pick [2,3]<|zR 1 5,?_⟩)⟩
  have S:=H.zW [2,3]<|zR 1 5
  refine rtl 7 S ?_
  refine rtl 8 S ?_
  refine xy qh ((meet ⟨_,IP,ke,lV,aar,JF,uE4,N,H.pick [1,0,2,3]<|zR 0 6⟩))
 clear H N
 rintro ρ I8 ⟨xP,b5,pq,rc7,rx8,rF9,rfl,N,H⟩
 refine t_n<|zcc<|sw<|xW (yS s qU qR xC xx) isAgg27 sizeOf27 rfl (qH (H.cells 3 rfl) 0 3)<|sw<|xW (yT t zK zI vC vk zg zf) isAgg31 sizeOf31 rfl (qH (H.cells 2 rfl) 0 3)<|sw<|oc (applicable_ok _ s t (H.get 1 rfl).1 (H.get 2 rfl).1 (H.get 3 rfl).1 (H.get 4 rfl).1 (H.get 5 rfl).1 qg qg) ?_
 rintro _ ZP ⟨ath,avy,KF,rfl,M,K⟩ _
 replace H:=H.merge K M
 obtain rfl:=H.Qc 0 rfl
 have al:(appls s t).length<=s.qB.length:=applL_le s t s.qB.length
 refine oN rfl<|sp (yI 0)<|zjn<|xe<|zT ((fun Z0 Z1 Z2 Z3 Z4 Z5 Z6 Z7=>fun m' ρ Na=>∃(xP:Env) (k:Nat) (rest:yLL) (mL:List Value) (mM:yLN) (out:yLI) (m:Nat),ρ=upd (upd (upd (upd (upd (upd xP 2<|pp b1 0) 5<|Sv (aa b5 0) s.qB.length s.qB.length) 6<|Sv pq t.qG.length rc7) 19<|Sv ath ((appls s t).length) KF) 20<|yI ((appls s t).length)) 21 (yI k)/\rest=jR s t m/\out=firstTo s t m s.qB.length/\((k:Int)<=((appls s t).length))/\((applL s t m).length=k)/\(m<=s.qB.length)/\m'=(((appls s t).length)-(k:Int)).toNat/\Fresh w.heap.size []/\St w Na [Z0,rr pq t.qG.length rc7 24 1 mL,rr (aa b5 0) s.qB.length s.qB.length 2 1<|out.map<|Value.int .i64,Z1,Z2] [qQ false mM mL rest,Z3,Z4,Z5,Z6,Z7]) _ _ _ _ _ _ _ _) ((((appls s t).length)-(0:Int)).toNat) ⟨_,0,t.qG,rx8,rF9,(List.replicate s.qB.length (0:Int)),0,uE6,(by rfl),(by exact firstTo_zero s t _),qf,(by rfl),qf,rfl,N,H⟩ ?_
 clear H N
 rintro m' ρ FY ⟨xP,k,rest,mL,mM,out,m,rfl,rfl,rfl,i0,hm,hn,rfl,N,H⟩
 have AQ:=H.xk (α:=yLI) 1 rfl 0 rfl qj
 have Vm:=H.Qc 2 rfl
 refine zcr<|sq 1<|zjn<|xM<|cD rfl (fun Az=>?_)<|fun Az=>?_
 ·obtain⟨a0,a1,a2,a3,a4,a5⟩:=appls_at' hm hn qf
  have q:=p0.rule (i:=((appls s t)[k]!).toNat) qf
  have qc:=q.1
  have qk:=q.cell
  have Rb:=q.2.2.2.2.1
  have ex:((firstTo s t m s.qB.length).set ((appls s t)[k]!).toNat<|Xr (s.qB[((appls s t)[k]!).toNat]!).zU ((jR s t m)[(s.qB[((appls s t)[k]!).toNat]!).qZ.toNat]!))[((appls s t)[k]!).toNat]! =(Xr (s.qB[((appls s t)[k]!).toNat]!).zU ((jR s t m)[(s.qB[((appls s t)[k]!).toNat]!).qZ.toNat]!)):=by rw[getset<|by rw[yh];omega,if_pos rfl]
  have xb:=firstC_bd p0 p1 (k:=((appls s t)[k]!).toNat) a2
  rw[←firstC_step a1 a3 a4] at xb
  refine qW<|t_n<|xM<|xe<|zcr ?_
  obtain⟨b38,rfl⟩:=H.jB 0 rfl qf
  refine oI rfl rfl<|oL rfl (H.rowInt 0 rfl (iv:=k) (i:=k) qf qf)<|sq 1<|zjc<|oF rfl<|oL rfl (H.cell 4 rfl rfl)<|sq 1 ?_
  obtain⟨TB,o40,rfl⟩:=H.addr 2 rfl qf
  obtain⟨Da,BS,ajw,Dn,BV,agO,CN,Dz,afV,BT,DG,aiQ,Fw,Gx,ar8,BW,DT,aj6,H⟩:=H.QY 2 rfl ((appls s t)[k]!) (((appls s t)[k]!).toNat) qf qf qf
  refine oI rfl rfl<|sw<|xW [yI ((s.qB[((appls s t)[k]!).toNat]!).qZ),yI ((s.qB[((appls s t)[k]!).toNat]!).yJ),Sv Da (((s.qB[((appls s t)[k]!).toNat]!).zU).length) BS,Sv Dn (((s.qB[((appls s t)[k]!).toNat]!).jJ).length) BV,Sv CN (((s.qB[((appls s t)[k]!).toNat]!).jK).length) Dz,Sv BT (((s.qB[((appls s t)[k]!).toNat]!).jF).length) DG,Sv Fw (((s.qB[((appls s t)[k]!).toNat]!).QL).length) Gx,Sv BW (((s.qB[((appls s t)[k]!).toNat]!).xw).length) DT,Bv ((s.qB[((appls s t)[k]!).toNat]!).jw)] isAgg110 sizeOf110 rfl (qH (H.get 6 rfl) 0 9)<|sw<|zn H ti110 [yI 0,yI 0,yN,yN,yN,yN,yN,yN,Bv false] fun SB Pr H=>(sw<|zF H 0 [yI ((s.qB[((appls s t)[k]!).toNat]!).qZ),yI ((s.qB[((appls s t)[k]!).toNat]!).yJ),Sv Da (((s.qB[((appls s t)[k]!).toNat]!).zU).length) BS,Sv Dn (((s.qB[((appls s t)[k]!).toNat]!).jJ).length) BV,Sv CN (((s.qB[((appls s t)[k]!).toNat]!).jK).length) Dz,Sv BT (((s.qB[((appls s t)[k]!).toNat]!).jF).length) DG,Sv Fw (((s.qB[((appls s t)[k]!).toNat]!).QL).length) Gx,Sv BW (((s.qB[((appls s t)[k]!).toNat]!).xw).length) DT,Bv ((s.qB[((appls s t)[k]!).toNat]!).jw)] sizeOf110 fun w45 H=>(zjn<|xM<|X4 rfl H [0,1,2,4,5] fun H=>?_))
  have S:=H.zW [0,1,2,4,5]<|zR 0 13
  refine rtl 0 S ?_
  refine rtl 1 S ?_
  refine tF 2 rfl rfl S ?_
  refine tL 3 rfl rfl (fun _ h=>h.cell 0 rfl rfl) S ?_
  refine rtl 4 S ?_
  refine tF 5 rfl rfl S ?_
  refine tL 6 rfl rfl (fun _ h=>h.cell 0 rfl rfl) S ?_
  obtain⟨b47,rfl⟩:=H.jB 2 rfl qf
  refine tI 7 rfl rfl rfl (H.pick [0,1,2,4,5]<|zR 0 13)<|ro 8 rfl ?_
  obtain⟨a48,c49,Kl,s51,J2,H⟩:=H.Xl 2 rfl 7 rfl (iv:=(s.qB[((appls s t)[k]!).toNat]!).qZ) (((s.qB[((appls s t)[k]!).toNat]!).qZ).toNat) qf qf
  refine zJ (Sv a48 (((jR s t m)[((s.qB[((appls s t)[k]!).toNat]!).qZ).toNat]!).length) c49) isAgg24 rfl (J2)<|⟨H.pick [0,1,2,4,5]<|zR 1 13,(ro 9 rfl ?_)⟩
  obtain⟨u1,u2,u5⟩:=firstR_row (c:=(s.qB[((appls s t)[k]!).toNat]!).qZ.toNat) p0 p1 (show m<=_ by omega) qk
  have u3:=Rb.len
  have u6:∀q,q<((s.qB[((appls s t)[k]!).toNat]!).zU).length->0<=((jR s t m)[(s.qB[((appls s t)[k]!).toNat]!).qZ.toNat]!)[q]! /\((jR s t m)[(s.qB[((appls s t)[k]!).toNat]!).qZ.toNat]!)[q]! <=1000:=fun q hq=>u5 q qf
  refine oq (timesIn_ok _ ((s.qB[((appls s t)[k]!).toNat]!).zU) ((jR s t m)[((s.qB[((appls s t)[k]!).toNat]!).qZ).toNat]!) (H.get 1 rfl).1 (H.get 0 rfl).1 qg qg) H fun w54 H=>⟨H.pick [0,1,2,4,5]<|zR 1 13,(tI 10 rfl rfl rfl (H.pick [0,1,2,4,5]<|zR 1 13) ?_)⟩
  refine ro 11 rfl<|o_storeInt H 3 rfl (Xr ((s.qB[((appls s t)[k]!).toNat]!).zU) ((jR s t m)[((s.qB[((appls s t)[k]!).toNat]!).qZ).toNat]!)) sizeOf2 rfl rfl (i:=(((appls s t)[k]!).toNat)) qf qf fun w56 H=>⟨H.pick [0,1,2,4,5]<|zR 1 13,(xy qh<|t_n ?_)⟩
  refine X4 rfl H [0,1,3,4,5] fun H=>?_
  have S:=H.zW [0,1,3,4,5]<|zR 0 14
  refine rtl 0 S ?_
  refine tF 1 rfl rfl S ?_
  refine tL 2 rfl rfl (fun _ h=>h.cell 0 rfl rfl) S ?_
  refine rtl 3 S ?_
  refine tF 4 rfl rfl S ?_
  refine tL 5 rfl rfl (fun _ h=>h.cell 0 rfl rfl) S ?_
  refine tI 6 rfl rfl rfl S ?_
  refine tF 8 rfl rfl S ?_
  refine tL 9 rfl rfl (fun _ h=>h.cell 0 rfl rfl) S ?_
  refine rtl 10 S ?_
  refine rtl 11 S ?_
  refine tI 12 rfl rfl rfl S ?_
  refine tL 13 rfl rfl (fun _ h=>h.rowInt 2 rfl (iv:=(appls s t)[k]!) (i:=(((appls s t)[k]!).toNat)) qf qf) S ?_
  refine rt 14 _ (y_neg (((firstTo s t m s.qB.length).set (((appls s t)[k]!).toNat)<|Xr ((s.qB[((appls s t)[k]!).toNat]!).zU) ((jR s t m)[((s.qB[((appls s t)[k]!).toNat]!).qZ).toNat]!))[((appls s t)[k]!).toNat]!) rfl qf) S ?_
  refine ro 7 rfl ?_
  obtain⟨a58,c59,G60,s61,PF,H⟩:=H.Xl 2 rfl 8 rfl (iv:=(s.qB[((appls s t)[k]!).toNat]!).qZ) (((s.qB[((appls s t)[k]!).toNat]!).qZ).toNat) qf qf
  refine zJ (Sv a58 (((jR s t m)[((s.qB[((appls s t)[k]!).toNat]!).qZ).toNat]!).length) c59) isAgg24 rfl (PF)<|⟨H.pick [0,1,3,4,5]<|zR 1 14,(ro 15 rfl ?_)⟩
  obtain⟨u1,u2,u5⟩:=firstR_row (c:=(s.qB[((appls s t)[k]!).toNat]!).qZ.toNat) p0 p1 (show m<=_ by omega) qk
  have u4:=Rb.Qp (t:= -(((firstTo s t m s.qB.length).set ((appls s t)[k]!).toNat<|Xr (s.qB[((appls s t)[k]!).toNat]!).zU ((jR s t m)[(s.qB[((appls s t)[k]!).toNat]!).qZ.toNat]!))[((appls s t)[k]!).toNat]!)) qf
  refine oc (plus_ok _ ((jR s t m)[((s.qB[((appls s t)[k]!).toNat]!).qZ).toNat]!) ((s.qB[((appls s t)[k]!).toNat]!).zU) (-(((firstTo s t m s.qB.length).set (((appls s t)[k]!).toNat)<|Xr ((s.qB[((appls s t)[k]!).toNat]!).zU) ((jR s t m)[((s.qB[((appls s t)[k]!).toNat]!).qZ).toNat]!))[((appls s t)[k]!).toNat]!)) (H.get 0 rfl).1 (H.get 2 rfl).1 qg qg qg) ?_
  rintro v68 w66 r68 x67
  replace H:=H.zV x67 r68
  obtain⟨a69,c70,rfl,aIp,aH7⟩:=H.yf 0 rfl
  refine⟨H.pick [1,2,4,5,6]<|zR 1 14,(tI 16 rfl rfl rfl (H.pick [1,2,4,5,6]<|zR 1 14) ?_)⟩
  refine ro 17 rfl ?_
  obtain⟨G74,N,apv,H⟩:=H.vJ 0 rfl N<|H.vV []
  refine Qd false H 3 rfl 10 rfl (Sv a69 ((jc ((jR s t m)[((s.qB[((appls s t)[k]!).toNat]!).qZ).toNat]!) ((s.qB[((appls s t)[k]!).toNat]!).zU) (-(((firstTo s t m s.qB.length).set (((appls s t)[k]!).toNat)<|Xr ((s.qB[((appls s t)[k]!).toNat]!).zU) ((jR s t m)[((s.qB[((appls s t)[k]!).toNat]!).qZ).toNat]!))[((appls s t)[k]!).toNat]!))).length) c70) 0 rfl rfl sizeOf24 rfl rfl (i:=(((s.qB[((appls s t)[k]!).toNat]!).qZ).toNat)) qf qf qm fun w73 amu F77 abI H=>⟨H.pick [1,2,4,5,6]<|zR 3 14,(xy qh<|b_n<|t_n<|xX ?_)⟩
  refine sw<|zS k 1 rfl rfl qf<|sq 1<|xU<|xu (m':=(((appls s t).length)-((k+1):Int)).toNat) qf ⟨_,k+1,_,_,_,_,((appls s t)[k]!).toNat+1,uE6,?_,?_,?_,?_,?_,rfl,(N.pick []),H.pick (zR 2 5) (0::zR 12 5)⟩
  ·exact firstR_step a1 a2 a3 a4 ex
  ·exact firstTo_set a1 a2 a4<|firstC_step a1 a3 a4
  ·omega
  ·exact a5
  ·exact a2
 refine zx4<|zcr<|sq 2<|zjr<|rH1 (Sv (aa b5 0) s.qB.length s.qB.length) H ?_
 rw[firstTo_end hn<|appls_end hm hn qf] at H
 exact⟨(aa b5 0),s.qB.length,s.qB.length,rfl,N,H.pick [2] []⟩
theorem around_ok(w:World)(s:qO)(xh:zP w xY qU qR s.qA)(xI:zP w zX xC xx s.qB):Calls Tryz.prog 83 #[.agg #[yI s.qN,Sv qU s.qA.length qR,Sv xC s.qB.length xx]] w (Ret (fun v w'=>v=yI s.qA.length) w):=by
 refine en func83 ntmps83 ?_
 have H:=((St.start w).arg xI).arg xh
 clear xh xI
 refine zcr<|sw<|jq H (yS s qU qR xC xx) fun b1 w2 H=>sp (yI 0)<|zjc<|oF rfl<|oL rfl (H.cell 0 rfl rfl)<|oN rfl<|sq 1<|zjr<|rH1 (yI s.qA.length) H ?_
 rfl
end
section
class CntTot(α:Type)[Mark α][Tot α]:Prop where
 le:∀x:α,dN x<=10+10*tot x
instance:CntTot Int:=⟨fun _=>by show 1<=_;omega⟩
instance:CntTot Bool:=⟨fun _=>by show 1<=_;omega⟩
section
variable{α : Type}[Mark α][Tot α][Inhabited α][CntTot α]
theorem cntTo_tot(l:List α):∀k,cntTo l k<=10*k+10*totTo l k
 |0=>Nat.zero_le _
 |k+1=>by
  have h1:=cntTo_tot l k
  have h2:=CntTot.le<|l[k]!
  rw[cntTo_succ,totTo_succ]
  omega
theorem cntL_tot(l:List α):dN l<=10*tot l:=by
 have:=cntTo_tot l l.length
 rw[cnt_list,tot_list]
 omega
instance:CntTot (List α):=⟨fun l=>by have:=cntL_tot l;omega⟩
end
instance:CntTot IntoD:=⟨fun x=>by
 have h1:=cntL_tot x.Xa
 have h2:=tot_IntoD x
 have h3:=cnt_IntoD x
 omega⟩
instance:CntTot yu:=⟨fun x=>by
 have h1:=cntL_tot x.zU
 have h2:=cntL_tot x.jJ
 have h3:=cntL_tot x.jK
 have h4:=cntL_tot x.jF
 have h5:=cntL_tot x.QL
 have h6:=cntL_tot x.xw
 have h7:=tot_RuleD x
 have h8:=cnt_RuleD x
 omega⟩
theorem anyTo_mem:anyTo (fun k=>x == l[k]!) l.length=dec (x∈l):=by
 refine dec_eq ?_
 rw[anyTo_iff]
 constructor
 ·rintro⟨k,h,h1⟩
  rw[beq_iff_eq,getElem!_pos l k h] at h1
  rw[h1];exact List.getElem_mem h
 ·intro h
  obtain⟨k,hk,e⟩:=List.mem_iff_getElem.1 h
  exact⟨k,hk,by rw[beq_iff_eq,getElem!_pos l k hk,e]⟩
def minTo(l:yLI):Nat->Int
 |0=>l[0]!
 |k+1=>if k=0 then l[0]! else min (minTo l k) (l[k]!)
theorem minTo_one(l:yLI):minTo l 1=l[0]! :=rfl
theorem minTo_succ(h:1<=k):minTo l (k+1)=min (minTo l k) (l[k]!):=by rw[minTo,if_neg qf]
def minL(l:yLI):Int:=minTo l l.length
theorem minTo_neg{l:yLI}:∀ {k:Nat},1<=k->(minTo l k<0<->∃j,j<k/\l[j]!<0)
 |1,_=>by
  rw[minTo_one]
  constructor
  ·intro h;exact⟨0,by omega,h⟩
  ·rintro⟨j,h,h1⟩;obtain rfl:j=0:=by omega
   exact h1
 |k+2,_=>by
  have ih:=minTo_neg (l:=l) (k:=k+1) qf
  rw[minTo_succ qf]
  constructor
  ·intro h
   by_cases h1:minTo l (k+1)<0
   ·obtain⟨j,h2,h3⟩:=ih.1 h1;exact⟨j,by omega,h3⟩
   ·exact⟨k+1,by omega,by omega⟩
  ·rintro⟨j,h,h1⟩
   by_cases e:j=k+1
   ·subst e;omega
   ·have:=ih.2 ⟨j,by omega,h1⟩;omega
theorem minL_neg(h:1<=l.length):minL l<0<->¬ ∀k,k<l.length->0<=l[k]! :=by
 unfold minL
 rw[minTo_neg h]
 constructor
 ·rintro⟨j,h1,h2⟩ h3;have:=h3 j h1;omega
 ·intro h1
  apply Classical.byContradiction
  intro h2
  refine h1 fun k hk=>?_
  have:¬l[k]!<0:=fun h3=>h2 ⟨k,hk,h3⟩
  omega
def single(s:qO)(i:Nat):yLI:=(List.replicate s.qB.length (0:Int)).set i 1
end
section
variable{cl : Nat}
theorem indexI_ok(w:World)(l:yLI)(x:Int)(hl:zP w Fl al cl l):Calls Tryz.prog 173 #[Sv al l.length cl,yI x] w (Ret (fun v w'=>v=yI (firstIdx (fun k=>x == l[k]!) l.length)) w):=by
 refine en func173 ntmps173 ?_
 have H:=(St.start w).arg hl
 have C5:=qM hl
 clear hl
 have N:=Fresh.nil w.heap.size
 refine zcr<|sp (yI 0)<|zjcc<|sq 1<|oN rfl<|sp (yI 0)<|zjn<|xe<|zT ((fun Z0=>fun m' ρ w1=>∃(xP:Env) (i:Nat),ρ=upd (upd (upd (upd xP 0<|Sv al l.length cl) 1<|yI x) 7<|yI l.length) 8 (yI i)/\((i:Int)<=l.length)/\(noneTo (fun k=>x == l[k]!) i)/\m'=(l.length-(i:Int)).toNat/\Fresh w.heap.size []/\St w w1 [] [Z0]) _) ((l.length-(0:Int)).toNat) ⟨_,0,uE4,qf,qx,rfl,N,H⟩ ?_
 clear H N
 rintro m' ρ w2 ⟨xP,i,rfl,i0,i1,rfl,N,H⟩
 refine zcr<|sq 1<|zjn<|xM<|cD rfl (fun h3=>?_)<|fun h3=>?_
 ·refine qW (t_n<|xM<|xe<|zcr<|sp (yI i)<|sp (yI i)<|zjc<|sp (yI x)<|sq 1<|sp (yI i) ?_)
  obtain⟨b4,o5,rfl⟩:=H.addr 0 rfl qf
  refine oI rfl rfl<|oL rfl (H.vG 0 rfl i qf)<|sq 1<|zjn<|cE rfl (fun h7=>?_)<|fun h7=>?_
  ·refine zcr (sp (yI i)<|sp (yI i)<|zjr<|zr5<|rH1 (yI i) H ?_)
   rw[firstIdx_some (k:=i) qf i1<|by simpa using ‹x=l[i]!›]
  refine qW<|b_n<|t_n<|xX<|sw<|zS i 1 rfl rfl qf<|sq 1<|xU<|xu (m':=(l.length-((i+1):Int)).toNat) qf ⟨_,i+1,uE4,?_,?_,rfl,N,H⟩
  ·omega
  ·exact noneTo_succ ‹_› (by simpa using ‹x≠l[i]!›)
 refine zx4<|zcr<|sq 1<|zjr<|rH1 (yI (-1)) H ?_
 rw[firstIdx_none<|fun j hj=>i1 j qf]
theorem containsI_ok(w:World)(l:yLI)(x:Int)(hl:zP w Fl al cl l):Calls Tryz.prog 159 #[Sv al l.length cl,yI x] w (Ret (fun v w'=>v=Bv (dec ((x:Int)∈l))) w):=by
 refine en func159 ntmps159 ?_
 have H:=(St.start w).arg hl
 clear hl
 refine zcr<|sp (Bv false)<|zjc<|sq 1<|sp (yI x)<|sw<|oq (indexI_ok _ l x (H.get 0 rfl).1) H fun w2 H=>sp (Bv<|decide ((firstIdx (fun k=>x == l[k]!) l.length:Int)>=0))<|sp (Bv<|decide ((firstIdx (fun k=>x == l[k]!) l.length:Int)>=0))<|zjr<|rH1 (Bv<|decide ((firstIdx (fun k=>x == l[k]!) l.length:Int)>=0)) H ?_
 rw[anyTo_first,anyTo_mem]
theorem minI_ok(w:World)(l:yLI)(hl:zP w Fl al cl l)(p0:1<=l.length):Calls Tryz.prog 54 #[Sv al l.length cl] w (Ret (fun v w'=>v=yI (minL l)) w):=by
 refine en func54 ntmps54 ?_
 have H:=(St.start w).arg hl
 have C5:=qM hl
 clear hl
 have N:=Fresh.nil w.heap.size
 refine zcr<|sp (yI 0)<|zjcc<|sq 1<|oN rfl<|sp (Bv<|decide ((l.length:Int)<1))<|zjn<|cD rfl (fun h1=>?_)<|fun h1=>?_
 ·exfalso;omega
 refine qW<|t_n<|zcr<|sq 1 ?_
 obtain⟨b2,o3,rfl⟩:=H.addr 0 rfl qf
 refine oI rfl rfl<|oL rfl (H.vG 0 rfl 0 qf)<|sq 1<|zjcc<|sp (yI 1)<|zjn<|xe<|zT ((fun Z0=>fun m' ρ w5=>∃(xP:Env) (m:Int) (i:Nat),ρ=upd (upd (upd xP 0<|Sv (aa b2 o3) l.length cl) 3<|yI m) 4 (yI i)/\m=minTo l i/\((i:Int)<=l.length)/\(1<=i)/\m'=(l.length-(i:Int)).toNat/\Fresh w.heap.size []/\St w w5 [] [Z0]) _) ((l.length-(1:Int)).toNat) ⟨_,l[0]!,1,uE3,(by exact(minTo_one l).symm),qf,qf,rfl,N,H⟩ ?_
 clear H N
 rintro m' ρ w6 ⟨xP,m,i,rfl,rfl,i0,i2,rfl,N,H⟩
 refine zcc<|sp (yI i)<|sq 1<|oN rfl<|sq 1<|zjn<|cD rfl (fun h7=>?_)<|fun h7=>?_
 ·refine qW (t_n<|xM<|xe<|xX<|sq 2<|sp (yI i)<|oI rfl rfl<|oL rfl (H.vG 0 rfl i qf)<|sw<|o_min (minTo l i) (l[i]!) rfl rfl<|sq 1<|xU<|b_n<|t_n<|xX<|sp (yI i)<|sw<|zS i 1 rfl rfl qf<|sq 1<|xU<|xu (m':=(l.length-((i+1):Int)).toNat) qf ⟨_,_,i+1,uE3,?_,?_,?_,rfl,N,H⟩)
  ·exact(minTo_succ qf).symm
  ·omega
  ·omega
 refine zx4<|zcr<|sq 2<|zjr<|rH1 (yI<|minTo l i) H ?_
 obtain rfl:i=l.length:=by omega
 rfl
end
section
def StillTo(s:qO)(k:Nat):Prop:=∀i,i<k->(s.qB[i]!).jw=false
theorem StillTo.succ(h:StillTo s k)(h1:(s.qB[k]!).jw=false):StillTo s (k+1):=fun j hj=>by
 by_cases e:j=k
 ·subst e;exact h1
 ·exact h j qf
abbrev Still(s:qO):Prop:=StillTo s s.qB.length
def WholeTo(t:xn)(k:Nat):Prop:=∀c,c<k->t.xF[c]! =true
theorem WholeTo.succ(h:WholeTo t k)(h1:t.xF[k]! =true):WholeTo t (k+1):=fun j hj=>by
 by_cases e:j=k
 ·subst e;exact h1
 ·exact h j qf
abbrev Whole(t:xn):Prop:=WholeTo t t.xF.length
theorem whole_any:anyTo (fun k=>false == t.xF[k]!) t.xF.length=dec (¬Whole t):=by
 refine dec_eq ?_
 rw[anyTo_iff]
 constructor
 ·rintro⟨k,hk,h⟩ hw
  rw[hw k hk] at h;cases h
 ·intro h
  apply Classical.byContradiction
  intro hn
  refine h fun c hc=>?_
  cases hx:t.xF[c]! with
  |true=>rfl
  |false=>exact absurd ⟨c,hc,by rw[hx];rfl⟩ hn
theorem whole_parent(hw:Whole t)(hs:jZ s)(hl:t.xF.length=s.qA.length){c:Int}(h0:0<c)(h1:c<=(s.qA.length:Int)-1):zO s t c=s.qA[c.toNat]! :=by
 have hu:=hs.up h0 h1
 unfold zO
 refine climb_end fun h=>?_
 have:=hw (s.qA[c.toNat]!).toNat qf
 rw[this] at h;cases h.2
def XV(s:qO)(t:xn)(counts:yLI)(cell:Int):Nat->Nat->Nat->Int
 |0,_,_=>0
 |i+1,p,q=>XV s t counts cell i p q+if (s.qB[i]!).qZ=cell then putF s t (s.qB[i]!) (counts[i]!) p q else 0
theorem puts_yes{counts:yLI}{cell:Int}(h:(s.qB[i]!).qZ=cell)(p q:Nat):XV s t counts cell (i+1) p q=XV s t counts cell i p q+putF s t (s.qB[i]!) (counts[i]!) p q:=by rw[XV,if_pos h]
theorem puts_no{counts:yLI}{cell:Int}(h:(s.qB[i]!).qZ≠cell)(p q:Nat):XV s t counts cell (i+1) p q=XV s t counts cell i p q:=by rw[XV,if_neg h];omega
theorem puts_zero{counts:yLI}{cell:Int}(h:counts[i]! =0)(p q:Nat):XV s t counts cell (i+1) p q=XV s t counts cell i p q:=by
 rw[XV]
 split
 ·rw[putF_zero s t _ h];omega
 ·omega
def jG(s:qO)(k:Nat):yLL:=List.replicate k<|List.replicate s.qN.toNat 0
theorem zeros_snoc(s:qO)(k:Nat):jG s k++[List.replicate s.qN.toNat 0]=jG s (k+1):=by
 unfold jG;rw[←List.replicate_succ']
theorem zeros_len(s:qO)(k:Nat):(jG s k).length=k:=by simp[jG]
theorem zeros_ent(hB:0<=B):Ent n (jb s) (fun _ _=>0) B (jG s n):=by
 have hr:∀p,p<n->(jG s n)[p]! =List.replicate s.qN.toNat 0:=fun p hp=>by
  rw[getElem!_pos (jG s n) p<|by rw[zeros_len];exact hp];simp[jG]
 have hz:∀k,k<jb s->(List.replicate s.qN.toNat (0:Int))[k]! =0:=fun k hk=>by
  rw[getElem!_pos (List.replicate s.qN.toNat (0:Int)) k<|by simpa [jb] using hk];simp
 refine⟨⟨zeros_len _ _,fun p hp=>?_⟩,fun p k hp hk=>?_⟩
 ·rw[hr p hp]
  refine⟨by simp[jb],fun k hk=>?_⟩
  rw[hz k hk];omega
 ·rw[hr p hp,hz k hk]
def TookOk(s:qO)(l:yLI)(i:Nat):Prop:=l.length=jb s/\∀q,q<jb s-> -(1000000*(i:Int))<=l[q]! /\l[q]! <=1000000*(i:Int)
theorem TookOk.zero(s:qO):TookOk s (List.replicate s.qN.toNat 0) 0:=by
 refine⟨by simp[jb],fun k hk=>?_⟩
 rw[getElem!_pos (List.replicate s.qN.toNat (0:Int)) k<|by simpa [jb] using hk];simp
theorem TookOk.keep(h:TookOk s l i):TookOk s l (i+1):=⟨h.1,fun q hq=>by have:=h.2 q hq;omega⟩
theorem TookOk.plus{n:Int}(h:TookOk s l i)(hm:vW s.qN m)(hn: -1000<=n/\n<=1000):TookOk s (jc l m n) (i+1):=by
 refine⟨by rw[Qy];exact h.1,fun q hq=>?_⟩
 rw[plus_get<|by rw[h.1];exact hq]
 have:=h.2 q hq
 have:=hm.mul hn q hq
 omega
theorem TookOk.mid(h:TookOk s l i)(hi:i<=16)(hk:jb s<=8):l.length=jb s/\Mid l:=by
 refine⟨h.1,by have:=h.1;omega,fun q hq=>?_⟩
 have:=h.2 q (by have:=h.1;omega)
 omega
def yF(b:yLL)(k:Nat):Prop:=∀j,j<k->VM (b[j]!)
theorem yF.succ(h:yF b k)(h1:VM (b[k]!)):yF b (k+1):=fun j hj=>by
 by_cases e:j=k
 ·subst e;exact h1
 ·exact h j qf
theorem bagAny_ok:vW (l.length:Int) l<->VM l:=⟨fun h=>h.1,fun h=>⟨h,rfl⟩⟩
def yc(s:qO)(t:xn)(counts:yLI)(cell:Int):yLL:=tab2 (zM s+1) (jb s)<|XV s t counts cell s.qB.length
theorem needS_nonpos{s:qO}{counts:yLI}(hs:Qr s)(hc:CntOk s counts)(p q:Nat)(hq:q<jb s):∀k,k<=s.qB.length->needS s counts k p q<=0
 |0,_=>by simp[needS]
 |k+1,h=>by
  have ih:=needS_nonpos hs hc p q hq k qf
  have hb:=hc.bd (i:=k) qf
  have hn:=(hs.rule (i:=k) qf).2.2.2.2.1
  have hg:=hn.get (k:=q)<|by rw[hn.len];exact hq
  rw[needS]
  have:needF s counts k p q<=0:=by
   unfold needF at'
   split
   ·have:=Int.mul_nonneg hb.1 hg.1
    rw[Int.neg_mul];omega
   ·exact Int.le_refl _
  omega
theorem mul_bd{c m M:Int}(hc:0<=c/\c<=M)(hm:0<=m/\m<=D):0<=c*m/\c*m<=M*D:=by
 refine⟨Int.mul_nonneg hc.1 hm.1,?_⟩
 have h1:=Int.mul_le_mul_of_nonneg_left hm.2 hc.1
 have h2:=Int.mul_le_mul_of_nonneg_right hc.2<|show 0<=D by omega
 omega
end
end Go.Proofs.YtghikkinnchndaaGreat
