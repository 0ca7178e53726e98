/- Walks and laws, printed by program and by hand: what each function comes to, for all arguments, part 2. -/
import Derived.Test.YtdhklgjmiamiaaaGreatA1
namespace Go.Proofs.YtdhklgjmiamiaaaGreat
open Go.Proofs.Tryz
set_option linter.unusedVariables false
set_option linter.unusedSimpArgs false
set_option maxRecDepth 100000
set_option maxHeartbeats 4000000
open Go.RowKit
open Go.Proofs.Tryz
open Go.Proofs.YtdhklgjmiamiaaaGreat.Tot (tot)
open Go.Proofs.YtdhklgjmiamiaaaGreat.Mark (cnt mrk mkd mkd_mark cnt_mark)
variable {B D dc z:Int} {F Fb Fl Fm ax eA eG eW eL e8 j6 vF xW xk zD zh:yLN} {G P b b' ae rs:yLL} {K Qm Xb Xc Xd Xe br c cb cl bN f i j k n or p x zK:Nat} {L Ns:List yLN} {Qy Xf Xg Xh Xi ab al am bP qG qO qZ xI xg zO:yOA} {W0 w:World} {a aG l m ai v:yLI} {all:List yLL} {fr:Bool} {ps:List Prv} {r:vS} {s:qC} {t u:qH} {xs:List Value} {Γ Γ':List Fact} {ρ:Env}
section
variable {bs os qE qN bt ot xf xG qY : Nat}
theorem l01Bag_ok (w:World) (l:yLI) (hl:zP w Fl al cl l):Calls Tryz.prog 182 #[Sv al l.length cl] w (Ret (fun v w' =>v=Bv (dec (XA l))) w):=by
 refine en func182 ntmps182 ?_
 have H:=(St.start w).arg hl
 have Aa:=qM hl
 clear hl
 refine zcr (sp (Bv false) (zjcc (sp (yI 0) (zjn (qR (zl ((fun Z0=>fun m' ρ w1=>∃ (xE:Env) (k:Nat),ρ=upd (upd xE 0 (Sv al l.length cl)) 3 (yI k)/\(k<=l.length)/\(Counts l k)/\m' =l.length - k/\St w w1 [] [Z0]) _) (l.length - 0) ⟨_,0,uE2,qf,(by exact Counts.zero l),rfl,H⟩ ?_))))))
 clear H
 rintro m' ρ w2 ⟨xE,k,rfl,i0,i1,rfl,H⟩
 refine zcc (sp (yI k) (sq 1 (oN rfl (sq 1 (zjn (cD rfl (fun h3=>?_) (fun h3=>?_)))))))
 ·refine qV (t_n (xQ (qR (zcr (sq 1 (sp (yI k) ?_))))))
  obtain ⟨b4,o5,rfl⟩:=H.addr 0 rfl qf
  refine oI rfl rfl (oL rfl (H.zA 0 rfl k qf) (sw (oq (l00In_ok w2 (l[k]!) 0 1000) H fun w6 H=>sq 1 (zjn (zT _ rfl (fun h8=>?_) (fun h8=>?_))))))
  ·replace h8:=xB h8
   replace h8:=XD h8
   refine zcr (sp (Bv false) (zjr (zr5 (rH1 (Bv false) H ?_))))
   rw [xh (fun h=>‹¬ (0<=l[k]! /\l[k]! <=1000)› (h.1 k qf))]
  replace h8:=xn h8
  replace h8:=QV.1 h8
  refine qV (b_n (t_n (xJ (sp (yI k) (sw (zn k 1 rfl rfl qf (sq 1 (xO (qX (m' :=l.length - (k+1)) qf ⟨_,k+1,uE2,?_,?_,rfl,H⟩)))))))))
  ·omega
  ·exact i1.succ ‹_›
 refine zx4 (zcr (sq 1 (oN rfl (sw (oq (l00In_ok w2 l.length 1 8) H fun w9 H=>sq 1 (zjr (rH1 (Bv (inR l.length 1 8)) H ?_)))))))
 obtain rfl:k=l.length:=by omega
 refine congrArg Value.bool (dec_eq ?_)
 rw [QV]
 exact ⟨fun h=>⟨i1,by omega,by omega⟩,fun h=>by have:=h.2;omega⟩
theorem QY (w:World) (s:qC) (b:yLI) (hs:vY w bs os (yS s qG qE qO qN)) (qP:zP w xk qG qE s.qA) (xm:zP w xW qO qN s.qB) (hb:zP w Fb ab cb b):Calls Tryz.prog 137 #[pp bs os,Sv ab b.length cb] w (Ret (fun v w' =>v=Bv (dec (vZ s.xK b))) w):=by
 refine en func137 ntmps137 ?_
 have H:=((((St.start w).arg hb).arg xm).arg qP).Xr hs
 clear hs qP xm hb
 refine zcr (sp (Bv false) (zjc (sq 1 (sw (oq (l01Bag_ok _ b (H.get 3 rfl).1) H fun w1 H=>sp (Bv (dec (XA b))) ?_)))))
 cases h3:(dec (XA b))
 ·replace h3:=zM h3
  refine xR (zR 8 7) (sp (Bv false) (sp (Bv false) (zjr (rH1 (Bv false) H ?_))))
  rw [xh (fun h=>‹¬ XA b› h.1)]
 replace h3:=yG h3
 refine qJ 7 rfl rfl (sq 1 (qJ 7 rfl rfl (oN rfl (qJ 7 rfl rfl (sq 1 (qJ 7 rfl rfl (sq 1 (qJ 7 rfl rfl (oF rfl (qJ 7 rfl rfl (oL rfl (H.xP 0 rfl 0 rfl) (qJ 7 rfl rfl (sq 3 (zjr (rH1 (Bv ((b.length:Int) == s.xK)) H (congrArg Value.bool (dec_eq ?_)))))))))))))))))
 rw [beq_iff_eq]
 exact ⟨fun h=>⟨‹_›,h⟩,fun h=>h.2⟩
theorem l02Frame_ok (w:World) (s:qC) (hs:vY w bs os (yS s qG qE qO qN)) (qP:zP w xk qG qE s.qA) (xm:zP w xW qO qN s.qB):Calls Tryz.prog 135 #[pp bs os] w (Ret (fun v w' =>v=Bv (dec (jk s))) w):=by
 refine en func135 ntmps135 ?_
 have H:=(((St.start w).arg xm).arg qP).Xr hs
 have zB:=qM qP
 clear hs qP xm
 refine zcr (sp (Bv false) (zjcc (sq 2 (oF rfl (oL rfl (H.xP 0 rfl 0 rfl) (sw (oq (l00In_ok w s.xK 1 8) H fun w1 H=>sp (Bv (!(inR s.xK 1 8))) (sp (Bv (!(inR s.xK 1 8))) ?_))))))))
 cases h3:(!(inR s.xK 1 8))
 ·replace h3:=xn h3
  replace h3:=QV.1 h3
  refine qJ 10 rfl rfl (sq 1 (qJ 10 rfl rfl (sq 1 (qJ 10 rfl rfl (oF rfl (qJ 10 rfl rfl (oL rfl (H.xP 0 rfl 1 rfl) (qJ 10 rfl rfl (oN rfl (qJ 10 rfl rfl (sw (oq (l00In_ok w1 s.qA.length 1 6) H fun w4 H=>qJ 10 rfl rfl (sp (Bv (!(inR s.qA.length 1 6))) (sp (Bv (!(inR s.qA.length 1 6))) (sp (Bv (!(inR s.qA.length 1 6))) ?_)))))))))))))))
  cases h6:(!(inR s.qA.length 1 6))
  ·replace h6:=xn h6
   replace h6:=QV.1 h6
   refine qJ 19 rfl rfl (sq 1 (qJ 19 rfl rfl (sq 1 (qJ 19 rfl rfl (oF rfl (qJ 19 rfl rfl (oL rfl (H.xP 0 rfl 1 rfl) (qJ 19 rfl rfl ?_))))))))
   obtain ⟨b7,o8,rfl⟩:=H.addr 1 rfl qf
   refine oI rfl rfl (qJ 19 rfl rfl (oL rfl (H.zA 1 rfl 0 qf) (qJ 19 rfl rfl (sp (Bv ((s.qA[0]! :Int) != (-1))) (sp (Bv ((s.qA[0]! :Int) != (-1))) (zjn (zT ((s.qA[0]! :Int) != (-1)) rfl (fun h9=>?_) (fun h9=>?_))))))))
   ·replace h9:=bne_iff_ne.1 h9
    refine zcr (sp (Bv false) (zjr (t_r (rH1 (Bv false) H ?_))))
    rw [xh (fun h=>by obtain ⟨h1,h2,h3,h4⟩:=h;omega)]
   replace h9:=xx h9
   refine qV (t_n (zcc (sp (yI 1) (zjn (qR (zl ((fun Z0 Z1 Z2=>fun m' ρ nq=>∃ (xE:Env) (k:Nat),ρ=upd (upd xE 0 (pp bs os)) 3 (yI k)/\(k<=s.qA.length)/\(1<=k)/\(FrameTo s k)/\m' =s.qA.length - k/\St w nq [] [Z0,Z1,Z2]) _ _ _) (s.qA.length - 1) ⟨_,1,uE2,qf,qf,(by exact FrameTo.one s),rfl,H⟩ ?_))))))
   clear H
   rintro m' ρ nr ⟨xE,k,rfl,i0,i2,i1,rfl,H⟩
   refine zcc (sp (yI k) (sq 2 (oF rfl (oL rfl (H.xP 0 rfl 1 rfl) (oN rfl (sq 1 (zjn (cD rfl (fun db=>?_) (fun db=>?_)))))))))
   ·refine qV (t_n (xQ (qR (zcr (sq 2 (oF rfl (oL rfl (H.xP 0 rfl 1 rfl) (sp (yI k) (oI rfl rfl (oL rfl (H.zA 1 rfl k qf) (sp (yI k) (sw (o_sub k 1 rfl rfl qf (sw (oq (l00In_ok nr (s.qA[k]!) 0 (k - 1)) H fun xV H=>sq 1 (zjn (zT _ rfl (fun kL=>?_) (fun kL=>?_))))))))))))))))))
    ·replace kL:=xB kL
     replace kL:=XD kL
     refine zcr (sp (Bv false) (zjr (zr5 (rH1 (Bv false) H ?_))))
     rw [xh (fun h=>by obtain ⟨h1,h2,h3,h4⟩:=h;(have:=h4 k qf qf;omega))]
    replace kL:=xn kL
    replace kL:=QV.1 kL
    refine qV (b_n (t_n (xJ (sp (yI k) (sw (zn k 1 rfl rfl qf (sq 1 (xO (qX (m' :=s.qA.length - (k+1)) qf ⟨_,k+1,uE2,?_,?_,?_,rfl,H⟩)))))))))
    ·omega
    ·omega
    ·exact i1.succ ‹_›
   refine zx4 (zcr (sp (Bv true) (zjr (rH1 (Bv true) H ?_))))
   obtain rfl:k=s.qA.length:=by omega
   rw [jH ⟨by omega,by omega,by omega,i1⟩]
  replace h6:=xB h6
  replace h6:=XD h6
  refine xR (zR 20 7) (sp (Bv true) (zjn (cTr rfl (zcr (sp (Bv false) (zjr (t_r (rH1 (Bv false) H ?_))))))))
  rw [xh (fun h=>by obtain ⟨h1,h2,h3,h4⟩:=h;omega)]
 replace h3:=xB h3
 replace h3:=XD h3
 refine xR (zR 11 7) (sp (Bv true) (sp (Bv true) (xR (zR 20 7) (sp (Bv true) (zjn (cTr rfl (zcr (sp (Bv false) (zjr (t_r (rH1 (Bv false) H ?_)))))))))))
 rw [xh (fun h=>by obtain ⟨h1,h2,h3,h4⟩:=h;omega)]
theorem l02In_ok (w:World) (s:qC) (c:Int) (vn:Int) (hs:vY w bs os (yS s qG qE qO qN)) (qP:zP w xk qG qE s.qA) (xm:zP w xW qO qN s.qB) (p0:jk s) (p1:QU s c):Calls Tryz.prog 181 #[pp bs os,yI c,yI vn] w (Ret (fun v w' =>v=Bv (dec (Lies s.qA vn c))) w):=by
 refine en func181 ntmps181 ?_
 have H:=(((St.start w).arg xm).arg qP).Xr hs
 have zB:=qM qP
 clear hs qP xm
 refine zcr (sp (Bv false) (zjn (xQ (qR (zl ((fun Z0 Z1 Z2=>fun m' ρ w1=>∃ (xE:Env) (y:Int),ρ=upd (upd (upd xE 0 (pp bs os)) 1 (yI y)) 2 (yI vn)/\(0<=y/\y<=(s.qA.length:Int) - 1)/\(Lies s.qA vn c<->Lies s.qA vn y)/\m' =y.toNat/\St w w1 [] [Z0,Z1,Z2]) _ _ _) (c.toNat) ⟨_,c,uE3,(by exact p1),(by exact Iff.rfl),rfl,H⟩ ?_)))))
 clear H
 rintro m' ρ w2 ⟨xE,y,rfl,i0,i1,rfl,H⟩
 have up:=fun h=>p0.up (c:=y) h i0.2
 refine zcc (sp (yI y) (sp (Bv (decide ((y:Int) > 0))) (zjn (cD rfl (fun h3=>?_) (fun h3=>?_)))))
 ·refine qV (t_n (qR (zcr (sq 2 (oF rfl (oL rfl (H.xP 0 rfl 1 rfl) (sp (yI y) ?_)))))))
  obtain ⟨b4,o5,rfl⟩:=H.addr 1 rfl qf
  refine oI rfl rfl (oL rfl (H.elemInt 1 rfl y qf qf) (sq 1 (zjc (sq 3 (zjn (cE rfl (fun h6=>?_) (fun h6=>?_)))))))
  ·refine zcr (sp (Bv true) (zjr (b_r (t_r (b_r (t_r (rH1 (Bv true) H ?_)))))))
   rw [jH (i1.2 (.here qf ‹_›))]
  refine qV (b_n ?_)
  have YY:=up qf
  refine qX (m' :=(s.qA[y.toNat]!).toNat) qf ⟨_,(s.qA[y.toNat]!),uE3,?_,?_,rfl,H⟩
  ·have:=up qf;omega
  ·exact i1.trans (lies_iff.trans ⟨fun h=>h.2.resolve_left ‹_›,fun h=>⟨by omega,.inr h⟩⟩)
 refine zx4 (zcr (sp (Bv false) (zjr (rH1 (Bv false) H ?_))))
 rw [xh (fun h=>by have:=(lies_iff.1 (i1.1 h)).1;omega)]
theorem l02Rule_ok (w:World) (s:qC) (r:vS) (hs:vY w bs os (yS s qG qE qO qN)) (qP:zP w xk qG qE s.qA) (xm:zP w xW qO qN s.qB) (hr:vY w br or [yI r.qI,yI r.jG,Sv Xf r.zk.length Xb,Sv Xi r.vk.length Xe,Sv Xg r.vw.length Xc,Sv Xh r.zS.length Xd,Sv bP r.jX.length bN,Sv Qy r.xe.length Qm,Bv r.vg]) (XM:zP w e8 Xf Xb r.zk) (XQ:zP w eA Xi Xe r.vk) (XN:zP w eL Xg Xc r.vw) (XP:zP w eG Xh Xd r.zS) (dJ:zP w j6 bP bN r.jX) (XO:zP w eW Qy Qm r.xe) (p0:jk s):Calls Tryz.prog 136 #[pp bs os,pp br or] w (Ret (fun v w' =>v=Bv (dec (RuleOk s r))) w):=by
 refine en func136 ntmps136 ?_
 have H:=((((((((((St.start w).arg XO).arg dJ).arg XP).arg XN).arg XQ).arg XM).Xr hr).arg xm).arg qP).Xr hs
 have zB:=qM qP
 have mz:=qM XO
 clear hs qP xm hr XM XQ XN XP dJ XO
 refine zcr (sp (Bv false) (zjn (xQ (xQ (jE rfl H fun H=>rtl 0 H ?_)))))
 refine rtl 1 H ?_
 refine tF 2 rfl rfl H ?_
 refine tL 3 rfl rfl (fun _ h=>h.xP 3 rfl 0 rfl) H ?_
 refine rtl 4 H ?_
 refine rtl 5 H ?_
 refine tF 6 rfl rfl H ?_
 refine tL 7 rfl rfl (fun _ h=>h.xP 0 rfl 1 rfl) H ?_
 refine tN 8 rfl rfl H ?_
 refine rt 9 _ (y_sub s.qA.length 1 rfl rfl qf) H ?_
 refine ro 10 rfl (oq (l00In_ok w.drew r.qI 0 (s.qA.length - 1)) H fun w2 H=>⟨H,(rtp 11 (Bv (!(inR r.qI 0 (s.qA.length - 1)))) H ?_)⟩)
 refine rtp 12 (Bv (!(inR r.qI 0 (s.qA.length - 1)))) H ?_
 cases h4:(!(inR r.qI 0 (s.qA.length - 1)))
 ·replace h4:=xn h4
  replace h4:=QV.1 h4
  refine rgl 13 19 H ?_
  refine rgl 14 19 H ?_
  refine gF 15 rfl rfl H ?_
  refine gL 16 rfl rfl (fun _ h=>h.xP 3 rfl 1 rfl) H ?_
  refine vK [17] qh qm (VN rfl (e:=19) rfl rfl (oq (l00In_ok w2 r.jG 0 9) H fun w5 H=>⟨H,(rgp 18 (Bv (!(inR r.jG 0 9))) 19 H ?_)⟩) vM)
  refine rtp 19 (Bv (!(inR r.jG 0 9))) H ?_
  refine rtp 20 (Bv (!(inR r.jG 0 9))) H ?_
  cases h7:(!(inR r.jG 0 9))
  ·replace h7:=xn h7
   replace h7:=QV.1 h7
   refine rgl 21 27 H ?_
   refine rgl 22 27 H ?_
   refine gF 23 rfl rfl H ?_
   refine gL 24 rfl rfl (fun _ h=>h.xP 3 rfl 8 rfl) H ?_
   refine rgp 25 (Bv r.vg) 27 H ?_
   cases h8:(r.vg)
   ·rw [h8] at H
    refine vG (zR 26 5) 5 (H) (rgp 31 (Bv false) 27 H ?_)
    refine rtp 32 (Bv false) H ?_
    refine rtp 33 (Bv false) H ?_
    refine rgl 34 40 H ?_
    refine rgl 35 40 H ?_
    refine gF 36 rfl rfl H ?_
    refine gL 37 rfl rfl (fun _ h=>h.xP 3 rfl 7 rfl) H ?_
    refine gN 38 rfl rfl H ?_
    refine rgp 39 (Bv (decide ((r.xe.length:Int) > 3))) 40 H ?_
    refine rtp 40 (Bv (decide ((r.xe.length:Int) > 3))) H ?_
    refine xw qh (t_n (cD rfl (fun h9=>?_) (fun h9=>?_)))
    ·refine zcr (sp (Bv false) (zjr (t_r (rH1 (Bv false) H ?_))))
     rw [xh (fun h=>by obtain ⟨h1,h2,h3,h4,h5,h6,h7,h8,h9,aZ,aU⟩:=h;omega)]
    refine qV (t_n (zcc (sq 3 (oF rfl (oL rfl (H.xP 3 rfl 2 rfl) (sw (oq (QY _ s r.zk (qF (H.get 0 rfl) 0 3) (H.get 1 rfl).1 (H.get 2 rfl).1 (H.get 4 rfl).1) H fun nq H=>sp (Bv (!(dec (vZ s.xK r.zk)))) (sp (Bv (!(dec (vZ s.xK r.zk)))) ?_))))))))
    cases db:(!(dec (vZ s.xK r.zk)))
    ·replace db:=xn db
     replace db:=yG db
     refine qJ 55 rfl rfl (sq 1 (qJ 55 rfl rfl (sq 1 (qJ 55 rfl rfl (sq 1 (qJ 55 rfl rfl (oF rfl (qJ 55 rfl rfl (oL rfl (H.xP 3 rfl 3 rfl) (qJ 55 rfl rfl (sw (oq (QY _ s r.vk (qF (H.get 0 rfl) 0 3) (H.get 1 rfl).1 (H.get 2 rfl).1 (H.get 5 rfl).1) H fun xV H=>qJ 55 rfl rfl (sp (Bv (!(dec (vZ s.xK r.vk)))) (sp (Bv (!(dec (vZ s.xK r.vk)))) (sp (Bv (!(dec (vZ s.xK r.vk)))) ?_)))))))))))))))
     cases kL:(!(dec (vZ s.xK r.vk)))
     ·replace kL:=xn kL
      replace kL:=yG kL
      refine qJ 64 rfl rfl (sq 1 (qJ 64 rfl rfl (sq 1 (qJ 64 rfl rfl (sq 1 (qJ 64 rfl rfl (oF rfl (qJ 64 rfl rfl (oL rfl (H.xP 3 rfl 4 rfl) (qJ 64 rfl rfl (sw (oq (QY _ s r.vw (qF (H.get 0 rfl) 0 3) (H.get 1 rfl).1 (H.get 2 rfl).1 (H.get 6 rfl).1) H fun yb H=>qJ 64 rfl rfl (sp (Bv (!(dec (vZ s.xK r.vw)))) (sp (Bv (!(dec (vZ s.xK r.vw)))) (sp (Bv (!(dec (vZ s.xK r.vw)))) ?_)))))))))))))))
      cases dd:(!(dec (vZ s.xK r.vw)))
      ·replace dd:=xn dd
       replace dd:=yG dd
       refine qJ 73 rfl rfl (sq 1 (qJ 73 rfl rfl (sq 1 (qJ 73 rfl rfl (sq 1 (qJ 73 rfl rfl (oF rfl (qJ 73 rfl rfl (oL rfl (H.xP 3 rfl 5 rfl) (qJ 73 rfl rfl (sw (oq (QY _ s r.zS (qF (H.get 0 rfl) 0 3) (H.get 1 rfl).1 (H.get 2 rfl).1 (H.get 7 rfl).1) H fun s0 H=>qJ 73 rfl rfl (sp (Bv (!(dec (vZ s.xK r.zS)))) (sp (Bv (!(dec (vZ s.xK r.zS)))) (sp (Bv (!(dec (vZ s.xK r.zS)))) ?_)))))))))))))))
       cases lN:(!(dec (vZ s.xK r.zS)))
       ·replace lN:=xn lN
        replace lN:=yG lN
        refine qJ 82 rfl rfl (sq 1 (qJ 82 rfl rfl (sq 1 (qJ 82 rfl rfl (sq 1 (qJ 82 rfl rfl (oF rfl (qJ 82 rfl rfl (oL rfl (H.xP 3 rfl 6 rfl) (qJ 82 rfl rfl (sw (oq (QY _ s r.jX (qF (H.get 0 rfl) 0 3) (H.get 1 rfl).1 (H.get 2 rfl).1 (H.get 8 rfl).1) H fun Hu H=>qJ 82 rfl rfl (sp (Bv (!(dec (vZ s.xK r.jX)))) (sp (Bv (!(dec (vZ s.xK r.jX)))) (sp (Bv (!(dec (vZ s.xK r.jX)))) ?_)))))))))))))))
        cases pg:(!(dec (vZ s.xK r.jX)))
        ·replace pg:=xn pg
         replace pg:=yG pg
         refine qJ 91 rfl rfl (sq 1 (qJ 91 rfl rfl (sq 1 (qJ 91 rfl rfl (oF rfl (qJ 91 rfl rfl (oL rfl (H.xP 3 rfl 2 rfl) (qJ 91 rfl rfl (sw (oq (XY _ r.zk (H.get 4 rfl).1 (by exact vX ql)) H fun C5 H=>qJ 91 rfl rfl (sp (Bv ((QS r.zk:Int) == 0)) (sp (Bv ((QS r.zk:Int) == 0)) (zjn (cE rfl (fun lJ=>?_) (fun lJ=>?_)))))))))))))))
         ·refine zcr (sp (Bv false) (zjr (t_r (rH1 (Bv false) H ?_))))
          rw [xh (fun h=>by obtain ⟨h1,h2,h3,h4,h5,h6,h7,h8,h9,aZ,aU⟩:=h;contradiction)]
         refine qV (t_n (zcc (sp (yI 0) (zjn (qR (zl ((fun Z0 Z1 Z2 Z3 Z4 Z5 Z6 Z7 Z8 Z9=>fun m' ρ FG=>∃ (xE:Env) (k:Nat),ρ=upd (upd (upd xE 0 (pp bs os)) 1 (pp br or)) 5 (yI k)/\(k<=r.xe.length)/\(IntosTo s r k)/\m' =r.xe.length - k/\St w FG [] [Z0,Z1,Z2,Z3,Z4,Z5,Z6,Z7,Z8,Z9]) _ _ _ _ _ _ _ _ _ _) (r.xe.length - 0) ⟨_,0,uE3,qf,qx,rfl,H⟩ ?_))))))
         clear H
         rintro m' ρ Dk ⟨xE,k,rfl,i0,i1,rfl,H⟩
         refine zcc (sp (yI k) (sq 2 (oF rfl (oL rfl (H.xP 3 rfl 7 rfl) (oN rfl (sq 1 (zjn (cD rfl (fun CH=>?_) (fun CH=>?_)))))))))
         ·refine qV (t_n (xQ (qR (zcr (sq 2 (oF rfl (oL rfl (H.xP 3 rfl 7 rfl) (sp (yI k) ?_))))))))
          obtain ⟨vl,o32,rfl⟩:=H.addr 9 rfl qf
          obtain ⟨ux,uz,JP,H⟩:=H.yJ 9 rfl k k qf qf qf
          refine oI rfl rfl (sq 1 (zjn (xQ (xQ (jE rfl H fun H=>rtl 0 H ?_)))))
          refine rtl 1 H ?_
          refine tF 2 rfl rfl H ?_
          refine tL 3 rfl rfl (fun _ h=>h.xP 1 rfl 0 rfl) H ?_
          refine rtl 4 H ?_
          refine rtl 5 H ?_
          refine tF 6 rfl rfl H ?_
          refine tL 7 rfl rfl (fun _ h=>h.xP 2 rfl 1 rfl) H ?_
          refine tN 8 rfl rfl H ?_
          refine rt 9 _ (y_sub s.qA.length 1 rfl rfl qf) H ?_
          refine ro 10 rfl (oq (l00In_ok Dk.drew ((r.xe[k]!).qI) 0 (s.qA.length - 1)) H fun Dr H=>⟨H,(rtp 11 (Bv (!(inR ((r.xe[k]!).qI) 0 (s.qA.length - 1)))) H ?_)⟩)
          refine rtp 12 (Bv (!(inR ((r.xe[k]!).qI) 0 (s.qA.length - 1)))) H ?_
          cases uF:(!(inR ((r.xe[k]!).qI) 0 (s.qA.length - 1)))
          ·replace uF:=xn uF
           replace uF:=QV.1 uF
           refine rgl 13 126 H ?_
           refine rgl 14 126 H ?_
           refine rgl 15 126 H ?_
           refine gF 16 rfl rfl H ?_
           refine gL 17 rfl rfl (fun _ h=>h.xP 1 rfl 0 rfl) H ?_
           refine rgl 18 126 H ?_
           refine rgl 19 126 H ?_
           refine gF 20 rfl rfl H ?_
           refine gL 21 rfl rfl (fun _ h=>h.xP 5 rfl 0 rfl) H ?_
           refine vK [22] qh qm (VN rfl (e:=126) rfl rfl (oq (l02In_ok _ s ((r.xe[k]!).qI) r.qI (qF (H.get 2 rfl) 0 3) (H.get 3 rfl).1 (H.get 4 rfl).1 ql ql) H fun KT H=>⟨H,(rgp 23 (Bv (!(dec (Lies s.qA r.qI ((r.xe[k]!).qI))))) 126 H ?_)⟩) vM)
           refine rtp 24 (Bv (!(dec (Lies s.qA r.qI ((r.xe[k]!).qI))))) H ?_
           refine rtp 25 (Bv (!(dec (Lies s.qA r.qI ((r.xe[k]!).qI))))) H ?_
           cases tk:(!(dec (Lies s.qA r.qI ((r.xe[k]!).qI))))
           ·replace tk:=xn tk
            replace tk:=yG tk
            refine rgl 26 139 H ?_
            refine rgl 27 139 H ?_
            refine rgl 28 139 H ?_
            refine gF 29 rfl rfl H ?_
            refine gL 30 rfl rfl (fun _ h=>h.xP 1 rfl 1 rfl) H ?_
            refine vK [31] qh qm (VN rfl (e:=139) rfl rfl (oq (QY _ s ((r.xe[k]!).Qa) (qF (H.get 2 rfl) 0 3) (H.get 3 rfl).1 (H.get 4 rfl).1 (H.get 0 rfl).1) H fun Mx H=>⟨H,(rgp 32 (Bv (!(dec (vZ s.xK ((r.xe[k]!).Qa))))) 139 H ?_)⟩) vM)
            refine rtp 33 (Bv (!(dec (vZ s.xK ((r.xe[k]!).Qa))))) H ?_
            refine rtp 34 (Bv (!(dec (vZ s.xK ((r.xe[k]!).Qa))))) H ?_
            cases Kq:(!(dec (vZ s.xK ((r.xe[k]!).Qa))))
            ·replace Kq:=xn Kq
             replace Kq:=yG Kq
             refine rgl 35 148 H ?_
             refine rgl 36 148 H ?_
             refine gF 37 rfl rfl H ?_
             refine gL 38 rfl rfl (fun _ h=>h.xP 1 rfl 1 rfl) H ?_
             refine vK [39] qh qm (VN rfl (e:=148) rfl rfl (oq (XY _ ((r.xe[k]!).Qa) (H.get 0 rfl).1 (by exact vX ql)) H fun Dy H=>⟨H,(rgp 40 (Bv ((QS ((r.xe[k]!).Qa):Int) == 0)) 148 H ?_)⟩) vM)
             refine rtp 41 (Bv ((QS ((r.xe[k]!).Qa):Int) == 0)) H ?_
             refine xw qh (t_n (cE rfl (fun HO=>?_) (fun HO=>?_)))
             ·refine zcr (sp (Bv false) (zjr (t_r (zr5 (rH1 (Bv false) H ?_)))))
              rw [xh (fun h=>by obtain ⟨h1,h2,h3,h4,h5,h6,h7,h8,h9,aZ,aU⟩:=h;(obtain ⟨q1,q2,q3,q4,q5⟩:=aU k qf;contradiction))]
             refine qV (t_n (xQ (jE rfl H fun H=>rtp 0 (yI k) H ?_)))
             refine rtp 1 (Bv (decide ((k:Int) > 0))) H ?_
             refine rtp 2 (Bv (decide ((k:Int) > 0))) H ?_
             cases oW:(decide ((k:Int) > 0))
             ·replace oW:=of_decide_eq_false oW
              refine vG (zR 3 14) 14 (H) (rtp 17 (Bv false) H ?_)
              refine xw qh (t_n (cFr rfl (qV (b_n (t_n (xJ (sp (yI k) (sw (zn k 1 rfl rfl qf (sq 1 (xO (qX (m' :=r.xe.length - (k+1)) qf ⟨_,k+1,uE3,?_,?_,rfl,H.sel _ (.refl _) _ qm⟩))))))))))))
              ·omega
              ·exact i1.succ ⟨‹_›,‹_›,‹_›,‹_›,fun hk=>by omega⟩
             replace oW:=of_decide_eq_true oW
             refine rgl 3 158 H ?_
             refine rgl 4 158 H ?_
             refine gF 5 rfl rfl H ?_
             refine gL 6 rfl rfl (fun _ h=>h.xP 5 rfl 7 rfl) H ?_
             refine rgp 7 (yI k) 158 H ?_
             refine rg 8 _ 158 (y_sub k 1 rfl rfl qf) H ?_
             obtain ⟨aek,adp,adV,H⟩:=H.yJ 11 rfl (k - 1) (k - 1) qf qf qf
             refine gI 9 rfl rfl rfl (H.sel _ (.refl _) _ (fun _ h=>List.mem_cons_of_mem _ (List.mem_cons_of_mem _ (h)))) ?_
             refine gF 10 rfl rfl (H.sel _ (.refl _) _ (fun _ h=>List.mem_cons_of_mem _ (List.mem_cons_of_mem _ (h)))) ?_
             refine rgl 12 158 (H.sel _ (.refl _) _ (fun _ h=>List.mem_cons_of_mem _ (List.mem_cons_of_mem _ (h)))) ?_
             refine rgl 13 158 (H.sel _ (.refl _) _ (fun _ h=>List.mem_cons_of_mem _ (List.mem_cons_of_mem _ (h)))) ?_
             refine gF 14 rfl rfl (H.sel _ (.refl _) _ (fun _ h=>List.mem_cons_of_mem _ (List.mem_cons_of_mem _ (h)))) ?_
             refine gL 15 rfl rfl (fun _ h=>h.xP 1 rfl 0 rfl) (H.sel _ (.refl _) _ (fun _ h=>List.mem_cons_of_mem _ (List.mem_cons_of_mem _ (h)))) ?_
             refine vK [11] qh qm (VN rfl (e:=158) rfl rfl (x9 (yI ((r.xe[k - 1]!).qI)) isAgg2 rfl (H.xP 1 rfl 0 rfl) (⟨H.dF 2,(rgl 16 158 (H.sel _ (.refl _) _ (fun _ h=>List.mem_cons_of_mem _ (List.mem_cons_of_mem _ (h)))) ?_)⟩)) vM)
             refine rtl 17 (H.sel _ (.refl _) _ (fun _ h=>List.mem_cons_of_mem _ (List.mem_cons_of_mem _ (h)))) ?_
             refine xw qh (t_n (cD rfl (fun Pq=>?_) (fun Pq=>?_)))
             ·refine zcr (sp (Bv false) (zjr (zr5 (rH1 (Bv false) H ?_))))
              rw [xh (fun h=>by obtain ⟨h1,h2,h3,h4,h5,h6,h7,h8,h9,aZ,aU⟩:=h;(obtain ⟨q1,q2,q3,q4,q5⟩:=aU k qf;omega))]
             refine qV (b_n (t_n (xJ (sp (yI k) (sw (zn k 1 rfl rfl qf (sq 1 (xO (qX (m' :=r.xe.length - (k+1)) qf ⟨_,k+1,uE3,?_,?_,rfl,H.sel _ (.refl _) _ qm⟩)))))))))
             ·omega
             ·exact i1.succ ⟨‹_›,‹_›,‹_›,‹_›,fun hk=>by omega⟩
            replace Kq:=xB Kq
            replace Kq:=zM Kq
            refine vG (zR 35 6) 6 (H) (rtp 41 (Bv true) H ?_)
            refine xw qh (t_n (cTr rfl (zcr (sp (Bv false) (zjr (t_r (zr5 (rH1 (Bv false) H ?_))))))))
            rw [xh (fun h=>by obtain ⟨h1,h2,h3,h4,h5,h6,h7,h8,h9,aZ,aU⟩:=h;(obtain ⟨q1,q2,q3,q4,q5⟩:=aU k qf;contradiction))]
           replace tk:=xB tk
           replace tk:=zM tk
           refine vG (zR 26 7) 7 (H) (rtp 33 (Bv true) H ?_)
           refine rtp 34 (Bv true) H ?_
           refine vG (zR 35 6) 6 (H) (rtp 41 (Bv true) H ?_)
           refine xw qh (t_n (cTr rfl (zcr (sp (Bv false) (zjr (t_r (zr5 (rH1 (Bv false) H ?_))))))))
           rw [xh (fun h=>by obtain ⟨h1,h2,h3,h4,h5,h6,h7,h8,h9,aZ,aU⟩:=h;(obtain ⟨q1,q2,q3,q4,q5⟩:=aU k qf;contradiction))]
          replace uF:=xB uF
          replace uF:=XD uF
          refine vG (zR 13 11) 11 (H) (rtp 24 (Bv true) H ?_)
          refine rtp 25 (Bv true) H ?_
          refine vG (zR 26 7) 7 (H) (rtp 33 (Bv true) H ?_)
          refine rtp 34 (Bv true) H ?_
          refine vG (zR 35 6) 6 (H) (rtp 41 (Bv true) H ?_)
          refine xw qh (t_n (cTr rfl (zcr (sp (Bv false) (zjr (t_r (zr5 (rH1 (Bv false) H ?_))))))))
          rw [xh (fun h=>by obtain ⟨h1,h2,h3,h4,h5,h6,h7,h8,h9,aZ,aU⟩:=h;(obtain ⟨q1,q2,q3,q4,q5⟩:=aU k qf;contradiction))]
         refine zx4 (zcr (sp (Bv true) (zjr (rH1 (Bv true) H ?_))))
         obtain rfl:k=r.xe.length:=by omega
         rw [jH ⟨by assumption,by omega,by simp_all,by omega,by assumption,by assumption,by assumption,by assumption,by assumption,by assumption,i1⟩]
        replace pg:=xB pg
        replace pg:=zM pg
        refine xR (zR 92 6) (sp (Bv true) (zjn (cTr rfl (zcr (sp (Bv false) (zjr (t_r (rH1 (Bv false) H ?_))))))))
        rw [xh (fun h=>by obtain ⟨h1,h2,h3,h4,h5,h6,h7,h8,h9,aZ,aU⟩:=h;contradiction)]
       replace lN:=xB lN
       replace lN:=zM lN
       refine xR (zR 83 7) (sp (Bv true) (sp (Bv true) (xR (zR 92 6) (sp (Bv true) (zjn (cTr rfl (zcr (sp (Bv false) (zjr (t_r (rH1 (Bv false) H ?_)))))))))))
       rw [xh (fun h=>by obtain ⟨h1,h2,h3,h4,h5,h6,h7,h8,h9,aZ,aU⟩:=h;contradiction)]
      replace dd:=xB dd
      replace dd:=zM dd
      refine xR (zR 74 7) (sp (Bv true) (sp (Bv true) (xR (zR 83 7) (sp (Bv true) (sp (Bv true) (xR (zR 92 6) (sp (Bv true) (zjn (cTr rfl (zcr (sp (Bv false) (zjr (t_r (rH1 (Bv false) H ?_))))))))))))))
      rw [xh (fun h=>by obtain ⟨h1,h2,h3,h4,h5,h6,h7,h8,h9,aZ,aU⟩:=h;contradiction)]
     replace kL:=xB kL
     replace kL:=zM kL
     refine xR (zR 65 7) (sp (Bv true) (sp (Bv true) (xR (zR 74 7) (sp (Bv true) (sp (Bv true) (xR (zR 83 7) (sp (Bv true) (sp (Bv true) (xR (zR 92 6) (sp (Bv true) (zjn (cTr rfl (zcr (sp (Bv false) (zjr (t_r (rH1 (Bv false) H ?_)))))))))))))))))
     rw [xh (fun h=>by obtain ⟨h1,h2,h3,h4,h5,h6,h7,h8,h9,aZ,aU⟩:=h;contradiction)]
    replace db:=xB db
    replace db:=zM db
    refine xR (zR 56 7) (sp (Bv true) (sp (Bv true) (xR (zR 65 7) (sp (Bv true) (sp (Bv true) (xR (zR 74 7) (sp (Bv true) (sp (Bv true) (xR (zR 83 7) (sp (Bv true) (sp (Bv true) (xR (zR 92 6) (sp (Bv true) (zjn (cTr rfl (zcr (sp (Bv false) (zjr (t_r (rH1 (Bv false) H ?_))))))))))))))))))))
    rw [xh (fun h=>by obtain ⟨h1,h2,h3,h4,h5,h6,h7,h8,h9,aZ,aU⟩:=h;contradiction)]
   rw [h8] at H
   refine rgl 26 32 H ?_
   refine rgl 27 32 H ?_
   refine gF 28 rfl rfl H ?_
   refine gL 29 rfl rfl (fun _ h=>h.xP 3 rfl 0 rfl) H ?_
   refine rgp 30 (Bv ((r.qI:Int) == 0)) 32 H ?_
   refine rgp 31 (Bv ((r.qI:Int) == 0)) 27 H ?_
   refine rtp 32 (Bv ((r.qI:Int) == 0)) H ?_
   refine rtp 33 (Bv ((r.qI:Int) == 0)) H ?_
   cases IL:((r.qI:Int) == 0)
   ·replace IL:=ne_of_beq_false IL
    refine rgl 34 40 H ?_
    refine rgl 35 40 H ?_
    refine gF 36 rfl rfl H ?_
    refine gL 37 rfl rfl (fun _ h=>h.xP 3 rfl 7 rfl) H ?_
    refine gN 38 rfl rfl H ?_
    refine rgp 39 (Bv (decide ((r.xe.length:Int) > 3))) 40 H ?_
    refine rtp 40 (Bv (decide ((r.xe.length:Int) > 3))) H ?_
    refine xw qh (t_n (cD rfl (fun Hb=>?_) (fun Hb=>?_)))
    ·refine zcr (sp (Bv false) (zjr (t_r (rH1 (Bv false) H ?_))))
     rw [xh (fun h=>by obtain ⟨h1,h2,h3,h4,h5,h6,h7,h8,h9,aZ,aU⟩:=h;omega)]
    refine qV (t_n (zcc (sq 3 (oF rfl (oL rfl (H.xP 3 rfl 2 rfl) (sw (oq (QY _ s r.zk (qF (H.get 0 rfl) 0 3) (H.get 1 rfl).1 (H.get 2 rfl).1 (H.get 4 rfl).1) H fun Hi H=>sp (Bv (!(dec (vZ s.xK r.zk)))) (sp (Bv (!(dec (vZ s.xK r.zk)))) ?_))))))))
    cases HH:(!(dec (vZ s.xK r.zk)))
    ·replace HH:=xn HH
     replace HH:=yG HH
     refine qJ 55 rfl rfl (sq 1 (qJ 55 rfl rfl (sq 1 (qJ 55 rfl rfl (sq 1 (qJ 55 rfl rfl (oF rfl (qJ 55 rfl rfl (oL rfl (H.xP 3 rfl 3 rfl) (qJ 55 rfl rfl (sw (oq (QY _ s r.vk (qF (H.get 0 rfl) 0 3) (H.get 1 rfl).1 (H.get 2 rfl).1 (H.get 5 rfl).1) H fun L8 H=>qJ 55 rfl rfl (sp (Bv (!(dec (vZ s.xK r.vk)))) (sp (Bv (!(dec (vZ s.xK r.vk)))) (sp (Bv (!(dec (vZ s.xK r.vk)))) ?_)))))))))))))))
     cases pd:(!(dec (vZ s.xK r.vk)))
     ·replace pd:=xn pd
      replace pd:=yG pd
      refine qJ 64 rfl rfl (sq 1 (qJ 64 rfl rfl (sq 1 (qJ 64 rfl rfl (sq 1 (qJ 64 rfl rfl (oF rfl (qJ 64 rfl rfl (oL rfl (H.xP 3 rfl 4 rfl) (qJ 64 rfl rfl (sw (oq (QY _ s r.vw (qF (H.get 0 rfl) 0 3) (H.get 1 rfl).1 (H.get 2 rfl).1 (H.get 6 rfl).1) H fun Hj H=>qJ 64 rfl rfl (sp (Bv (!(dec (vZ s.xK r.vw)))) (sp (Bv (!(dec (vZ s.xK r.vw)))) (sp (Bv (!(dec (vZ s.xK r.vw)))) ?_)))))))))))))))
      cases uD:(!(dec (vZ s.xK r.vw)))
      ·replace uD:=xn uD
       replace uD:=yG uD
       refine qJ 73 rfl rfl (sq 1 (qJ 73 rfl rfl (sq 1 (qJ 73 rfl rfl (sq 1 (qJ 73 rfl rfl (oF rfl (qJ 73 rfl rfl (oL rfl (H.xP 3 rfl 5 rfl) (qJ 73 rfl rfl (sw (oq (QY _ s r.zS (qF (H.get 0 rfl) 0 3) (H.get 1 rfl).1 (H.get 2 rfl).1 (H.get 7 rfl).1) H fun w62 H=>qJ 73 rfl rfl (sp (Bv (!(dec (vZ s.xK r.zS)))) (sp (Bv (!(dec (vZ s.xK r.zS)))) (sp (Bv (!(dec (vZ s.xK r.zS)))) ?_)))))))))))))))
       cases B5:(!(dec (vZ s.xK r.zS)))
       ·replace B5:=xn B5
        replace B5:=yG B5
        refine qJ 82 rfl rfl (sq 1 (qJ 82 rfl rfl (sq 1 (qJ 82 rfl rfl (sq 1 (qJ 82 rfl rfl (oF rfl (qJ 82 rfl rfl (oL rfl (H.xP 3 rfl 6 rfl) (qJ 82 rfl rfl (sw (oq (QY _ s r.jX (qF (H.get 0 rfl) 0 3) (H.get 1 rfl).1 (H.get 2 rfl).1 (H.get 8 rfl).1) H fun Pm H=>qJ 82 rfl rfl (sp (Bv (!(dec (vZ s.xK r.jX)))) (sp (Bv (!(dec (vZ s.xK r.jX)))) (sp (Bv (!(dec (vZ s.xK r.jX)))) ?_)))))))))))))))
        cases wq:(!(dec (vZ s.xK r.jX)))
        ·replace wq:=xn wq
         replace wq:=yG wq
         refine qJ 91 rfl rfl (sq 1 (qJ 91 rfl rfl (sq 1 (qJ 91 rfl rfl (oF rfl (qJ 91 rfl rfl (oL rfl (H.xP 3 rfl 2 rfl) (qJ 91 rfl rfl (sw (oq (XY _ r.zk (H.get 4 rfl).1 (by exact vX ql)) H fun Rr H=>qJ 91 rfl rfl (sp (Bv ((QS r.zk:Int) == 0)) (sp (Bv ((QS r.zk:Int) == 0)) (zjn (cE rfl (fun Nf=>?_) (fun Nf=>?_)))))))))))))))
         ·refine zcr (sp (Bv false) (zjr (t_r (rH1 (Bv false) H ?_))))
          rw [xh (fun h=>by obtain ⟨h1,h2,h3,h4,h5,h6,h7,h8,h9,aZ,aU⟩:=h;contradiction)]
         refine qV (t_n (zcc (sp (yI 0) (zjn (qR (zl ((fun Z0 Z1 Z2 Z3 Z4 Z5 Z6 Z7 Z8 Z9=>fun m' ρ w71=>∃ (xE:Env) (k:Nat),ρ=upd (upd (upd xE 0 (pp bs os)) 1 (pp br or)) 5 (yI k)/\(k<=r.xe.length)/\(IntosTo s r k)/\m' =r.xe.length - k/\St w w71 [] [Z0,Z1,Z2,Z3,Z4,Z5,Z6,Z7,Z8,Z9]) _ _ _ _ _ _ _ _ _ _) (r.xe.length - 0) ⟨_,0,uE3,qf,qx,rfl,H⟩ ?_))))))
         clear H
         rintro m' ρ HE ⟨xE,k,rfl,i0,i1,rfl,H⟩
         refine zcc (sp (yI k) (sq 2 (oF rfl (oL rfl (H.xP 3 rfl 7 rfl) (oN rfl (sq 1 (zjn (cD rfl (fun D7=>?_) (fun D7=>?_)))))))))
         ·refine qV (t_n (xQ (qR (zcr (sq 2 (oF rfl (oL rfl (H.xP 3 rfl 7 rfl) (sp (yI k) ?_))))))))
          obtain ⟨b74,o75,rfl⟩:=H.addr 9 rfl qf
          obtain ⟨aeu,aef,adP,H⟩:=H.yJ 9 rfl k k qf qf qf
          refine oI rfl rfl (sq 1 (zjn (xQ (xQ (jE rfl H fun H=>rtl 0 H ?_)))))
          refine rtl 1 H ?_
          refine tF 2 rfl rfl H ?_
          refine tL 3 rfl rfl (fun _ h=>h.xP 1 rfl 0 rfl) H ?_
          refine rtl 4 H ?_
          refine rtl 5 H ?_
          refine tF 6 rfl rfl H ?_
          refine tL 7 rfl rfl (fun _ h=>h.xP 2 rfl 1 rfl) H ?_
          refine tN 8 rfl rfl H ?_
          refine rt 9 _ (y_sub s.qA.length 1 rfl rfl qf) H ?_
          refine ro 10 rfl (oq (l00In_ok HE.drew ((r.xe[k]!).qI) 0 (s.qA.length - 1)) H fun WE H=>⟨H,(rtp 11 (Bv (!(inR ((r.xe[k]!).qI) 0 (s.qA.length - 1)))) H ?_)⟩)
          refine rtp 12 (Bv (!(inR ((r.xe[k]!).qI) 0 (s.qA.length - 1)))) H ?_
          cases Ht:(!(inR ((r.xe[k]!).qI) 0 (s.qA.length - 1)))
          ·replace Ht:=xn Ht
           replace Ht:=QV.1 Ht
           refine rgl 13 126 H ?_
           refine rgl 14 126 H ?_
           refine rgl 15 126 H ?_
           refine gF 16 rfl rfl H ?_
           refine gL 17 rfl rfl (fun _ h=>h.xP 1 rfl 0 rfl) H ?_
           refine rgl 18 126 H ?_
           refine rgl 19 126 H ?_
           refine gF 20 rfl rfl H ?_
           refine gL 21 rfl rfl (fun _ h=>h.xP 5 rfl 0 rfl) H ?_
           refine vK [22] qh qm (VN rfl (e:=126) rfl rfl (oq (l02In_ok _ s ((r.xe[k]!).qI) r.qI (qF (H.get 2 rfl) 0 3) (H.get 3 rfl).1 (H.get 4 rfl).1 ql ql) H fun SR H=>⟨H,(rgp 23 (Bv (!(dec (Lies s.qA r.qI ((r.xe[k]!).qI))))) 126 H ?_)⟩) vM)
           refine rtp 24 (Bv (!(dec (Lies s.qA r.qI ((r.xe[k]!).qI))))) H ?_
           refine rtp 25 (Bv (!(dec (Lies s.qA r.qI ((r.xe[k]!).qI))))) H ?_
           cases C7:(!(dec (Lies s.qA r.qI ((r.xe[k]!).qI))))
           ·replace C7:=xn C7
            replace C7:=yG C7
            refine rgl 26 139 H ?_
            refine rgl 27 139 H ?_
            refine rgl 28 139 H ?_
            refine gF 29 rfl rfl H ?_
            refine gL 30 rfl rfl (fun _ h=>h.xP 1 rfl 1 rfl) H ?_
            refine vK [31] qh qm (VN rfl (e:=139) rfl rfl (oq (QY _ s ((r.xe[k]!).Qa) (qF (H.get 2 rfl) 0 3) (H.get 3 rfl).1 (H.get 4 rfl).1 (H.get 0 rfl).1) H fun HG H=>⟨H,(rgp 32 (Bv (!(dec (vZ s.xK ((r.xe[k]!).Qa))))) 139 H ?_)⟩) vM)
            refine rtp 33 (Bv (!(dec (vZ s.xK ((r.xe[k]!).Qa))))) H ?_
            refine rtp 34 (Bv (!(dec (vZ s.xK ((r.xe[k]!).Qa))))) H ?_
            cases lB:(!(dec (vZ s.xK ((r.xe[k]!).Qa))))
            ·replace lB:=xn lB
             replace lB:=yG lB
             refine rgl 35 148 H ?_
             refine rgl 36 148 H ?_
             refine gF 37 rfl rfl H ?_
             refine gL 38 rfl rfl (fun _ h=>h.xP 1 rfl 1 rfl) H ?_
             refine vK [39] qh qm (VN rfl (e:=148) rfl rfl (oq (XY _ ((r.xe[k]!).Qa) (H.get 0 rfl).1 (by exact vX ql)) H fun w87 H=>⟨H,(rgp 40 (Bv ((QS ((r.xe[k]!).Qa):Int) == 0)) 148 H ?_)⟩) vM)
             refine rtp 41 (Bv ((QS ((r.xe[k]!).Qa):Int) == 0)) H ?_
             refine xw qh (t_n (cE rfl (fun Do=>?_) (fun Do=>?_)))
             ·refine zcr (sp (Bv false) (zjr (t_r (zr5 (rH1 (Bv false) H ?_)))))
              rw [xh (fun h=>by obtain ⟨h1,h2,h3,h4,h5,h6,h7,h8,h9,aZ,aU⟩:=h;(obtain ⟨q1,q2,q3,q4,q5⟩:=aU k qf;contradiction))]
             refine qV (t_n (xQ (jE rfl H fun H=>rtp 0 (yI k) H ?_)))
             refine rtp 1 (Bv (decide ((k:Int) > 0))) H ?_
             refine rtp 2 (Bv (decide ((k:Int) > 0))) H ?_
             cases Rv:(decide ((k:Int) > 0))
             ·replace Rv:=of_decide_eq_false Rv
              refine vG (zR 3 14) 14 (H) (rtp 17 (Bv false) H ?_)
              refine xw qh (t_n (cFr rfl (qV (b_n (t_n (xJ (sp (yI k) (sw (zn k 1 rfl rfl qf (sq 1 (xO (qX (m' :=r.xe.length - (k+1)) qf ⟨_,k+1,uE3,?_,?_,rfl,H.sel _ (.refl _) _ qm⟩))))))))))))
              ·omega
              ·exact i1.succ ⟨‹_›,‹_›,‹_›,‹_›,fun hk=>by omega⟩
             replace Rv:=of_decide_eq_true Rv
             refine rgl 3 158 H ?_
             refine rgl 4 158 H ?_
             refine gF 5 rfl rfl H ?_
             refine gL 6 rfl rfl (fun _ h=>h.xP 5 rfl 7 rfl) H ?_
             refine rgp 7 (yI k) 158 H ?_
             refine rg 8 _ 158 (y_sub k 1 rfl rfl qf) H ?_
             obtain ⟨ad2,aeo,aec,H⟩:=H.yJ 11 rfl (k - 1) (k - 1) qf qf qf
             refine gI 9 rfl rfl rfl (H.sel _ (.refl _) _ (fun _ h=>List.mem_cons_of_mem _ (List.mem_cons_of_mem _ (h)))) ?_
             refine gF 10 rfl rfl (H.sel _ (.refl _) _ (fun _ h=>List.mem_cons_of_mem _ (List.mem_cons_of_mem _ (h)))) ?_
             refine rgl 12 158 (H.sel _ (.refl _) _ (fun _ h=>List.mem_cons_of_mem _ (List.mem_cons_of_mem _ (h)))) ?_
             refine rgl 13 158 (H.sel _ (.refl _) _ (fun _ h=>List.mem_cons_of_mem _ (List.mem_cons_of_mem _ (h)))) ?_
             refine gF 14 rfl rfl (H.sel _ (.refl _) _ (fun _ h=>List.mem_cons_of_mem _ (List.mem_cons_of_mem _ (h)))) ?_
             refine gL 15 rfl rfl (fun _ h=>h.xP 1 rfl 0 rfl) (H.sel _ (.refl _) _ (fun _ h=>List.mem_cons_of_mem _ (List.mem_cons_of_mem _ (h)))) ?_
             refine vK [11] qh qm (VN rfl (e:=158) rfl rfl (x9 (yI ((r.xe[k - 1]!).qI)) isAgg2 rfl (H.xP 1 rfl 0 rfl) (⟨H.dF 2,(rgl 16 158 (H.sel _ (.refl _) _ (fun _ h=>List.mem_cons_of_mem _ (List.mem_cons_of_mem _ (h)))) ?_)⟩)) vM)
             refine rtl 17 (H.sel _ (.refl _) _ (fun _ h=>List.mem_cons_of_mem _ (List.mem_cons_of_mem _ (h)))) ?_
             refine xw qh (t_n (cD rfl (fun HQ=>?_) (fun HQ=>?_)))
             ·refine zcr (sp (Bv false) (zjr (zr5 (rH1 (Bv false) H ?_))))
              rw [xh (fun h=>by obtain ⟨h1,h2,h3,h4,h5,h6,h7,h8,h9,aZ,aU⟩:=h;(obtain ⟨q1,q2,q3,q4,q5⟩:=aU k qf;omega))]
             refine qV (b_n (t_n (xJ (sp (yI k) (sw (zn k 1 rfl rfl qf (sq 1 (xO (qX (m' :=r.xe.length - (k+1)) qf ⟨_,k+1,uE3,?_,?_,rfl,H.sel _ (.refl _) _ qm⟩)))))))))
             ·omega
             ·exact i1.succ ⟨‹_›,‹_›,‹_›,‹_›,fun hk=>by omega⟩
            replace lB:=xB lB
            replace lB:=zM lB
            refine vG (zR 35 6) 6 (H) (rtp 41 (Bv true) H ?_)
            refine xw qh (t_n (cTr rfl (zcr (sp (Bv false) (zjr (t_r (zr5 (rH1 (Bv false) H ?_))))))))
            rw [xh (fun h=>by obtain ⟨h1,h2,h3,h4,h5,h6,h7,h8,h9,aZ,aU⟩:=h;(obtain ⟨q1,q2,q3,q4,q5⟩:=aU k qf;contradiction))]
           replace C7:=xB C7
           replace C7:=zM C7
           refine vG (zR 26 7) 7 (H) (rtp 33 (Bv true) H ?_)
           refine rtp 34 (Bv true) H ?_
           refine vG (zR 35 6) 6 (H) (rtp 41 (Bv true) H ?_)
           refine xw qh (t_n (cTr rfl (zcr (sp (Bv false) (zjr (t_r (zr5 (rH1 (Bv false) H ?_))))))))
           rw [xh (fun h=>by obtain ⟨h1,h2,h3,h4,h5,h6,h7,h8,h9,aZ,aU⟩:=h;(obtain ⟨q1,q2,q3,q4,q5⟩:=aU k qf;contradiction))]
          replace Ht:=xB Ht
          replace Ht:=XD Ht
          refine vG (zR 13 11) 11 (H) (rtp 24 (Bv true) H ?_)
          refine rtp 25 (Bv true) H ?_
          refine vG (zR 26 7) 7 (H) (rtp 33 (Bv true) H ?_)
          refine rtp 34 (Bv true) H ?_
          refine vG (zR 35 6) 6 (H) (rtp 41 (Bv true) H ?_)
          refine xw qh (t_n (cTr rfl (zcr (sp (Bv false) (zjr (t_r (zr5 (rH1 (Bv false) H ?_))))))))
          rw [xh (fun h=>by obtain ⟨h1,h2,h3,h4,h5,h6,h7,h8,h9,aZ,aU⟩:=h;(obtain ⟨q1,q2,q3,q4,q5⟩:=aU k qf;contradiction))]
         refine zx4 (zcr (sp (Bv true) (zjr (rH1 (Bv true) H ?_))))
         obtain rfl:k=r.xe.length:=by omega
         rw [jH ⟨by assumption,by omega,by simp_all,by omega,by assumption,by assumption,by assumption,by assumption,by assumption,by assumption,i1⟩]
        replace wq:=xB wq
        replace wq:=zM wq
        refine xR (zR 92 6) (sp (Bv true) (zjn (cTr rfl (zcr (sp (Bv false) (zjr (t_r (rH1 (Bv false) H ?_))))))))
        rw [xh (fun h=>by obtain ⟨h1,h2,h3,h4,h5,h6,h7,h8,h9,aZ,aU⟩:=h;contradiction)]
       replace B5:=xB B5
       replace B5:=zM B5
       refine xR (zR 83 7) (sp (Bv true) (sp (Bv true) (xR (zR 92 6) (sp (Bv true) (zjn (cTr rfl (zcr (sp (Bv false) (zjr (t_r (rH1 (Bv false) H ?_)))))))))))
       rw [xh (fun h=>by obtain ⟨h1,h2,h3,h4,h5,h6,h7,h8,h9,aZ,aU⟩:=h;contradiction)]
      replace uD:=xB uD
      replace uD:=zM uD
      refine xR (zR 74 7) (sp (Bv true) (sp (Bv true) (xR (zR 83 7) (sp (Bv true) (sp (Bv true) (xR (zR 92 6) (sp (Bv true) (zjn (cTr rfl (zcr (sp (Bv false) (zjr (t_r (rH1 (Bv false) H ?_))))))))))))))
      rw [xh (fun h=>by obtain ⟨h1,h2,h3,h4,h5,h6,h7,h8,h9,aZ,aU⟩:=h;contradiction)]
     replace pd:=xB pd
     replace pd:=zM pd
     refine xR (zR 65 7) (sp (Bv true) (sp (Bv true) (xR (zR 74 7) (sp (Bv true) (sp (Bv true) (xR (zR 83 7) (sp (Bv true) (sp (Bv true) (xR (zR 92 6) (sp (Bv true) (zjn (cTr rfl (zcr (sp (Bv false) (zjr (t_r (rH1 (Bv false) H ?_)))))))))))))))))
     rw [xh (fun h=>by obtain ⟨h1,h2,h3,h4,h5,h6,h7,h8,h9,aZ,aU⟩:=h;contradiction)]
    replace HH:=xB HH
    replace HH:=zM HH
    refine xR (zR 56 7) (sp (Bv true) (sp (Bv true) (xR (zR 65 7) (sp (Bv true) (sp (Bv true) (xR (zR 74 7) (sp (Bv true) (sp (Bv true) (xR (zR 83 7) (sp (Bv true) (sp (Bv true) (xR (zR 92 6) (sp (Bv true) (zjn (cTr rfl (zcr (sp (Bv false) (zjr (t_r (rH1 (Bv false) H ?_))))))))))))))))))))
    rw [xh (fun h=>by obtain ⟨h1,h2,h3,h4,h5,h6,h7,h8,h9,aZ,aU⟩:=h;contradiction)]
   replace IL:=eq_of_beq IL
   refine vG (zR 34 6) 6 (H) (rtp 40 (Bv true) H ?_)
   refine xw qh (t_n (cTr rfl (zcr (sp (Bv false) (zjr (t_r (rH1 (Bv false) H ?_)))))))
   rw [xh (fun h=>by obtain ⟨h1,h2,h3,h4,h5,h6,h7,h8,h9,aZ,aU⟩:=h;exact h3 ⟨‹_›,‹_›⟩)]
  replace h7:=xB h7
  replace h7:=XD h7
  refine vG (zR 21 11) 11 (H) (rtp 32 (Bv true) H ?_)
  refine rtp 33 (Bv true) H ?_
  refine vG (zR 34 6) 6 (H) (rtp 40 (Bv true) H ?_)
  refine xw qh (t_n (cTr rfl (zcr (sp (Bv false) (zjr (t_r (rH1 (Bv false) H ?_)))))))
  rw [xh (fun h=>by obtain ⟨h1,h2,h3,h4,h5,h6,h7,h8,h9,aZ,aU⟩:=h;contradiction)]
 replace h4:=xB h4
 replace h4:=XD h4
 refine vG (zR 13 6) 6 (H) (rtp 19 (Bv true) H ?_)
 refine rtp 20 (Bv true) H ?_
 refine vG (zR 21 11) 11 (H) (rtp 32 (Bv true) H ?_)
 refine rtp 33 (Bv true) H ?_
 refine vG (zR 34 6) 6 (H) (rtp 40 (Bv true) H ?_)
 refine xw qh (t_n (cTr rfl (zcr (sp (Bv false) (zjr (t_r (rH1 (Bv false) H ?_)))))))
 rw [xh (fun h=>by obtain ⟨h1,h2,h3,h4,h5,h6,h7,h8,h9,aZ,aU⟩:=h;contradiction)]
theorem l02State_ok (w:World) (s:qC) (t:qH) (hs:vY w bs os (yS s qG qE qO qN)) (qP:zP w xk qG qE s.qA) (xm:zP w xW qO qN s.qB) (ht:vY w bt ot (yT t xg xf xI xG qZ qY)) (zi:zP w zD xg xf t.qK) (zI:zP w vF xI xG t.qQ) (xM:zP w zh qZ qY t.qL) (p0:jk s):Calls Tryz.prog 83 #[pp bs os,pp bt ot] w (Ret (fun v w' =>v=Bv (dec (xZ s t))) w):=by
 refine en func83 ntmps83 ?_
 have H:=(((((((St.start w).arg xM).arg zI).arg zi).Xr ht).arg xm).arg qP).Xr hs
 have zB:=qM qP
 clear hs qP xm ht zi zI xM
 have p1:=p0.2.1
 refine zcr (sp (Bv false) (zjn (xQ (xQ (jE rfl H fun H=>rtl 0 H ?_)))))
 refine rtl 1 H ?_
 refine tF 2 rfl rfl H ?_
 refine tL 3 rfl rfl (fun _ h=>h.xP 3 rfl 0 rfl) H ?_
 refine tN 4 rfl rfl H ?_
 refine rtl 5 H ?_
 refine rtl 6 H ?_
 refine tF 7 rfl rfl H ?_
 refine tL 8 rfl rfl (fun _ h=>h.xP 0 rfl 1 rfl) H ?_
 refine tN 9 rfl rfl H ?_
 refine rtp 10 (Bv ((t.qK.length:Int) != s.qA.length)) H ?_
 refine rtp 11 (Bv ((t.qK.length:Int) != s.qA.length)) H ?_
 cases h2:((t.qK.length:Int) != s.qA.length)
 ·replace h2:=xx h2
  refine rgl 12 17 H ?_
  refine rgl 13 17 H ?_
  refine gF 14 rfl rfl H ?_
  refine gL 15 rfl rfl (fun _ h=>h.xP 3 rfl 1 rfl) H ?_
  refine gN 16 rfl rfl H ?_
  refine rgl 17 17 H ?_
  refine rgl 18 17 H ?_
  refine gF 19 rfl rfl H ?_
  refine gL 20 rfl rfl (fun _ h=>h.xP 0 rfl 1 rfl) H ?_
  refine gN 21 rfl rfl H ?_
  refine rgp 22 (Bv ((t.qQ.length:Int) != s.qA.length)) 17 H ?_
  refine rtp 23 (Bv ((t.qQ.length:Int) != s.qA.length)) H ?_
  refine rtp 24 (Bv ((t.qQ.length:Int) != s.qA.length)) H ?_
  cases h3:((t.qQ.length:Int) != s.qA.length)
  ·replace h3:=xx h3
   refine rgl 25 30 H ?_
   refine rgl 26 30 H ?_
   refine gF 27 rfl rfl H ?_
   refine gL 28 rfl rfl (fun _ h=>h.xP 3 rfl 0 rfl) H ?_
   obtain ⟨b4,o5,rfl⟩:=H.addr 4 rfl qf
   refine gI 29 rfl rfl rfl H ?_
   refine gL 30 rfl rfl (fun _ h=>h.elemBoolN 4 rfl 0 qf) H ?_
   refine rgp 31 (Bv (!(t.qK[0]!))) 30 H ?_
   refine rtp 32 (Bv (!(t.qK[0]!))) H ?_
   refine rtp 33 (Bv (!(t.qK[0]!))) H ?_
   cases h6:(!(t.qK[0]!))
   ·replace h6:=xn h6
    refine rgl 34 39 H ?_
    refine rgl 35 39 H ?_
    refine rgl 36 39 H ?_
    refine gF 37 rfl rfl H ?_
    refine gL 38 rfl rfl (fun _ h=>h.xP 3 rfl 2 rfl) H ?_
    refine vK [39] qh qm (VN rfl (e:=39) rfl rfl (oq (QY _ s t.qL (qF (H.get 0 rfl) 0 3) (H.get 1 rfl).1 (H.get 2 rfl).1 (H.get 6 rfl).1) H fun w7 H=>⟨H,(rgl 40 39 H ?_)⟩) vM)
    refine rtl 41 H ?_
    refine xw qh (t_n (cQ rfl (fun h9=>?_) (fun h9=>?_)))
    ·refine zcr (sp (Bv false) (zjr (t_r (rH1 (Bv false) H ?_))))
     rw [xh (fun h=>by obtain ⟨h1,h2,h3,h4,h5⟩:=h;contradiction)]
    refine qV (t_n (zcc (sp (yI 0) (zjn (qR (zl ((fun Z0 Z1 Z2 Z3 Z4 Z5 Z6=>fun m' ρ nq=>∃ (xE:Env) (k:Nat),ρ=upd (upd (upd xE 0 (pp bs os)) 1 (pp bt ot)) 5 (yI k)/\(k<=t.qQ.length)/\(BagsTo s t k)/\m' =t.qQ.length - k/\St w nq [] [Z0,Z1,Z2,Z3,Z4,Z5,Z6]) _ _ _ _ _ _ _) (t.qQ.length - 0) ⟨_,0,uE3,qf,qx,rfl,H⟩ ?_))))))
    clear H
    rintro m' ρ nr ⟨xE,k,rfl,i0,i1,rfl,H⟩
    refine zcc (sp (yI k) (sq 2 (oF rfl (oL rfl (H.xP 3 rfl 1 rfl) (oN rfl (sq 1 (zjn (cD rfl (fun db=>?_) (fun db=>?_)))))))))
    ·refine qV (t_n (xQ (qR (zcr (sq 3 (oF rfl (oL rfl (H.xP 3 rfl 1 rfl) (sp (yI k) ?_))))))))
     obtain ⟨Dt,o14,rfl⟩:=H.addr 5 rfl qf
     obtain ⟨aji,afv,alF,H⟩:=H.zW 5 rfl k k qf qf qf
     refine oI rfl rfl (oL rfl (H.xP 1 rfl 0 rfl) (sw (oq (QY _ s (t.qQ[k]!) (qF (H.get 2 rfl) 0 3) (H.get 3 rfl).1 (H.get 4 rfl).1 (H.get 0 rfl).1) H fun yb H=>sp (Bv (!(dec (vZ s.xK (t.qQ[k]!))))) (sp (Bv (!(dec (vZ s.xK (t.qQ[k]!))))) ?_))))
     cases dd:(!(dec (vZ s.xK (t.qQ[k]!))))
     ·replace dd:=xn dd
      replace dd:=yG dd
      refine qJ 67 rfl rfl (sq 1 (qJ 67 rfl rfl (sq 1 (qJ 67 rfl rfl (oF rfl (qJ 67 rfl rfl (oL rfl (H.xP 5 rfl 0 rfl) (qJ 67 rfl rfl (sp (yI k) (qJ 67 rfl rfl (oI rfl rfl (qJ 67 rfl rfl (oL rfl (H.elemBoolN 6 rfl k qf) (qJ 67 rfl rfl (sp (Bv (!(t.qK[k]!))) (qJ 67 rfl rfl (sp (Bv (!(t.qK[k]!))) ?_)))))))))))))))))
      cases zE:(!(t.qK[k]!))
      ·replace zE:=xn zE
       refine xR (zR 77 9) (qJ 67 rfl rfl (sp (Bv false) (sp (Bv false) (zjn (cFr rfl (qV (b_n (t_n (xJ (sp (yI k) (sw (zn k 1 rfl rfl qf (sq 1 (xO (qX (m' :=t.qQ.length - (k+1)) qf ⟨_,k+1,uE3,?_,?_,rfl,H.sel _ (.refl _) _ qm⟩)))))))))))))))
       ·omega
       ·exact i1.succ ‹_› (fun hk=>by simp_all)
      replace zE:=xB zE
      refine qJ 76 rfl rfl (sq 1 (qJ 76 rfl rfl (sq 1 (qJ 76 rfl rfl (oF rfl (qJ 76 rfl rfl (oL rfl (H.xP 5 rfl 1 rfl) (qJ 76 rfl rfl (sp (yI k) (qJ 76 rfl rfl (oI rfl rfl (qJ 76 rfl rfl (oL rfl (H.xP 1 rfl 0 rfl) (qJ 76 rfl rfl (sw (oq (XY _ (t.qQ[k]!) (H.get 0 rfl).1 (by exact vX ql)) H fun rO H=>qJ 76 rfl rfl (sp (Bv (decide ((QS (t.qQ[k]!):Int) > 0))) (qJ 67 rfl rfl (sp (Bv (decide ((QS (t.qQ[k]!):Int) > 0))) (sp (Bv (decide ((QS (t.qQ[k]!):Int) > 0))) (zjn (cD rfl (fun Rn=>?_) (fun Rn=>?_)))))))))))))))))))))))
      ·refine zcr (sp (Bv false) (zjr (zr5 (rH1 (Bv false) H ?_))))
       rw [xh (fun h=>by obtain ⟨h1,h2,h3,h4,h5⟩:=h;(obtain ⟨q1,q2⟩:=h5 k qf;(have:=q2 ql;omega)))]
      refine qV (b_n (t_n (xJ (sp (yI k) (sw (zn k 1 rfl rfl qf (sq 1 (xO (qX (m' :=t.qQ.length - (k+1)) qf ⟨_,k+1,uE3,?_,?_,rfl,H.sel _ (.refl _) _ qm⟩)))))))))
      ·omega
      ·exact i1.succ ‹_› (fun hk=>by omega)
     replace dd:=xB dd
     replace dd:=zM dd
     refine xR (zR 68 19) (sp (Bv true) (zjn (cTr rfl (zcr (sp (Bv false) (zjr (zr5 (rH1 (Bv false) H ?_))))))))
     rw [xh (fun h=>by obtain ⟨h1,h2,h3,h4,h5⟩:=h;(obtain ⟨q1,q2⟩:=h5 k qf;contradiction))]
    refine zx4 (zcr (sp (Bv true) (zjr (rH1 (Bv true) H ?_))))
    obtain rfl:k=t.qQ.length:=by omega
    rw [jH ⟨by omega,by omega,by assumption,by assumption,i1⟩]
   replace h6:=xB h6
   refine vG (zR 34 7) 7 (H) (rtp 41 (Bv true) H ?_)
   refine xw qh (t_n (cTr rfl (zcr (sp (Bv false) (zjr (t_r (rH1 (Bv false) H ?_)))))))
   rw [xh (fun h=>by obtain ⟨h1,h2,h3,h4,h5⟩:=h;(simp_all;done))]
  replace h3:=bne_iff_ne.1 h3
  refine vG (zR 25 7) 7 (H) (rtp 32 (Bv true) H ?_)
  refine rtp 33 (Bv true) H ?_
  refine vG (zR 34 7) 7 (H) (rtp 41 (Bv true) H ?_)
  refine xw qh (t_n (cTr rfl (zcr (sp (Bv false) (zjr (t_r (rH1 (Bv false) H ?_)))))))
  rw [xh (fun h=>by obtain ⟨h1,h2,h3,h4,h5⟩:=h;omega)]
 replace h2:=bne_iff_ne.1 h2
 refine vG (zR 12 11) 11 (H) (rtp 23 (Bv true) H ?_)
 refine rtp 24 (Bv true) H ?_
 refine vG (zR 25 7) 7 (H) (rtp 32 (Bv true) H ?_)
 refine rtp 33 (Bv true) H ?_
 refine vG (zR 34 7) 7 (H) (rtp 41 (Bv true) H ?_)
 refine xw qh (t_n (cTr rfl (zcr (sp (Bv false) (zjr (t_r (rH1 (Bv false) H ?_)))))))
 rw [xh (fun h=>by obtain ⟨h1,h2,h3,h4,h5⟩:=h;omega)]
theorem l02Parent_ok (w:World) (s:qC) (t:qH) (c:Int) (hs:vY w bs os (yS s qG qE qO qN)) (qP:zP w xk qG qE s.qA) (xm:zP w xW qO qN s.qB) (ht:vY w bt ot (yT t xg xf xI xG qZ qY)) (zi:zP w zD xg xf t.qK) (zI:zP w vF xI xG t.qQ) (xM:zP w zh qZ qY t.qL) (p0:jk s) (p1:QU s c) (p2:t.qK.length=s.qA.length):Calls Tryz.prog 193 #[pp bs os,pp bt ot,yI c] w (Ret (fun v w' =>v=yI (xF s t c)) w):=by
 refine en func193 ntmps193 ?_
 have H:=(((((((St.start w).arg xM).arg zI).arg zi).Xr ht).arg xm).arg qP).Xr hs
 have zB:=qM qP
 clear hs qP xm ht zi zI xM
 have p3:=p0.step p1.1 p1.2
 refine zcr (sp (yI 0) (zjc (sq 2 (oF rfl (oL rfl (H.xP 0 rfl 1 rfl) (sp (yI c) ?_))))))
 obtain ⟨b1,o2,rfl⟩:=H.addr 1 rfl qf
 refine oI rfl rfl (oL rfl (H.elemInt 1 rfl c qf qf) (sq 1 (zjn (xQ (qR (zl ((fun Z0 Z1 Z2 Z3 Z4 Z5 Z6=>fun m' ρ w3=>∃ (xE:Env) (y:Int) (n:Nat),ρ=upd (upd (upd (upd xE 0 (pp bs os)) 1 (pp bt ot)) 6 (yI 0)) 7 (yI y)/\(-1<=y/\y<=(s.qA.length:Int) - 1)/\(y < n)/\(xF s t c=climb s.qA t.qK n y)/\m' =(y+1).toNat/\St w w3 [] [Z0,Z1,Z2,Z3,Z4,Z5,Z6]) _ _ _ _ _ _ _) (((s.qA[c.toNat]!)+1).toNat) ⟨_,s.qA[c.toNat]!,s.qA.length,uE4,qf,qf,(by rfl),rfl,H⟩ ?_))))))
 clear H
 rintro m' ρ w4 ⟨xE,y,n,rfl,i0,i1,i2,rfl,H⟩
 have up:=fun h=>p0.step (c:=y) h i0.2
 refine zcc (sp (yI y) (sp (Bv (decide ((y:Int)>=0))) (sp (Bv (decide ((y:Int)>=0))) ?_)))
 cases h5:(decide ((y:Int)>=0))
 ·replace h5:=of_decide_eq_false h5
  refine xR (zR 18 8) (sp (Bv false) (zjn (cFr rfl (zx4 (zcr (sp (yI y) (sp (yI y) (zjr (rH1 (yI y) H ?_)))))))))
  rw [i2,climb_end (by omega)]
 replace h5:=of_decide_eq_true h5
 refine qJ 17 rfl rfl (sq 1 (qJ 17 rfl rfl (sq 1 (qJ 17 rfl rfl (oF rfl (qJ 17 rfl rfl (oL rfl (H.xP 3 rfl 0 rfl) (qJ 17 rfl rfl (sp (yI y) (qJ 17 rfl rfl ?_))))))))))
 obtain ⟨b6,o7,rfl⟩:=H.addr 4 rfl qf
 refine oI rfl rfl (qJ 17 rfl rfl (oL rfl (H.elemBool 4 rfl y qf qf) (qJ 17 rfl rfl (sq 2 (zjn (zT _ rfl (fun h8=>?_) (fun h8=>?_)))))))
 ·replace h8:=xB h8
  refine qV (t_n (qR (xJ (sq 2 (oF rfl (oL rfl (H.xP 0 rfl 1 rfl) (sp (yI y) (oI rfl rfl (oL rfl (H.elemInt 1 rfl y qf qf) (sq 1 (xO (b_n ?_))))))))))))
  have YY:=up qf
  refine qX (m' :=((s.qA[y.toNat]!)+1).toNat) qf ⟨_,(s.qA[y.toNat]!),n - 1,uE4,?_,?_,?_,rfl,H⟩
  ·omega
  ·omega
  ·exact i2.trans (climb_go qf qf ‹_›)
 replace h8:=xn h8
 refine zx4 (zcr (sp (yI y) (sp (yI y) (zjr (rH1 (yI y) H ?_)))))
 rw [i2,climb_end (by simp_all)]
theorem l02Ok_ok (w:World) (s:qC) (hs:vY w bs os (yS s qG qE qO qN)) (qP:zP w xk qG qE s.qA) (xm:zP w xW qO qN s.qB):Calls Tryz.prog 82 #[pp bs os] w (Ret (fun v w' =>v=Bv (dec (ve s))) w):=by
 refine en func82 ntmps82 ?_
 have H:=(((St.start w).arg xm).arg qP).Xr hs
 have zB:=qM qP
 have vP:=qM xm
 clear hs qP xm
 have p1:=fun h:jk s=>h.2.1
 refine zcr (sp (Bv false) (zjcc (sq 1 (sw (oq (l02Frame_ok _ s (qF (H.get 0 rfl) 0 3) (H.get 1 rfl).1 (H.get 2 rfl).1) H fun w1 H=>sp (Bv (!(dec (jk s)))) (sp (Bv (!(dec (jk s)))) ?_))))))
 cases h3:(!(dec (jk s)))
 ·replace h3:=xn h3
  replace h3:=yG h3
  refine qJ 8 rfl rfl (sq 1 (qJ 8 rfl rfl (sq 1 (qJ 8 rfl rfl (oF rfl (qJ 8 rfl rfl (oL rfl (H.xP 0 rfl 2 rfl) (qJ 8 rfl rfl (oN rfl (qJ 8 rfl rfl (sp (Bv (decide ((s.qB.length:Int) > 16))) (sp (Bv (decide ((s.qB.length:Int) > 16))) (zjn (cD rfl (fun h4=>?_) (fun h4=>?_)))))))))))))))
  ·refine zcr (sp (Bv false) (zjr (t_r (rH1 (Bv false) H ?_))))
   rw [xh (fun h=>by obtain ⟨h1,h2,h3⟩:=h;omega)]
  have p2:=p1 ql
  refine qV (t_n (zcr (sq 2 (oF rfl (oL rfl (H.xP 0 rfl 1 rfl) (oN rfl (sw (o_make1 H underlying24 ti2 rfl s.qA.length rfl rfl qf qf fun b5 w6 H=>?_))))))))
  replace H:St _ _ [.box b5 (List.replicate s.qA.length (yI 0)) 2] _:=H
  refine sq 1 (zjcc (sp (yI 0) (zjn (qR ?_))))
  rw [ints_zero,counts_zero] at H
  refine zl ((fun Z0 Z1 Z2=>fun m' ρ w7=>∃ (xE:Env) (k:Nat),ρ=upd (upd (upd xE 0 (pp bs os)) 3 (Sv (aa b5 0) s.qA.length s.qA.length)) 4 (yI k)/\(k<=s.qB.length)/\(RulesTo s k)/\m' =s.qB.length - k/\St w w7 [.box b5 ((counts s k).map (Value.int .i64)) 2] [Z0,Z1,Z2]) _ _ _) (s.qB.length - 0) ⟨_,0,uE3,qf,qx,rfl,H⟩ ?_
  clear H
  rintro m' ρ w8 ⟨xE,k,rfl,i0,i1,rfl,H⟩
  refine zcc (sp (yI k) (sq 2 (oF rfl (oL rfl (H.xP 0 rfl 2 rfl) (oN rfl (sq 1 (zjn (cD rfl (fun h9=>?_) (fun h9=>?_)))))))))
  ·refine qV (t_n (xQ (qR (zcc (sq 3 (oF rfl (oL rfl (H.xP 0 rfl 2 rfl) (sp (yI k) ?_))))))))
   obtain ⟨np,Da,rfl⟩:=H.addr 2 rfl qf
   obtain ⟨GR,Fu,FC,Es,FD,Ey,EN,El,Fp,ED,Eu,DM,JB,Ik,J6,FU,EO,GB,H⟩:=H.jZ 2 rfl k k qf qf qf
   refine oI rfl rfl (sw (oq (l02Rule_ok _ s (s.qB[k]!) (qF (H.get 7 rfl) 0 3) (H.get 8 rfl).1 (H.get 9 rfl).1 (qF (H.get 6 rfl) 0 9) (H.get 0 rfl).1 (H.get 1 rfl).1 (H.get 2 rfl).1 (H.get 3 rfl).1 (H.get 4 rfl).1 (H.get 5 rfl).1 ql) H fun xV H=>sq 1 (zjn (cQ rfl (fun kL=>?_) (fun kL=>?_)))))
   ·refine zcr (sp (Bv false) (zjr (t_r (zr5 (rH1 (Bv false) H ?_)))))
    rw [xh (fun h=>by obtain ⟨h1,h2,h3⟩:=h;(obtain ⟨q1,q2⟩:=h3 k qf;contradiction))]
   have q:=(kL).1
   refine qV (t_n (zcr (sq 3 (oF rfl (oL rfl (H.xP 7 rfl 2 rfl) (sp (yI k) (oI rfl rfl (oF rfl (oL rfl (H.xP 6 rfl 0 rfl) (oI rfl rfl (oL rfl (H.cell 0 rfl (ints_get (by rw [counts_len];omega))) (sw (zn ((counts s k)[((s.qB[k]!).qI:Int).toNat]!) 1 rfl rfl (by ((rw [VK q];have:=ofCell_bd s.qB (s.qB[k]!).qI k;omega))) (oI rfl rfl (sw (o_store1 H 0 rfl (yI (((counts s k)[((s.qB[k]!).qI:Int).toNat]!)+1)) sizeOf2 rfl rfl rfl (ints_lt (by rw [counts_len];omega)) fun yb H=>?_))))))))))))))))
   rw [ints_set] at H
   rw [counts_succ q] at H
   replace H:St _ _ [.box b5 ((counts s (k+1)).map (Value.int .i64)) 2] _:=H
   refine zjc (sq 3 (oF rfl (oL rfl (H.xP 7 rfl 2 rfl) (sp (yI k) (oI rfl rfl (oF rfl (oL rfl (H.xP 6 rfl 0 rfl) (oI rfl rfl (oL rfl (H.cell 0 rfl (ints_get (by rw [counts_len];omega))) (sp (Bv (decide (((counts s (k+1))[((s.qB[k]!).qI:Int).toNat]! :Int) > 8))) (zjn (cD rfl (fun tY=>?_) (fun tY=>?_)))))))))))))
   ·refine zcr (sp (Bv false) (zjr (zr5 (rH1 (Bv false) H ?_))))
    rw [xh (fun h=>by obtain ⟨h1,h2,h3⟩:=h;(obtain ⟨q1,q2⟩:=h3 k qf;(have:=VK (k:=k+1) q;omega)))]
   refine qV (b_n (t_n (xJ (sp (yI k) (sw (zn k 1 rfl rfl (by (omega)) (sq 1 (xO (qX (m' :=s.qB.length - (k+1)) qf ⟨_,k+1,uE3,?_,?_,rfl,H.sel _ (.refl _) _ qm⟩)))))))))
   ·omega
   ·exact i1.succ ‹_› (by have:=VK (k:=k+1) q;omega)
  refine zx4 (zcr (sp (Bv true) (zjr (rH1 (Bv true) H ?_))))
  obtain rfl:k=s.qB.length:=by omega
  rw [jH ⟨by assumption,by omega,i1⟩]
 replace h3:=xB h3
 replace h3:=zM h3
 refine xR (zR 9 6) (sp (Bv true) (zjn (cTr rfl (zcr (sp (Bv false) (zjr (t_r (rH1 (Bv false) H ?_))))))))
 rw [xh (fun h=>by obtain ⟨h1,h2,h3⟩:=h;contradiction)]
end
section
theorem climb_in {s:qC} {t:qH} (hs:jk s) (h0:t.qK[0]! =true):∀ (n:Nat) (c:Int),0<=c->c < n->c<=(s.qA.length:Int) - 1→
 0<=climb s.qA t.qK n c/\climb s.qA t.qK n c<=c/\t.qK[(climb s.qA t.qK n c).toNat]! =true
 | 0,c,h1,h2,h3=>by omega
 | n+1,c,h1,h2,h3=>by
  rw [climb]
  by_cases ha:0<=c/\t.qK[c.toNat]! =false
  ·rw [if_pos ha]
   have hc:0 < c:=by
    rcases Int.lt_or_eq_of_le h1 with h | h
    ·exact h
    ·rw [← h] at ha;simp [h0] at ha
   have hu:=hs.up hc h3
   have:=climb_in hs h0 n (s.qA[c.toNat]!) hu.1 qf qf
   exact ⟨this.1,by omega,this.2.2⟩
  ·rw [if_neg ha]
   refine ⟨h1,Int.le_refl _,?_⟩
   cases hx:t.qK[c.toNat]! with
   | true=>rfl
   | false=>exact absurd ⟨h1,hx⟩ ha
theorem QK (hs:jk s) (h0:t.qK[0]! =true) {c:Int} (h1:0 < c) (h2:c<=(s.qA.length:Int) - 1):0<=xF s t c/\xF s t c < c/\t.qK[(xF s t c).toNat]! =true:=by
 have hu:=hs.up h1 h2
 have:=climb_in hs h0 s.qA.length (s.qA[c.toNat]!) hu.1 qf qf
 exact ⟨this.1,by have:=this.2.1;unfold xF;omega,this.2.2⟩
def melted (s:qC) (t:qH) (c:Int):qH:=
 ⟨t.qK.set c.toNat false,(t.qQ.set (xF s t c).toNat (jT (t.qQ[(xF s t c).toNat]!) (t.qQ[c.toNat]!) 1)).set c.toNat (List.replicate s.xK.toNat 0),t.qL⟩
open Classical in
noncomputable def told (s:qC) (t:qH):qH×Int:=if xZ s t then (t,0) else (default,3)
theorem told_yes (h:xZ s t):told s t=(t,0):=by rw [told,if_pos h]
theorem told_no (h:¬ xZ s t):told s t=(default,3):=by rw [told,if_neg h]
open Classical in
noncomputable def meltRes (s:qC) (t:qH) (c:Int):qH×Int:=
 if cellCodeOf s t c≠0 then (default,cellCodeOf s t c) else if c=0 then (default,4) else told s (melted s t c)
theorem xZ.bagLen (h:xZ s t) (hk:k < t.qQ.length):vZ s.xK (t.qQ[k]!):=(h.2.2.2.2 k hk).1
theorem bagOk_smallT {n:Int} (h:vZ n l) {t:Int} (ht: -1000000<=t/\t<=1000000):SmallT l t:=fun k hk=>by
 have:=h.1.1 k hk
 constructor
 ·have h1: -(1000000 * 1000)<=t * l[k]! :=by
   rcases Int.le_total 0 t with h0 | h0
   ·have:=Int.mul_nonneg h0 this.1;omega
   ·have h2:=Int.mul_le_mul_of_nonneg_left this.2 (show 0<= -t by omega)
    have h3: -t * l[k]! = -(t * l[k]!):=Int.neg_mul ..
    omega
  omega
 ·have h1:t * l[k]! <=1000000 * 1000:=by
   rcases Int.le_total 0 t with h0 | h0
   ·have h2:=Int.mul_le_mul_of_nonneg_left this.2 h0
    omega
   ·have h2:=Int.mul_nonneg (show 0<= -t by omega) this.1
    have h3: -t * l[k]! = -(t * l[k]!):=Int.neg_mul ..
    omega
  omega
theorem xZ.sizes (hs:jk s) (h:xZ s t):t.qK.length<=6/\t.qL.length<=8/\t.qQ.length<=6/\∀ k,k < t.qQ.length->(t.qQ[k]!).length<=8:=
 ⟨by have:=h.1;have:=hs.2.1;omega,h.2.2.2.1.1.2.2,by have:=h.2.1;have:=hs.2.1;omega,fun k hk=>(h.bagLen hk).1.2.2⟩
theorem xZ.add (h:xZ s t) (hj:j < t.qQ.length) (hk:k < t.qQ.length):(t.qQ[j]!).length<=(t.qQ[k]!).length/\Mid (t.qQ[j]!)/\SmallT (t.qQ[k]!) 1:=by
 have h1:=h.bagLen hj
 have h2:=h.bagLen hk
 exact ⟨by have:=h1.2;have:=h2.2;omega,(vX h1).mid,bagOk_smallT h2 qf⟩
theorem drop_get (h:k+1 < l.length):(l.drop 1)[k]! =l[k+1]! :=by
 rw [getElem!_pos (l.drop 1) k (by rw [List.length_drop];omega),getElem!_pos l (k+1) h]
 simp [Nat.add_comm]
theorem lies_up (hs:jk s) {c o:Int} (hc:QU s c):Lies s.qA o c<->0<=s.qA[c.toNat]! /\(s.qA[c.toNat]! =o\/Lies s.qA o (s.qA[c.toNat]!)):=by
 rw [lies_iff]
 rcases Int.lt_or_eq_of_le hc.1 with h | h
 ·have:=hs.up h hc.2
  constructor
  ·rintro ⟨_,h1⟩;exact ⟨this.1,h1⟩
  ·rintro ⟨_,h1⟩;exact ⟨h,h1⟩
 ·subst h
  have:=hs.2.2.1
  simp only [Int.toNat_zero] at *
  constructor
  ·rintro ⟨h1,_⟩;omega
  ·rintro ⟨h1,_⟩;omega
def counts6 (s:qC) (k:Nat):yLI:=(List.range 6).map fun c:Nat=>Vb s.qB (c:Int) k
theorem counts6_len (s:qC) (k:Nat):(counts6 s k).length=6:=by simp [counts6]
theorem counts6_zero (s:qC):([0,0,0,0,0,0]:yLI)=counts6 s 0:=by simp [counts6,List.range_succ,Vb]
theorem VF {c:Int} (h:0<=c) (h1:c<=5):(counts6 s k)[c.toNat]! =Vb s.qB c k:=by
 rw [getElem!_pos _ _ (by rw [counts6_len];omega)]
 simp only [counts6,List.getElem_map,List.getElem_range]
 rw [show ((c.toNat:Nat):Int)=c by omega]
theorem counts6_succ (h:0<=(s.qB[k]!).qI) (h1:(s.qB[k]!).qI<=5):
 (counts6 s k).set (s.qB[k]!).qI.toNat ((counts6 s k)[(s.qB[k]!).qI.toNat]! +1)=counts6 s (k+1):=by
 rw [VF h h1]
 apply List.ext_getElem
 ·simp [counts6]
 ·intro i h1 h2
  rw [List.getElem_set]
  simp only [counts6,List.getElem_map,List.getElem_range,Vb]
  by_cases e:(s.qB[k]!).qI.toNat=i
  ·subst e
   rw [if_pos rfl,if_pos qf,show (((s.qB[k]!).qI.toNat:Nat):Int)=(s.qB[k]!).qI by omega]
  ·rw [if_neg e,if_neg qf];omega
theorem sum_nonneg (h:XA l):0<=QS l:=by
 have:∀ k,k<=l.length->0<=sumTo l k:=fun k=>by
  induction k with
  | zero=>intro _;exact Int.le_refl _
  | succ k ih=>intro hk;have:=ih qf;have:=h.1 k qf;simp only [sumTo];omega
 exact this _ (Nat.le_refl _)
end
section
theorem cloneB_ok (w:World) (l:List Bool) (hl:zP w Fl al cl l) (p0:l.length<=1000000):Calls Tryz.prog 120 #[Sv al l.length cl] w (Ret (fun v w' =>∃ (ra:yOA) (rn:Nat) (rc:Nat),v=Sv ra rn rc/\Fresh w.heap.size []/\St w w' [rr ra rn rc 4 1 (l.map (Value.bool))] []) w):=by
 refine en func120 ntmps120 ?_
 have H:=(St.start w).arg hl
 have Aa:=qM hl
 clear hl
 have N:=Fresh.nil w.heap.size
 refine zcr (sq 1 (zjcc (sq 1 (sw (o_eqnil underlying28 al l.length cl rfl (zjn (zT _ rfl (fun h1=>?_) (fun h1=>?_))))))))
 ·refine zcr (sq 1 (zjr (t_r ?_)))
  replace H:=H.nilRowB 4
  refine rH1 yN H ?_
  obtain rfl:=H.nilOf 0 rfl ‹_›
  exact ⟨none,0,0,rfl,N,H.pick [0] []⟩
 refine qV (t_n (zcr (sw (vW H underlying28 ti4 fun b2 w3 H=>sq 1 ?_))))
 replace H:=H.boxRowB 0 [] 0
 refine sw (o_appendFR H 0 rfl 0 rfl underlying28 ti4 rfl qj rfl rfl qp qf fun a4 c5 w6 us7 G8 H hG9=>?_)
 obtain ⟨_,rfl⟩:=reps_bools (H.get 0 rfl).1
 replace H:=H.sub _ fun f hf=>List.mem_cons_of_mem _ hf
 rw [catB] at H
 refine sq 1 (zjr (rH1 (Sv a4 (0+l.length) c5) H (⟨a4,0+l.length,c5,rfl,N,H.pick [0] []⟩)))
theorem l02Own_ok (w:World) (t:qH) {bt ot:Nat} {xf:Nat} {xG:Nat} {qY:Nat} (ht:vY w bt ot (yT t xg xf xI xG qZ qY)) (zi:zP w zD xg xf t.qK) (zI:zP w vF xI xG t.qQ) (xM:zP w zh qZ qY t.qL) (p0:t.qK.length<=1000000) (p1:t.qL.length<=1000000) (p2:t.qQ.length<=1000000) (p3:∀ k,k < t.qQ.length->(t.qQ[k]!).length<=1000000):Calls Tryz.prog 112 #[pp bt ot] w (Ret (fun v w' =>∃ (mM:yOA) (lP:Nat) (mt:Nat) (rP:yOA) (pP:Nat) (rJ:Nat) (rX:List Value) (qv:yLN) (iM:yOA) (ke:Nat) (iz:Nat),v=.agg #[Sv mM lP mt,Sv rP pP rJ,Sv iM ke iz]/\Fresh w.heap.size [qv]/\St w w' [rr mM lP mt 4 1 (t.qK.map (Value.bool)),rr rP pP rJ 24 1 rX,rr iM ke iz 2 1 (t.qL.map (Value.int .i64))] [xy true qv rX t.qQ]) w):=by
 refine en func112 ntmps112 ?_
 have H:=((((St.start w).arg xM).arg zI).arg zi).Xr ht
 clear ht zi zI xM
 have N:=Fresh.nil w.heap.size
 refine zcr (sw (xq H ti31 [yN,yN,yN] fun b1 w2 H=>zjn (xQ (VP (fun ρ w8=>∃ (xE:Env) (b3:Nat) (a4:yOA) (c5:Nat) (a6:yOA) (c7:Nat),ρ=upd (upd (upd xE 0 (pp bt ot)) 2 (pp b1 0)) 3 (pp b3 0)/\Fresh w.heap.size []/\St w w8 [.box b3 [Sv a4 (0+t.qK.length) c5,yN,Sv a6 t.qL.length c7] 31,rr a6 t.qL.length c7 2 1 (t.qL.map (Value.int .i64)),rr a4 (0+t.qK.length) c5 4 1 ((([]:List Bool)++t.qK).map (Value.bool)),.box b1 [yN,yN,yN] 31] [atF bt ot (yT t xg xf xI xG qZ qY),sF false zD xg xf t.qK,sF false vF xI xG t.qQ,sF false zh qZ qY t.qL]) ?_ ?_))))
 ·refine jE rfl H fun H=>rtl 1 H ?_
  refine rtl 2 H ?_
  refine tF 3 rfl rfl H ?_
  refine tL 4 rfl rfl (fun _ h=>h.xP 0 rfl 0 rfl) H ?_
  refine rtl 6 H ?_
  refine rtl 7 H ?_
  refine tF 8 rfl rfl H ?_
  refine tL 9 rfl rfl (fun _ h=>h.xP 0 rfl 2 rfl) H ?_
  refine vK [0,12] qh qm (jb rfl ?_ (jb rfl ?_ vM))
  ·refine vW H underlying28 ti4 fun np nr H=>⟨H.pick [1] (zR 0 4),(vK [5,12] qh qm (jb rfl ?_ (jb rfl ?_ vM)))⟩
   ·replace H:=H.boxRowB 0 [] 0
    refine o_appendFR H 0 rfl 1 rfl underlying28 ti4 rfl qj rfl rfl qp qf fun BY Ch Et ayH G16 H alv=>?_
    obtain ⟨_,rfl⟩:=reps_bools (H.get 0 rfl).1
    replace H:=H.sub _ fun f hf=>List.mem_cons_of_mem _ hf
    rw [catB] at H
    refine ⟨H.pick [1] (zR 0 4),(vK [10,12] qh qm (jb rfl ?_ (jb rfl ?_ vM)))⟩
    ·refine oc (QZ _ t.qL (H.get 3 rfl).1 qg) ?_
     rintro v23 In r23 x22
     replace H:=H.zH x22 r23
     obtain ⟨a24,u6,rfl,ama,amu⟩:=H.jL 0 rfl
     refine ⟨H.pick [2] (zR 0 4),(vK [11,12] qh qm (jb rfl ?_ (jb rfl ?_ vM)))⟩
     ·refine vU [Sv BY (0+t.qK.length) Ch,yN,Sv a24 t.qL.length u6] [(0,Sv BY (0+t.qK.length) Ch),(2,Sv a24 t.qL.length u6)] (⟨H.pick [2] (zR 0 4),(ro 12 rfl (xq H ti31 [yN,yN,yN] fun wH Dk H=>⟨H.pick [3] (zR 0 4),(ro 13 rfl (xY H 0 [Sv BY (0+t.qK.length) Ch,yN,Sv a24 t.qL.length u6] sizeOf31 fun AP H=>⟨H.pick [3] (zR 0 4),(xw qh ((meet ⟨_,wH,BY,Ch,a24,u6,uE3,N,H⟩)))⟩))⟩))⟩)
     refine xq H ti31 [yN,yN,yN] fun vl Dc H=>⟨H.pick [3] (zR 0 4),(ro 11 rfl (vU [Sv BY (0+t.qK.length) Ch,yN,Sv a24 t.qL.length u6] [(0,Sv BY (0+t.qK.length) Ch),(2,Sv a24 t.qL.length u6)] (⟨H.pick [3] (zR 0 4),(ro 13 rfl (xY H 0 [Sv BY (0+t.qK.length) Ch,yN,Sv a24 t.qL.length u6] sizeOf31 fun CC H=>⟨H.pick [3] (zR 0 4),(xw qh ((meet ⟨_,vl,BY,Ch,a24,u6,uE3,N,H⟩)))⟩))⟩)))⟩
    refine xq H ti31 [yN,yN,yN] fun vr Dr H=>⟨H.pick [2] (zR 0 4),(ro 10 rfl ?_)⟩
    refine oc (QZ _ t.qL (H.get 3 rfl).1 qg) ?_
    rintro v41 E4 r41 x40
    replace H:=H.zH x40 r41
    obtain ⟨HP,Hn,rfl,ae5,ahJ⟩:=H.jL 0 rfl
    refine ⟨H.pick [3] (zR 0 4),(ro 11 rfl (vU [Sv BY (0+t.qK.length) Ch,yN,Sv HP t.qL.length Hn] [(0,Sv BY (0+t.qK.length) Ch),(2,Sv HP t.qL.length Hn)] (⟨H.pick [3] (zR 0 4),(ro 13 rfl (xY H 1 [Sv BY (0+t.qK.length) Ch,yN,Sv HP t.qL.length Hn] sizeOf31 fun C1 H=>⟨H.pick [3] (zR 0 4),(xw qh ((meet ⟨_,vr,BY,Ch,HP,Hn,uE3,N,H.pick [1,0,2,3] (zR 0 4)⟩)))⟩))⟩)))⟩
   refine xq H ti31 [yN,yN,yN] fun RC Pc H=>⟨H.pick [2] (zR 0 4),(ro 5 rfl ?_)⟩
   replace H:=H.boxRowB 1 [] 0
   refine o_appendFR H 1 rfl 1 rfl underlying28 ti4 rfl qj rfl rfl qp qf fun Ed GY w51 aw8 G53 H avh=>?_
   obtain ⟨_,rfl⟩:=reps_bools (H.get 0 rfl).1
   replace H:=H.sub _ fun f hf=>List.mem_cons_of_mem _ hf
   rw [catB] at H
   refine ⟨H.pick [2] (zR 0 4),(ro 10 rfl ?_)⟩
   refine oc (QZ _ t.qL (H.get 3 rfl).1 qg) ?_
   rintro v60 Jp r60 x59
   replace H:=H.zH x59 r60
   obtain ⟨a61,JN,rfl,ajP,alj⟩:=H.jL 0 rfl
   refine ⟨H.pick [3] (zR 0 4),(ro 11 rfl (vU [Sv Ed (0+t.qK.length) GY,yN,Sv a61 t.qL.length JN] [(0,Sv Ed (0+t.qK.length) GY),(2,Sv a61 t.qL.length JN)] (⟨H.pick [3] (zR 0 4),(ro 13 rfl (xY H 1 [Sv Ed (0+t.qK.length) GY,yN,Sv a61 t.qL.length JN] sizeOf31 fun Pm H=>⟨H.pick [3] (zR 0 4),(xw qh ((meet ⟨_,RC,Ed,GY,a61,JN,uE3,N,H.pick [1,0,2,3] (zR 0 4)⟩)))⟩))⟩)))⟩
  refine xq H ti31 [yN,yN,yN] fun b66 P0 H=>⟨H.pick [1] (zR 0 4),(ro 0 rfl (vW H underlying28 ti4 fun b68 HD H=>⟨H.pick [2] (zR 0 4),(ro 5 rfl ?_)⟩))⟩
  replace H:=H.boxRowB 0 [] 0
  refine o_appendFR H 0 rfl 1 rfl underlying28 ti4 rfl qj rfl rfl qp qf fun a70 c71 HE axV G74 H atn=>?_
  obtain ⟨_,rfl⟩:=reps_bools (H.get 0 rfl).1
  replace H:=H.sub _ fun f hf=>List.mem_cons_of_mem _ hf
  rw [catB] at H
  refine ⟨H.pick [2] (zR 0 4),(ro 10 rfl ?_)⟩
  refine oc (QZ _ t.qL (H.get 3 rfl).1 qg) ?_
  rintro v81 LL r81 x80
  replace H:=H.zH x80 r81
  obtain ⟨PU,RM,rfl,axt,av0⟩:=H.jL 0 rfl
  refine ⟨H.pick [3] (zR 0 4),(ro 11 rfl (vU [Sv a70 (0+t.qK.length) c71,yN,Sv PU t.qL.length RM] [(0,Sv a70 (0+t.qK.length) c71),(2,Sv PU t.qL.length RM)] (⟨H.pick [3] (zR 0 4),(ro 13 rfl (xY H 2 [Sv a70 (0+t.qK.length) c71,yN,Sv PU t.qL.length RM] sizeOf31 fun w86 H=>⟨H.pick [3] (zR 0 4),(xw qh ((meet ⟨_,b66,a70,c71,PU,RM,uE3,N,H.pick [2,0,1,3] (zR 0 4)⟩)))⟩))⟩)))⟩
 clear H N
 rintro ρ w87 ⟨xE,b3,a4,c5,a6,c7,rfl,N,H⟩
 refine t_n (zcc (sp (yI 0) (zjn (qR ?_))))
 replace H:=H.nilRow 24 1
 replace H:=H.jo (α:=yLI)
 refine zl ((fun Z0 Z1 Z2 Z3 Z4 Z5 Z6=>fun m' ρ Mn=>∃ (xE:Env) (c:Nat) (yw:yOA) (ji:Nat) (yu:Nat) (au:yLL) (jg:List Value) (zG:yLN),ρ=upd (upd (upd (upd xE 0 (pp bt ot)) 2 (pp b1 0)) 3 (pp b3 0)) 4 (yI c)/\au=t.qQ.take c/\((c:Int)<=t.qQ.length)/\m' =(t.qQ.length - (c:Int)).toNat/\Fresh w.heap.size [zG]/\St w Mn [rr yw ji yu 24 1 jg,.box b3 [Sv a4 (0+t.qK.length) c5,Sv yw ji yu,Sv a6 t.qL.length c7] 31,Z0,Z1,Z2] [xy true zG jg au,Z3,Z4,Z5,Z6]) _ _ _ _ _ _ _) ((t.qQ.length - (0:Int)).toNat) ⟨_,0,none,0,0,([]:yLL),[],[],uE4,(by rfl),qf,rfl,N.emp,H⟩ ?_
 clear H N
 rintro m' ρ w89 ⟨xE,c,yw,ji,yu,au,jg,zG,rfl,rfl,i0,rfl,N,H⟩
 have VE:=H.zg (α:=yLI) 0 rfl 0 rfl qj
 have p4:=p3 c
 rw [List.length_take_of_le qf] at VE
 refine zcc (sp (yI c) (sq 2 (oF rfl (oL rfl (H.xP 1 rfl 1 rfl) (oN rfl (sq 1 (zjn (cD rfl (fun wB=>?_) (fun wB=>?_)))))))))
 ·refine qV (t_n (xQ (qR ?_)))
  obtain ⟨Nx,o92,rfl⟩:=H.addr 3 rfl qf
  refine VP (fun ρ wV=>∃ (xE:Env) (Rx:yOA) (P1:Nat) (a96:yOA) (c97:Nat) (J1:yLN) (F99:yLN) (CK:yOA) (BJ:Nat),ρ=upd (upd (upd (upd xE 0 (pp bt ot)) 2 (pp b1 0)) 3 (pp b3 0)) 4 (yI c)/\Fresh w.heap.size [(zG++J1)]/\St w wV [rr Rx (ji+1) P1 24 1 (jg++[Sv a96 ((t.qQ[c]!).length) c97]),.box b3 [Sv a4 (0+t.qK.length) c5,Sv Rx (ji+1) P1,Sv a6 t.qL.length c7] 31,rr a6 t.qL.length c7 2 1 (t.qL.map (Value.int .i64)),rr a4 (0+t.qK.length) c5 4 1 ((([]:List Bool)++t.qK).map (Value.bool)),.box b1 [yN,yN,yN] 31] [xy true (zG++J1) (jg++[Sv a96 ((t.qQ[c]!).length) c97]) ((t.qQ.take c)++[(t.qQ[c]!)]),sF true J1 a96 c97 (t.qQ[c]!),sF false F99 CK BJ (t.qQ[c]!),atF Nx (o92+(c:Int).toNat * 1) [Sv CK ((t.qQ[c]!).length) BJ],atF bt ot [Sv xg t.qK.length xf,Sv (aa Nx o92) t.qQ.length xG,Sv qZ t.qL.length qY],sF false zD xg xf t.qK,sF false vF (aa Nx o92) xG t.qQ,sF false zh qZ qY t.qL]) ?_ ?_
  ·refine yK rfl H [2,3,4] fun H=>?_
   have S:=H.jm [2,3,4] (zR 0 5)
   refine tF 0 rfl rfl S ?_
   refine rtl 2 S ?_
   refine rtl 3 S ?_
   refine tF 4 rfl rfl S ?_
   refine tL 5 rfl rfl (fun _ h=>h.xP 1 rfl 1 rfl) S ?_
   refine rtp 6 (yI c) S ?_
   obtain ⟨tv,sN,AX,H⟩:=H.zW 3 rfl c c qf qf qf
   refine tI 7 rfl rfl rfl (H.pick [2,3,4] (zR 2 5)) (vK [1,8] qh qm (jb rfl ?_ (jb rfl ?_ vM)))
   ·refine x9 (Sv yw ji yu) isAgg29 rfl (H.cell 1 rfl rfl) (⟨H.pick [2,3,4] (zR 2 5),(ro 8 rfl (x9 (Sv tv ((t.qQ[c]!).length) sN) isAgg24 rfl (H.xP 1 rfl 0 rfl) (⟨H.pick [2,3,4] (zR 2 5),(ro 9 rfl ?_)⟩)))⟩)
    refine oc (QZ _ (t.qQ[c]!) (H.get 0 rfl).1 qg) ?_
    rintro ase abF ahY afc
    replace H:=H.zH afc ahY
    obtain ⟨Ha,Ff,rfl,anF,anX⟩:=H.jL 0 rfl
    refine ⟨H.pick [3,4,5] (zR 2 5),(ro 10 rfl (zf H underlying29 ti24 [Sv Ha ((t.qQ[c]!).length) Ff] fun yp tJ H=>⟨H.pick [4,5,6] (zR 2 5),(ro 11 rfl ?_)⟩))⟩
    obtain ⟨tZ,N,Zi,H⟩:=H.zN 1 rfl N (H.jA [2])
    refine zo H 2 rfl 0 rfl underlying29 ti24 rfl qj rfl rfl rfl qw qp qf fun G9 Fr TF H=>?_
    replace H:=H.yx 3 rfl 0 rfl
    replace N:Fresh w.heap.size [(zG++tZ)]:=(N.pick [1,0]).join
    refine ⟨H.pick [4,5,6] (zR 4 5),(tF 12 rfl rfl (H.pick [4,5,6] (zR 4 5)) ?_)⟩
    refine ro 13 rfl (xH H 3 [Sv a4 (0+t.qK.length) c5,Sv G9 (ji+1) Fr,Sv a6 t.qL.length c7] sizeOf29 fun U4 H=>⟨H.pick [4,5,6] (zR 4 5),(xw qh ((meet ⟨_,G9,Fr,Ha,Ff,tZ,AX,tv,sN,uE4,N,H.pick (zR 2 5) [0,1,2,3,5,6,7,8]⟩)))⟩)
   refine x9 (Sv tv ((t.qQ[c]!).length) sN) isAgg24 rfl (H.xP 1 rfl 0 rfl) (⟨H.pick [2,3,4] (zR 2 5),(vK [1,9] qh qm (jb rfl ?_ (jb rfl ?_ vM)))⟩)
   ·refine x9 (Sv yw ji yu) isAgg29 rfl (H.cell 1 rfl rfl) (⟨H.pick [2,3,4] (zR 2 5),(ro 9 rfl ?_)⟩)
    refine oc (QZ _ (t.qQ[c]!) (H.get 0 rfl).1 qg) ?_
    rintro atJ H7 ala aiF
    replace H:=H.zH aiF ala
    obtain ⟨YU,abp,rfl,aol,aqS⟩:=H.jL 0 rfl
    refine ⟨H.pick [3,4,5] (zR 2 5),(ro 10 rfl (zf H underlying29 ti24 [Sv YU ((t.qQ[c]!).length) abp] fun lq IM H=>⟨H.pick [4,5,6] (zR 2 5),(ro 11 rfl ?_)⟩))⟩
    obtain ⟨SS,N,aqM,H⟩:=H.zN 1 rfl N (H.jA [2])
    refine zo H 2 rfl 0 rfl underlying29 ti24 rfl qj rfl rfl rfl qw qp qf fun TY aba EI H=>?_
    replace H:=H.yx 3 rfl 0 rfl
    replace N:Fresh w.heap.size [(zG++SS)]:=(N.pick [1,0]).join
    refine ⟨H.pick [4,5,6] (zR 4 5),(tF 12 rfl rfl (H.pick [4,5,6] (zR 4 5)) ?_)⟩
    refine ro 13 rfl (xH H 3 [Sv a4 (0+t.qK.length) c5,Sv TY (ji+1) aba,Sv a6 t.qL.length c7] sizeOf29 fun IA H=>⟨H.pick [4,5,6] (zR 4 5),(xw qh ((meet ⟨_,TY,aba,YU,abp,SS,AX,tv,sN,uE4,N,H.pick (zR 2 5) [0,1,2,3,5,6,7,8]⟩)))⟩)
   refine oc (QZ _ (t.qQ[c]!) (H.get 0 rfl).1 qg) ?_
   rintro auh Nn aeQ aje
   replace H:=H.zH aje aeQ
   obtain ⟨HV,JF,rfl,ang,aod⟩:=H.jL 0 rfl
   refine ⟨H.pick [3,4,5] (zR 2 5),(vK [1,10] qh qm (jb rfl ?_ (jb rfl ?_ vM)))⟩
   ·refine x9 (Sv yw ji yu) isAgg29 rfl (H.cell 2 rfl rfl) (⟨H.pick [3,4,5] (zR 2 5),(ro 10 rfl (zf H underlying29 ti24 [Sv HV ((t.qQ[c]!).length) JF] fun pG Kg H=>⟨H.pick [4,5,6] (zR 2 5),(ro 11 rfl ?_)⟩))⟩)
    obtain ⟨ab2,N,amS,H⟩:=H.zN 1 rfl N (H.jA [2])
    refine zo H 2 rfl 0 rfl underlying29 ti24 rfl qj rfl rfl rfl qw qp qf fun ZA T1 acT H=>?_
    replace H:=H.yx 3 rfl 0 rfl
    replace N:Fresh w.heap.size [(zG++ab2)]:=(N.pick [1,0]).join
    refine ⟨H.pick [4,5,6] (zR 4 5),(tF 12 rfl rfl (H.pick [4,5,6] (zR 4 5)) ?_)⟩
    refine ro 13 rfl (xH H 3 [Sv a4 (0+t.qK.length) c5,Sv ZA (ji+1) T1,Sv a6 t.qL.length c7] sizeOf29 fun WU H=>⟨H.pick [4,5,6] (zR 4 5),(xw qh ((meet ⟨_,ZA,T1,HV,JF,ab2,AX,tv,sN,uE4,N,H.pick (zR 2 5) [0,1,2,3,5,6,7,8]⟩)))⟩)
   refine zf H underlying29 ti24 [Sv HV ((t.qQ[c]!).length) JF] fun Ee Ip H=>⟨H.pick [4,5,6] (zR 2 5),(ro 1 rfl (x9 (Sv yw ji yu) isAgg29 rfl (H.cell 3 rfl rfl) (⟨H.pick [4,5,6] (zR 2 5),(ro 11 rfl ?_)⟩)))⟩
   obtain ⟨ab1,N,aoW,H⟩:=H.zN 1 rfl N (H.jA [2])
   refine zo H 2 rfl 0 rfl underlying29 ti24 rfl qj rfl rfl rfl qw qp qf fun ZV Uo Gt H=>?_
   replace H:=H.yx 3 rfl 0 rfl
   replace N:Fresh w.heap.size [(zG++ab1)]:=(N.pick [1,0]).join
   refine ⟨H.pick [4,5,6] (zR 4 5),(tF 12 rfl rfl (H.pick [4,5,6] (zR 4 5)) ?_)⟩
   refine ro 13 rfl (xH H 3 [Sv a4 (0+t.qK.length) c5,Sv ZV (ji+1) Uo,Sv a6 t.qL.length c7] sizeOf29 fun ah7 H=>⟨H.pick [4,5,6] (zR 4 5),(xw qh ((meet ⟨_,ZV,Uo,HV,JF,ab1,AX,tv,sN,uE4,N,H.pick (zR 2 5) [0,1,2,3,5,6,7,8]⟩)))⟩)
  clear H N
  rintro ρ ND ⟨xE,Rx,P1,a96,c97,J1,F99,CK,BJ,rfl,N,H⟩
  refine b_n (t_n (xJ (sp (yI c) (sw (zn c 1 rfl rfl qf (sq 1 (xO (qX (m' :=(t.qQ.length - ((c+1):Int)).toNat) qf ⟨_,c+1,_,_,_,_,_,_,uE4,?_,?_,rfl,N,H.pick (zR 0 5) [0,4,5,6,7]⟩))))))))
  ·exact take_snoc qf
  ·omega
 refine zx4 (zcr (sw (xU [Sv a4 (0+t.qK.length) c5,Sv yw ji yu,Sv a6 t.qL.length c7] isAgg31 sizeOf31 rfl (qF (H.cells 1 rfl) 0 3) (sw (xY H 4 [Sv a4 (0+t.qK.length) c5,Sv yw ji yu,Sv a6 t.qL.length c7] sizeOf31 fun amg H=>zjr (retC H 4 rfl rfl isAgg31 sizeOf31 rfl ⟨_,rfl,?_,H.base⟩))))))
 obtain rfl:c=t.qQ.length:=by omega
 rw [List.take_length] at H
 exact ⟨a4,0+t.qK.length,c5,yw,ji,yu,jg,zG,a6,t.qL.length,c7,rfl,N,H.pick [3,0,2] [0]⟩
end
section
theorem ft {b:Bool} (h:b=true) (h' :b=false):False:=by rw [h] at h';cases h'
theorem getset {α:Type} [Inhabited α] {l:List α} {v:α} (hc:c < l.length):(l.set c v)[p]! =if p=c then v else l[p]! :=by
 by_cases hp:p < l.length
 ·rw [getElem!_pos _ _ (by simpa using hp),getElem!_pos l p hp,List.getElem_set]
  by_cases e:c=p
  ·rw [if_pos e,if_pos e.symm]
  ·rw [if_neg e,if_neg (fun h=>e h.symm)]
 ·rw [if_neg qf,getElem!_neg (l.set c v) p (by simpa using hp),getElem!_neg l p hp]
theorem Vz {t:Int} (hk:k < l.length):(jT l m t)[k]! =l[k]! +t * m[k]! :=by
 rw [getElem!_pos (jT l m t) k (by rw [Qd];exact hk)]
 simp [jT,plusTo]
theorem ext_get {α:Type} [Inhabited α] {l m:List α} (hl:l.length=m.length) (h:∀ k,k < l.length->l[k]! =m[k]!):l=m:=by
 apply List.ext_getElem hl
 intro i h1 h2
 have:=h i h1
 rwa [getElem!_pos l i h1,getElem!_pos m i h2] at this
theorem set_self {α:Type} [Inhabited α] {l:List α} {v:α} (hc:c < l.length) (h:v=l[c]!):l.set c v=l:=by
 refine ext_get qm fun k hk=>?_
 rw [getset hc]
 by_cases e:k=c
 ·rw [if_pos e,e,h]
 ·rw [if_neg e]
theorem plus_zero {t:Int} (ht:t=0):jT l m t=l:=by
 refine ext_get (Qd _ _ _) fun k hk=>?_
 rw [Qd] at hk
 rw [Vz hk,ht];omega
def Shape (n K:Nat) (B:Int) (b:yLL):Prop:=b.length=n/\∀ p,p < n->(b[p]!).length=K/\∀ k,k < K-> -B<=(b[p]!)[k]! /\(b[p]!)[k]! <=B
structure Ent (n K:Nat) (f:Nat->Nat->Int) (B:Int) (b:yLL):Prop where
 sh:Shape n K B b
 eq:∀ p k,p < n->k < K->(b[p]!)[k]! =f p k
def at' (p c:Nat) (x:Int):Int:=if p=c then x else 0
theorem Shape.set (h:Shape n K B b) (hc:c < n) (hv:v.length=K) (hb:∀ k,k < K-> -D<=v[k]! /\v[k]! <=D) (hD:B<=D):Shape n K D (b.set c v):=by
 refine ⟨by simp [h.1],fun p hp=>?_⟩
 rw [getset (by rw [h.1];exact hc)]
 by_cases e:p=c
 ·rw [if_pos e];exact ⟨hv,hb⟩
 ·rw [if_neg e]
  refine ⟨(h.2 p hp).1,fun k hk=>?_⟩
  have:=(h.2 p hp).2 k hk
  omega
theorem Shape.plus (h:Shape n K B b) {t:Int} (hc:c < n) (ht:∀ k,k < K-> -D<=t * m[k]! /\t * m[k]! <=D) (hD:0<=D):
 Shape n K (B+D) (b.set c (jT (b[c]!) m t)):=by
 have h1:=h.2 c hc
 refine h.set hc (by rw [Qd];exact h1.1) (fun k hk=>?_) qf
 rw [Vz (by rw [h1.1];exact hk)]
 have:=h1.2 k hk
 have:=ht k hk
 omega
theorem Shape.row (h:Shape n K B b) (hB:B<=1000000000000000) (hK:K<=8) (hc:c < n):(b[c]!).length=K/\Mid (b[c]!):=by
 have h1:=h.2 c hc
 refine ⟨h1.1,by have:=h1.1;omega,fun k hk=>?_⟩
 have:=h1.2 k (by have:=h1.1;omega)
 omega
theorem Ent.add {f:Nat->Nat->Int} (h:Ent n K f B b) {t:Int} (e:b' =b.set c (jT (b[c]!) m t)) (hc:c < n) (ht:∀ k,k < K-> -D<=t * m[k]! /\t * m[k]! <=D) (hD:0<=D):
 Ent n K (fun p k=>f p k+at' p c (t * m[k]!)) (B+D) b' :=by
 subst e
 refine ⟨h.sh.plus hc ht hD,fun p k hp hk=>?_⟩
 rw [getset (by rw [h.sh.1];exact hc)]
 unfold at'
 by_cases e:p=c
 ·subst e
  rw [if_pos rfl,if_pos rfl,Vz (by rw [(h.sh.2 p hp).1];exact hk),h.eq p k hp hk]
 ·rw [if_neg e,if_neg e,h.eq p k hp hk];omega
theorem Shape.mono (h:Shape n K B b) (hD:B<=D):Shape n K D b:=⟨h.1,fun p hp=>⟨(h.2 p hp).1,fun k hk=>by have:=(h.2 p hp).2 k hk;omega⟩⟩
theorem Ent.to {f g:Nat->Nat->Int} (h:Ent n K f B b) (e:∀ p k,f p k=g p k) (hD:B<=D):Ent n K g D b:=⟨h.sh.mono hD,fun p k hp hk=>(h.eq p k hp hk).trans (e p k)⟩
theorem Ent.same {f g:Nat->Nat->Int} {c:yLL} (h:Ent n K f B b) (h' :Ent n K g D c) (e:∀ p k,p < n->k < K->f p k=g p k):b=c:=by
 refine ext_get (by rw [h.sh.1,h'.sh.1]) fun p hp=>?_
 rw [h.sh.1] at hp
 refine ext_get (by rw [(h.sh.2 p hp).1,(h'.sh.2 p hp).1]) fun k hk=>?_
 rw [(h.sh.2 p hp).1] at hk
 rw [h.eq p k hp hk,h'.eq p k hp hk,e p k hp hk]
def tab2 (n K:Nat) (f:Nat->Nat->Int):yLL:=(List.range n).map fun p=>(List.range K).map (f p)
theorem tab2_len (n K:Nat) (f:Nat->Nat->Int):(tab2 n K f).length=n:=by simp [tab2]
theorem tab2_row {f:Nat->Nat->Int} (hp:p < n):(tab2 n K f)[p]! =(List.range K).map (f p):=by
 rw [getElem!_pos (tab2 n K f) p (by rw [tab2_len];exact hp)];simp [tab2]
theorem Ent.tab {f:Nat->Nat->Int} (h:Ent n K f B b):b=tab2 n K f:=by
 refine ext_get (by rw [h.sh.1,tab2_len]) fun p hp=>?_
 rw [h.sh.1] at hp
 rw [tab2_row hp]
 refine ext_get (by rw [(h.sh.2 p hp).1];simp) fun k hk=>?_
 rw [(h.sh.2 p hp).1] at hk
 rw [h.eq p k hp hk,getElem!_pos ((List.range K).map (f p)) k (by simpa using hk)];simp
theorem Ent.snoc {f:Nat->Nat->Int} (h:Ent n K f B b) (ha:a.length=K) (hb:∀ k,k < K-> -B<=a[k]! /\a[k]! <=B) (he:∀ k,k < K->a[k]! =f n k):Ent (n+1) K f B (b++[a]):=by
 have hl:(b++[a]).length=n+1:=by simp [h.sh.1]
 have h1:∀ p,p < n->(b++[a])[p]! =b[p]! :=fun p hp=>by
  rw [getElem!_pos (b++[a]) p qf,getElem!_pos b p (by rw [h.sh.1];exact hp),List.getElem_append_left]
 have h2:(b++[a])[n]! =a:=by
  rw [getElem!_pos (b++[a]) n qf,List.getElem_append_right (by rw [h.sh.1];exact Nat.le_refl _)];simp
 refine ⟨⟨hl,fun p hp=>?_⟩,fun p k hp hk=>?_⟩
 ·by_cases e:p=n
  ·subst e;rw [h2];exact ⟨ha,hb⟩
  ·rw [h1 p qf];exact h.sh.2 p qf
 ·by_cases e:p=n
  ·subst e;rw [h2];exact he k hk
  ·rw [h1 p qf];exact h.eq p k qf hk
def zt (s:qC):Nat:=s.xK.toNat
abbrev xX (s:qC):Nat:=s.qA.length
def IntoUp (s:qC) (t:qH) (r:vS) (k:Nat):Prop:=∀ j,j < k->t.qK[(r.xe[j]!).qI.toNat]! =true/\xF s t (r.xe[j]!).qI=r.qI
theorem IntoUp.succ (h:IntoUp s t r k) (h1:t.qK[(r.xe[k]!).qI.toNat]! =true) (h2:xF s t (r.xe[k]!).qI=r.qI):IntoUp s t r (k+1):=fun j hj=>by
 by_cases e:j=k
 ·subst e;exact ⟨h1,h2⟩
 ·exact h j qf
def EnOk (s:qC) (t:qH) (r:vS):Prop:=
 t.qK[r.qI.toNat]! =true/\within r.zk (t.qQ[r.qI.toNat]!)=true/\within r.vk (t.qQ[r.qI.toNat]!)=true/\¬ (0 < QS r.vw/\within r.vw (t.qQ[r.qI.toNat]!)=true)/\IntoUp s t r r.xe.length
open Classical in
noncomputable def bestOf (s:qC) (t:qH) (z:Int) (c:Nat):Nat->Int
 | 0=>z
 | k+1=>if EnOk s t (s.qB[k]!)/\(s.qB[k]!).qI.toNat=c then max (bestOf s t z c k) (s.qB[k]!).jG else bestOf s t z c k
noncomputable def bests (s:qC) (t:qH) (z:Int) (n k:Nat):yLI:=tabTo (fun c=>bestOf s t z c k) n
theorem Xz (s:qC) (t:qH) (z:Int) (n k:Nat):(bests s t z n k).length=n:=tabTo_len _ _
theorem tab_get {g:Nat->Int} (h:c < n):(tabTo g n)[c]! =g c:=by
 rw [getElem!_pos (tabTo g n) c (by rw [tabTo_len];exact h)];simp [tabTo]
theorem bests_zero (s:qC) (t:qH) (z:Int) (n:Nat):List.replicate n z=bests s t z n 0:=by
 refine ext_get (by simp [Xz]) fun k hk=>?_
 rw [List.length_replicate] at hk
 rw [bests,tab_get hk,getElem!_pos (List.replicate n z) k (by simpa using hk)];simp [bestOf]
theorem bests_get (h:c < n):(bests s t z n k)[c]! =bestOf s t z c k:=tab_get h
theorem bests_set (h:EnOk s t (s.qB[k]!)) (hc:(s.qB[k]!).qI.toNat < n):
 (bests s t z n k).set (s.qB[k]!).qI.toNat (max ((bests s t z n k)[(s.qB[k]!).qI.toNat]!) (s.qB[k]!).jG)=bests s t z n (k+1):=by
 refine ext_get (by simp [Xz]) fun p hp=>?_
 rw [List.length_set,Xz] at hp
 rw [getset (by rw [Xz];exact hc),bests_get hc,bests_get hp,bests_get hp,bestOf]
 by_cases e:p=(s.qB[k]!).qI.toNat
 ·rw [if_pos e,if_pos ⟨h,e.symm⟩,e]
 ·rw [if_neg e,if_neg fun x=>e x.2.symm]
theorem bests_skip (h:¬ EnOk s t (s.qB[k]!)):bests s t z n k=bests s t z n (k+1):=by
 refine ext_get (by simp [Xz]) fun p hp=>?_
 rw [Xz] at hp
 rw [bests_get hp,bests_get hp,bestOf,if_neg fun x=>h x.1]
def Appl (s:qC) (t:qH) (i:Nat):Prop:=
 EnOk s t (s.qB[i]!)/\∀ j,j < s.qB.length->EnOk s t (s.qB[j]!)->(s.qB[j]!).qI.toNat=(s.qB[i]!).qI.toNat->(s.qB[j]!).jG<=(s.qB[i]!).jG
theorem best_ge {s:qC} {t:qH} {z:Int} {c:Nat}:∀ {k j:Nat},j < k->EnOk s t (s.qB[j]!)->(s.qB[j]!).qI.toNat=c->(s.qB[j]!).jG<=bestOf s t z c k
 | k+1,j,h,h1,h2=>by
  rw [bestOf]
  by_cases e:j=k
  ·subst e;rw [if_pos ⟨h1,h2⟩];omega
  ·have:=best_ge (z:=z) (show j < k by omega) h1 h2
   split <;> omega
theorem best_le {s:qC} {t:qH} {z:Int} {c:Nat} {x:Int} (hz:z<=x):∀ {k:Nat},(∀ j,j < k->EnOk s t (s.qB[j]!)->(s.qB[j]!).qI.toNat=c->(s.qB[j]!).jG<=x)->bestOf s t z c k<=x
 | 0,_=>hz
 | k+1,h=>by
  rw [bestOf]
  have h1:=best_le hz (k:=k) fun j hj=>h j qf
  split
  ·next h2=>have:=h k qf h2.1 h2.2;omega
  ·exact h1
theorem appl_iff (hi:i < s.qB.length) (hz:z<=(s.qB[i]!).jG):
 Appl s t i<->EnOk s t (s.qB[i]!)/\(s.qB[i]!).jG=bestOf s t z (s.qB[i]!).qI.toNat s.qB.length:=by
 constructor
 ·rintro ⟨h1,h2⟩
  refine ⟨h1,?_⟩
  have h3:=best_ge (z:=z) hi h1 rfl
  have h4:=best_le (c:=(s.qB[i]!).qI.toNat) hz (k:=s.qB.length) h2
  omega
 ·rintro ⟨h1,h2⟩
  exact ⟨h1,fun j hj h3 h4=>by rw [h2];exact best_ge hj h3 h4⟩
noncomputable def applB (s:qC) (t:qH) (k m:Nat):List Bool:=(List.range m).map fun j=>if j < k then dec (Appl s t j) else dec (EnOk s t (s.qB[j]!))
theorem applB_len (s:qC) (t:qH) (k m:Nat):(applB s t k m).length=m:=by simp [applB]
theorem applB_get {m:Nat} (h:j < m):(applB s t k m)[j]! =if j < k then dec (Appl s t j) else dec (EnOk s t (s.qB[j]!)):=by
 rw [getElem!_pos (applB s t k m) j (by rw [applB_len];exact h)];simp [applB]
theorem applB_snoc (s:qC) (t:qH) (m:Nat):applB s t 0 m++[dec (EnOk s t (s.qB[m]!))]=applB s t 0 (m+1):=by simp [applB,List.range_succ]
theorem applB_set {m:Nat} {x:Bool} (hk:k < m) (hx:x=dec (Appl s t k)):(applB s t k m).set k x=applB s t (k+1) m:=by
 refine ext_get (by simp [applB_len]) fun p hp=>?_
 rw [List.length_set,applB_len] at hp
 rw [getset (by rw [applB_len];exact hk),applB_get hp,applB_get hp]
 by_cases e:p=k
 ·subst e;rw [if_pos rfl,if_pos qf,hx]
 ·rw [if_neg e]
  by_cases e1:p < k
  ·rw [if_pos e1,if_pos qf]
  ·rw [if_neg e1,if_neg qf]
theorem applB_step0 {m:Nat} (hk:k < m) (h:(applB s t k m)[k]! =false):false=dec (Appl s t k):=by
 rw [applB_get hk,if_neg qf] at h
 exact (xh fun x=>zM h x.1).symm
theorem applB_step1 {m:Nat} (hk:k < m) (h:(applB s t k m)[k]! =true) (hm:m=s.qB.length) (hc:(s.qB[k]!).qI.toNat < n) (hz:z<=(s.qB[k]!).jG) (hi:i=s.qB.length):
 ((s.qB[k]!).jG == (bests s t z n i)[(s.qB[k]!).qI.toNat]!)=dec (Appl s t k):=by
 rw [applB_get hk,if_neg qf] at h
 refine dec_eq ?_
 rw [beq_iff_eq,bests_get hc,hi,appl_iff qf hz]
 exact ⟨fun e=>⟨yG h,e⟩,fun e=>e.2⟩
noncomputable def appl (s:qC) (t:qH):List Bool:=applB s t s.qB.length s.qB.length
theorem appl_len (s:qC) (t:qH):(appl s t).length=s.qB.length:=applB_len _ _ _ _
theorem appl_get (h:j < s.qB.length):(appl s t)[j]! =dec (Appl s t j):=by rw [appl,applB_get h,if_pos h]
theorem QQ (h:j < s.qB.length) (h1:(appl s t)[j]! =true):Appl s t j:=yG (appl_get (s:=s) (t:=t) h▸h1)
theorem Qe (h:j < s.qB.length) (h1:(appl s t)[j]! =false):¬ Appl s t j:=zM (appl_get (s:=s) (t:=t) h▸h1)
def HaltTo (s:qC) (t:qH) (k:Nat):Prop:=∀ j,j < k->¬ Appl s t j
theorem HaltTo.succ (h:HaltTo s t k) (h1:¬ Appl s t k):HaltTo s t (k+1):=fun j hj=>by
 by_cases e:j=k
 ·subst e;exact h1
 ·exact h j qf
abbrev Halted (s:qC) (t:qH):Prop:=HaltTo s t s.qB.length
noncomputable def applL (s:qC) (t:qH) (k:Nat):yLI:=((List.range k).filter fun j=>dec (Appl s t j)).map Int.ofNat
theorem applL_yes (h:Appl s t k):applL s t k++[(k:Int)]=applL s t (k+1):=by simp [applL,List.range_succ,List.filter_append,jH h]
theorem applL_no (h:¬ Appl s t k):applL s t k=applL s t (k+1):=by simp [applL,List.range_succ,List.filter_append,xh h]
noncomputable def appls (s:qC) (t:qH):yLI:=applL s t s.qB.length
theorem applL_le (s:qC) (t:qH) (k:Nat):(applL s t k).length<=k:=by
 have:=List.length_filter_le (fun j=>dec (Appl s t j)) (List.range k)
 simpa [applL] using this
theorem mem_applL {x:Int}:x∈applL s t k<->0<=x/\x.toNat < k/\Appl s t x.toNat:=by
 simp only [applL,List.mem_map,List.mem_filter,List.mem_range]
 constructor
 ·rintro ⟨j,⟨h1,h2⟩,rfl⟩
  exact ⟨Int.natCast_nonneg j,h1,yG h2⟩
 ·rintro ⟨h0,h1,h2⟩
  exact ⟨x.toNat,⟨h1,jH h2⟩,by show ((x.toNat:Nat):Int)=x;omega⟩
theorem ve.rule (h:ve s) (hi:i < s.qB.length):RuleOk s (s.qB[i]!):=(h.2.2 i hi).1
theorem RuleOk.cell (h:RuleOk s r):r.qI.toNat < xX s:=by have:=h.1.1;have:=h.1.2;unfold xX;omega
theorem vZ.len (h:vZ s.xK l):l.length=zt s:=by have:=h.2;unfold zt;omega
theorem vZ.get {n:Int} (h:vZ n l) (hk:k < l.length):0<=l[k]! /\l[k]! <=1000:=h.1.1 k hk
theorem vZ.mul (h:vZ s.xK m) {t:Int} (ht: -1000<=t/\t<=1000):∀ k,k < zt s-> -1000000<=t * m[k]! /\t * m[k]! <=1000000:=fun k hk=>by
 have h1:=h.1.1 k (by rw [h.len];exact hk)
 rcases Int.le_total 0 t with h0 | h0
 ·have h2:=Int.mul_nonneg h0 h1.1
  have h3:=Int.mul_le_mul_of_nonneg_left h1.2 h0
  omega
 ·have h2:=Int.mul_nonneg (show 0<= -t by omega) h1.1
  have h3:=Int.mul_le_mul_of_nonneg_left h1.2 (show 0<= -t by omega)
  have h4: -t * m[k]! = -(t * m[k]!):=Int.neg_mul ..
  omega
theorem vZ.yQ (h:vZ s.xK m) {t:Int} (ht: -1000<=t/\t<=1000):SmallT m t:=bagOk_smallT h qf
theorem kinds_le (h:ve s):zt s<=8:=by have:=h.1.1.2;unfold zt;omega
theorem xZ.shape (h:xZ s t):Shape (xX s) (zt s) 1000 t.qQ:=by
 refine ⟨h.2.1,fun p hp=>?_⟩
 have hb:=h.bagLen (k:=p) (by rw [h.2.1];exact hp)
 refine ⟨hb.len,fun k hk=>?_⟩
 have:=hb.get (k:=k) (by rw [hb.len];exact hk)
 omega
def Vu (s:qC) (counts:yLI):Prop:=counts.length=s.qB.length/\∀ i,i < counts.length->0<=counts[i]! /\counts[i]! <=1000
theorem Vu.bd {counts:yLI} (h:Vu s counts) (hi:i < s.qB.length):0<=counts[i]! /\counts[i]! <=1000:=h.2 i (by rw [h.1];exact hi)
def Qb (s:qC) (t:qH) (counts:yLI):Nat->yLL
 | 0=>t.qQ
 | k+1=>(Qb s t counts k).set (s.qB[k]!).qI.toNat (jT ((Qb s t counts k)[(s.qB[k]!).qI.toNat]!) (s.qB[k]!).zk (-(counts[k]!)))
def needF (s:qC) (counts:yLI) (i p k:Nat):Int:=at' p (s.qB[i]!).qI.toNat (-(counts[i]!) * ((s.qB[i]!).zk)[k]!)
def Vl (s:qC) (counts:yLI):Nat->Nat->Nat->Int
 | 0,_,_=>0
 | i+1,p,k=>Vl s counts i p k+needF s counts i p k
theorem restR_ent {s:qC} {t:qH} {counts:yLI} (hs:ve s) (ht:xZ s t) (hc:Vu s counts):∀ k,k<=s.qB.length→
 Ent (xX s) (zt s) (fun p q=>(t.qQ[p]!)[q]! +Vl s counts k p q) (1000+1000000 * k) (Qb s t counts k)
 | 0,_=>⟨by simpa [Qb] using ht.shape,fun p k hp hk=>by simp [Qb,Vl]⟩
 | k+1,h=>by
  have hr:=hs.rule (i:=k) qf
  have hcb:=hc.bd (i:=k) qf
  refine ((restR_ent hs ht hc k qf).add (D:=1000000) rfl hr.cell (hr.2.2.2.2.1.mul qf) qf).to (fun p q=>?_) qf
  show _=_+(Vl s counts k p q+needF s counts k p q)
  unfold needF;omega
theorem restR_row {counts:yLI} (hs:ve s) (ht:xZ s t) (hc:Vu s counts) (hk:k<=s.qB.length) (h:c < xX s):
 ((Qb s t counts k)[c]!).length=zt s/\Mid ((Qb s t counts k)[c]!):=(restR_ent hs ht hc k hk).sh.row (by have:=hs.2.1;omega) (kinds_le hs) h
theorem restR_len {s:qC} {t:qH} {counts:yLI}:∀ k,(Qb s t counts k).length=t.qQ.length
 | 0=>rfl
 | k+1=>by rw [Qb,List.length_set];exact restR_len k
theorem restR_skip {counts:yLI} (hs:ve s) (ht:xZ s t) (hk:k < s.qB.length) (h:counts[k]! =0):Qb s t counts (k+1)=Qb s t counts k:=by
 rw [Qb,plus_zero qf]
 exact set_self (by rw [restR_len,ht.2.1];exact (hs.rule hk).cell) rfl
open Classical in
noncomputable def XF (P:Nat->Prop):Nat->Nat
 | 0=>0
 | n+1=>if XF P n < n then XF P n else if P n then n else n+1
theorem stop_none {P:Nat->Prop}:∀ {n:Nat},(∀ j,j < n->¬ P j)->XF P n=n
 | 0,_=>rfl
 | n+1,h=>by rw [XF,stop_none (n:=n) (fun j hj=>h j qf),if_neg qf,if_neg (h n qf)]
theorem stop_first {P:Nat->Prop}:∀ {n k:Nat},(∀ j,j < k->¬ P j)->k < n->P k->XF P n=k
 | n+1,k,h,hk,hp=>by
  rw [XF]
  by_cases e:k=n
  ·subst e;rw [stop_none h,if_neg qf,if_pos hp]
  ·rw [stop_first (n:=n) h qf hp,if_pos qf]
def BadAt (s:qC) (t:qH) (counts:yLI) (i:Nat):Prop:=0 < counts[i]! /\¬ Appl s t i
def GoodTo (s:qC) (t:qH) (counts:yLI) (k:Nat):Prop:=∀ i,i < k->¬ BadAt s t counts i
theorem GoodTo.succ {counts:yLI} (h:GoodTo s t counts k) (h1:¬ BadAt s t counts k):GoodTo s t counts (k+1):=fun j hj=>by
 by_cases e:j=k
 ·subst e;exact h1
 ·exact h j qf
def NonNeg (b:yLL) (n:Nat):Prop:=∀ p,p < n->∀ k,k < (b[p]!).length->0<=(b[p]!)[k]!
theorem NonNeg.succ (h:NonNeg b n) (h1:∀ k,k < (b[n]!).length->0<=(b[n]!)[k]!):NonNeg b (n+1):=fun j hj=>by
 by_cases e:j=n
 ·subst e;exact h1
 ·exact h j qf
def IsCh (s:qC) (t:qH) (counts:yLI):Prop:=GoodTo s t counts counts.length/\NonNeg (Qb s t counts counts.length) t.qQ.length
def IsMost (s:qC) (t:qH) (counts:yLI):Prop:=IsCh s t counts/\∀ i,i < s.qB.length->Appl s t i->within (s.qB[i]!).zk ((Qb s t counts counts.length)[(s.qB[i]!).qI.toNat]!)=false
def Qp (l m:yLI):Nat->Int
 | 0=>1000
 | k+1=>if 0 < l[k]! then min (Qp l m k) (m[k]! / l[k]!) else Qp l m k
def jR (l m:yLI):Int:=Qp l m l.length
theorem timesTo_pos (h:0 < l[k]!):Qp l m (k+1)=min (Qp l m k) (m[k]! / l[k]!):=by rw [Qp,if_pos h]
theorem timesTo_skip (h:¬ 0 < l[k]!):Qp l m (k+1)=Qp l m k:=by rw [Qp,if_neg h]
theorem timesTo_bd {l m:yLI} (hm:∀ k,k < l.length->0<=m[k]!):∀ k,k<=l.length->0<=Qp l m k/\Qp l m k<=1000
 | 0,_=>by simp [Qp]
 | k+1,h=>by
  have:=timesTo_bd hm k qf
  rw [Qp]
  split
  ·next h1=>have:=Int.ediv_nonneg (hm k qf) (show 0<=l[k]! by omega);omega
  ·exact this
theorem timesTo_le {l m:yLI}:∀ {k j:Nat},j < k->0 < l[j]! ->Qp l m k<=m[j]! / l[j]!
 | k+1,j,h,h1=>by
  rw [Qp]
  by_cases e:j=k
  ·subst e;rw [if_pos h1];omega
  ·have:=timesTo_le (m:=m) (show j < k by omega) h1
   split <;> omega
theorem timesL_left (hl:∀ k,k < l.length->0<=l[k]!) (hm:∀ k,k < l.length->0<=m[k]!) (hk:k < l.length):0<=m[k]! + -(jR l m) * l[k]! :=by
 rcases Int.lt_or_eq_of_le (hl k hk) with h | h
 ·have h1:=timesTo_le (m:=m) hk h
  have h2:m[k]! / l[k]! * l[k]! <=m[k]! :=Int.ediv_mul_le _ qf
  have h3:=Int.mul_le_mul_of_nonneg_right h1 (show 0<=l[k]! by omega)
  have h4: -(jR l m) * l[k]! = -(jR l m * l[k]!):=Int.neg_mul ..
  unfold jR at *
  omega
 ·rw [← h];have:=hm k hk;omega
def Xn (l m:yLI) (i:Nat) (dc:Int):Prop:=(dc=Qp l m i/\∃ j,j < i/\0 < l[j]!)\/(dc= -1/\Qp l m i=1000/\∀ j,j < i->l[j]! <=0)
theorem Xn.zero (l m:yLI):Xn l m 0 (-1):=.inr ⟨rfl,rfl,fun j hj=>by omega⟩
theorem Xn.take (h:Xn l m i dc) (hm:0<=m[i]! /\m[i]! <=1000) (hl:0 < l[i]!) (hb:dc < 0\/m[i]! / l[i]! < dc) (hn:0<=Qp l m i):Xn l m (i+1) (m[i]! / l[i]!):=by
 refine .inl ⟨?_,i,by omega,hl⟩
 rw [timesTo_pos hl]
 have h1:m[i]! / l[i]! <=m[i]! :=Int.ediv_le_self _ hm.1
 rcases h with ⟨h,_⟩ | ⟨h,h2,_⟩ <;> omega
theorem Xn.keep (h:Xn l m i dc) (hl:¬ 0 < l[i]!):Xn l m (i+1) dc:=by
 unfold Xn
 rw [timesTo_skip hl]
 rcases h with ⟨h,j,h1,h2⟩ | ⟨h,h2,h3⟩
 ·exact .inl ⟨h,j,by omega,h2⟩
 ·refine .inr ⟨h,h2,fun j hj=>?_⟩
  by_cases e:j=i
  ·subst e;omega
  ·exact h3 j qf
theorem Xn.keep2 (h:Xn l m i dc) (hl:0 < l[i]!) (hb:¬ dc < 0) (hn:¬ m[i]! / l[i]! < dc):Xn l m (i+1) dc:=by
 refine .inl ⟨?_,i,by omega,hl⟩
 rw [timesTo_pos hl]
 rcases h with ⟨h,_⟩ | ⟨h,_⟩ <;> omega
theorem Xn.done (h:Xn l m i dc) (hp:∃ j,j < i/\0 < l[j]!):dc=Qp l m i:=by
 rcases h with ⟨h,_⟩ | ⟨_,_,h3⟩
 ·exact h
 ·obtain ⟨j,h1,h2⟩:=hp
  have:=h3 j h1;omega
theorem sum_pos (h:XA l) (h1:QS l≠0):∃ j,j < l.length/\0 < l[j]! :=by
 apply Classical.byContradiction
 intro hn
 have h0:∀ k,k<=l.length->sumTo l k=0:=by
  intro k
  induction k with
  | zero=>intro _;rfl
  | succ k ih=>
   intro hk
   have h2:=h.1 k qf
   have h3:¬ 0 < l[k]! :=fun h4=>hn ⟨k,by omega,h4⟩
   rw [sumTo,ih qf];omega
 exact h1 (h0 _ (Nat.le_refl _))
def Box (n K:Nat) (b:yLL):Prop:=b.length=n/\∀ p,p < n->(b[p]!).length=K/\∀ k,k < K->0<=(b[p]!)[k]! /\(b[p]!)[k]! <=1000
theorem xZ.box (h:xZ s t):Box (xX s) (zt s) t.qQ:=by
 refine ⟨h.2.1,fun p hp=>?_⟩
 have hb:=h.bagLen (k:=p) (by rw [h.2.1];exact hp)
 exact ⟨hb.len,fun k hk=>hb.get (by rw [hb.len];exact hk)⟩
theorem parentNow_root (hs:jk s):xF s t 0= -1:=by
 unfold xF
 rw [show s.qA[(0:Int).toNat]! = -1 from hs.2.2.1]
 exact climb_end fun h=>by omega
def outPl (s:qC) (t:qH) (r:vS):Nat:=if r.qI=0 then xX s else (xF s t r.qI).toNat
theorem outPl_root (h:r.qI=0):outPl s t r=xX s:=by rw [outPl,if_pos h]
theorem outPl_up (h:r.qI≠0):outPl s t r=(xF s t r.qI).toNat:=by rw [outPl,if_neg h]
def Xq (r:vS) (c:Int):Nat->Nat->Nat->Int
 | 0,_,_=>0
 | j+1,p,k=>Xq r c j p k+at' p (r.xe[j]!).qI.toNat (c * ((r.xe[j]!).Qa)[k]!)
def putF (s:qC) (t:qH) (r:vS) (c:Int) (p k:Nat):Int:=at' p r.qI.toNat (c * r.zS[k]!)+at' p (outPl s t r) (c * r.jX[k]!)+Xq r c r.xe.length p k
def putS (s:qC) (t:qH) (counts:yLI):Nat->Nat->Nat->Int
 | 0,_,_=>0
 | i+1,p,k=>putS s t counts i p k+putF s t (s.qB[i]!) (counts[i]!) p k
def allS (s:qC) (t:qH) (counts:yLI):Nat->Nat->Nat->Int
 | 0,_,_=>0
 | i+1,p,k=>allS s t counts i p k+needF s counts i p k+putF s t (s.qB[i]!) (counts[i]!) p k
theorem allS_eq (s:qC) (t:qH) (counts:yLI) (p k:Nat):∀ i,allS s t counts i p k=Vl s counts i p k+putS s t counts i p k
 | 0=>rfl
 | i+1=>by
  have:=allS_eq s t counts p k i
  simp only [allS,Vl,putS]
  omega
theorem at_zero (p c:Nat) (x:Int):at' p c (0 * x)=0:=by unfold at';split <;> simp
theorem intoF_zero (r:vS) (p k:Nat):∀ j,Xq r 0 j p k=0
 | 0=>rfl
 | j+1=>by rw [Xq,intoF_zero r p k j,at_zero];rfl
theorem putF_zero (s:qC) (t:qH) (r:vS) {c:Int} (h:c=0) (p k:Nat):putF s t r c p k=0:=by
 subst h;rw [putF,at_zero,at_zero,intoF_zero];rfl
theorem putS_skip {counts:yLI} (h:counts[i]! =0) (p k:Nat):putS s t counts (i+1) p k=putS s t counts i p k:=by
 rw [putS,putF_zero s t _ h];omega
def base0 (s:qC) (t:qH) (p k:Nat):Int:=if p < xX s then (t.qQ[p]!)[k]! else t.qL[k]!
def XG (s:qC) (t:qH) (counts:yLI) (p k:Nat):Int:=base0 s t p k+allS s t counts s.qB.length p k
noncomputable def xA (s:qC) (t:qH) (counts:yLI):qH:=
 ⟨t.qK,(tab2 (xX s+1) (zt s) (XG s t counts)).take (xX s),(tab2 (xX s+1) (zt s) (XG s t counts))[xX s]!⟩
theorem xZ.around (h:xZ s t):t.qL.length=zt s/\∀ k,k < zt s->0<=t.qL[k]! /\t.qL[k]! <=1000:=by
 have hb:=h.2.2.2.1
 exact ⟨hb.len,fun k hk=>hb.get (by rw [hb.len];exact hk)⟩
theorem start_ent {counts:yLI} (ht:xZ s t):Ent (xX s+1) (zt s) (fun p k=>base0 s t p k+allS s t counts 0 p k) 1000 (t.qQ++[t.qL]):=by
 have h1:Ent (xX s) (zt s) (fun p k=>base0 s t p k+allS s t counts 0 p k) 1000 t.qQ:=⟨ht.shape,fun p k hp hk=>by simp [base0,hp,allS]⟩
 refine h1.snoc ht.around.1 (fun k hk=>by have:=ht.around.2 k hk;omega) fun k hk=>?_
 simp [base0,allS]
theorem rest_ent {counts:yLI} (hs:ve s) (ht:xZ s t) (hc:Vu s counts):
 Ent (xX s+1) (zt s) (fun p k=>base0 s t p k+Vl s counts s.qB.length p k+putS s t counts 0 p k) (1000+1000000 * s.qB.length) (Qb s t counts s.qB.length++[t.qL]):=by
 have h1:Ent (xX s) (zt s) (fun p k=>base0 s t p k+Vl s counts s.qB.length p k+putS s t counts 0 p k) (1000+1000000 * s.qB.length) (Qb s t counts s.qB.length):=by
  have h0:=restR_ent hs ht hc _ (Nat.le_refl _)
  exact ⟨h0.sh,fun p k hp hk=>by rw [h0.eq p k hp hk];simp [base0,hp,putS]⟩
 refine h1.snoc ht.around.1 (fun k hk=>by have:=ht.around.2 k hk;omega) fun k hk=>?_
 have h2:∀ i,i<=s.qB.length->Vl s counts i (xX s) k=0:=by
  intro i
  induction i with
  | zero=>intro _;rfl
  | succ i ih=>
   intro hi
   have:=(hs.rule (i:=i) qf).cell
   rw [Vl,ih qf,needF,at',if_neg qf];rfl
 rw [h2 _ (Nat.le_refl _)]
 simp [base0,putS]
theorem step_tab {counts:yLI} (h:Ent (xX s+1) (zt s) (fun p k=>base0 s t p k+allS s t counts s.qB.length p k) B b):
 b.take (xX s)=(xA s t counts).qQ/\b[xX s]! =(xA s t counts).qL:=by
 have e:=h.tab
 constructor
 ·show _=(tab2 _ _ _).take _
  rw [e];rfl
 ·show _=(tab2 _ _ _)[_]!
  rw [e];rfl
theorem step_tab2 {counts:yLI} (hb:b.length=xX s) (h:Ent (xX s+1) (zt s) (fun p k=>base0 s t p k+Vl s counts s.qB.length p k+putS s t counts s.qB.length p k) B (b++[a])):
 b=(xA s t counts).qQ/\a=(xA s t counts).qL:=by
 have h1:=step_tab (h.to (g:=fun p k=>base0 s t p k+allS s t counts s.qB.length p k) (fun p k=>by rw [allS_eq];omega) (Int.le_refl _))
 rw [← hb,List.take_left] at h1
 refine ⟨h1.1,?_⟩
 rw [← h1.2,getElem!_pos (b++[a]) b.length qm,List.getElem_append_right (Nat.le_refl _)];simp
theorem cat_set (hc:c < b.length):(b++[a]).set c v=b.set c v++[a]:=List.set_append_left c v hc
theorem cat_setN (h:b.length=n):(b++[a]).set n v=b++[v]:=by
 rw [List.set_append_right _ _ qf,h];simp
theorem cat_get (hc:c < b.length):(b++[a])[c]! =b[c]! :=by
 rw [getElem!_pos (b++[a]) c qy,getElem!_pos b c hc,List.getElem_append_left hc]
theorem cat_getN (h:b.length=n):(b++[a])[n]! =a:=by
 rw [getElem!_pos (b++[a]) n qy,List.getElem_append_right qf];simp [h]
theorem Ent.addL {f:Nat->Nat->Int} (h:Ent (n+1) K f B (b++[a])) {t:Int} (e:b' =b.set c (jT (b[c]!) m t)) (hb:b.length=n) (hc:c < n) (ht:∀ k,k < K-> -D<=t * m[k]! /\t * m[k]! <=D) (hD:0<=D):
 Ent (n+1) K (fun p k=>f p k+at' p c (t * m[k]!)) (B+D) (b' ++[a]):=
 h.add (by rw [e,← cat_set qf,cat_get qf]) qf ht hD
theorem Ent.addN {f:Nat->Nat->Int} (h:Ent (n+1) K f B (b++[a])) {t:Int} {a' :yLI} (e:a' =jT a m t) (hb:b.length=n) (ht:∀ k,k < K-> -D<=t * m[k]! /\t * m[k]! <=D) (hD:0<=D):
 Ent (n+1) K (fun p k=>f p k+at' p n (t * m[k]!)) (B+D) (b++[a']):=
 h.add (by rw [e,cat_setN hb,cat_getN hb]) qf ht hD
theorem Ent.rowL {f:Nat->Nat->Int} (h:Ent (n+1) K f B (b++[a])) (hb:b.length=n) (hB:B<=1000000000000000) (hK:K<=8) (hc:c < n):(b[c]!).length=K/\Mid (b[c]!):=by
 have:=h.sh.row hB hK (c:=c) qf
 rwa [cat_get qf] at this
theorem Ent.rowN {f:Nat->Nat->Int} (h:Ent (n+1) K f B (b++[a])) (hb:b.length=n) (hB:B<=1000000000000000) (hK:K<=8):a.length=K/\Mid a:=by
 have:=h.sh.row hB hK (c:=n) qf
 rwa [cat_getN hb] at this
def Q9 (s:qC) (counts:yLI) (c:Int) (k:Nat):Prop:=∃ i,i < k/\0 < counts[i]! /\(s.qB[i]!).vg=true/\(s.qB[i]!).qI=c
theorem melts_zero (s:qC) (counts:yLI) (c:Int):¬ Q9 s counts c 0:=fun ⟨i,h,_⟩=>by omega
theorem melts_succ {counts:yLI} {c:Int}:Q9 s counts c (k+1)<->Q9 s counts c k\/(0 < counts[k]! /\(s.qB[k]!).vg=true/\(s.qB[k]!).qI=c):=by
 constructor
 ·rintro ⟨i,h,h1⟩
  by_cases e:i=k
  ·subst e;exact .inr h1
  ·exact .inl ⟨i,by omega,h1⟩
 ·rintro (⟨i,h,h1⟩ | h)
  ·exact ⟨i,by omega,h1⟩
  ·exact ⟨k,by omega,h⟩
theorem melts_1 {counts:yLI} {c:Int} (h:dec (Q9 s counts c k)=true):true=dec (Q9 s counts c (k+1)):=(jH (melts_succ.2 (.inl (yG h)))).symm
theorem melts_2 {counts:yLI} {c:Int} (h:dec (Q9 s counts c k)=false) (h1:¬ counts[k]! > 0):false=dec (Q9 s counts c (k+1)):=
 (xh fun x=>(melts_succ.1 x).elim (zM h) fun y=>h1 y.1).symm
theorem melts_3 {counts:yLI} {c:Int} (h:dec (Q9 s counts c k)=false) (h1:(s.qB[k]!).vg=false):false=dec (Q9 s counts c (k+1)):=
 (xh fun x=>(melts_succ.1 x).elim (zM h) fun y=>ft y.2.1 h1).symm
theorem melts_4 {counts:yLI} {c:Int} (h:dec (Q9 s counts c k)=false) (h1:counts[k]! > 0) (h2:(s.qB[k]!).vg=true):((s.qB[k]!).qI == c)=dec (Q9 s counts c (k+1)):=by
 refine dec_eq ?_
 rw [beq_iff_eq,melts_succ]
 exact ⟨fun e=>.inr ⟨h1,h2,e⟩,fun x=>x.elim (fun y=>absurd y (zM h)) fun y=>y.2.2⟩
abbrev Melts (s:qC) (counts:yLI) (c:Int):Prop:=Q9 s counts c s.qB.length
noncomputable def Qv (s:qC) (counts:yLI) (n k:Nat):List Bool:=(List.range n).map fun c:Nat=>dec (Q9 s counts (c:Int) k)
theorem meltsL_len (s:qC) (counts:yLI) (n k:Nat):(Qv s counts n k).length=n:=by simp [Qv]
theorem meltsL_get {counts:yLI} (h:c < n):(Qv s counts n k)[c]! =dec (Q9 s counts (c:Int) k):=by
 rw [getElem!_pos (Qv s counts n k) c (by rw [meltsL_len];exact h)];simp [Qv]
theorem meltsL_zero (s:qC) (counts:yLI) (n:Nat):List.replicate n false=Qv s counts n 0:=by
 refine ext_get (by simp [meltsL_len]) fun k hk=>?_
 rw [List.length_replicate] at hk
 rw [meltsL_get hk,xh (melts_zero _ _ _),getElem!_pos (List.replicate n false) k (by simpa using hk)];simp
theorem meltsL_set {counts:yLI} (h0:0<=(s.qB[k]!).qI) (h:(s.qB[k]!).qI.toNat < n) {x:Bool} (hx:x=true<->((Qv s counts n k)[(s.qB[k]!).qI.toNat]! =true\/(0 < counts[k]! /\(s.qB[k]!).vg=true))):
 (Qv s counts n k).set (s.qB[k]!).qI.toNat x=Qv s counts n (k+1):=by
 refine ext_get (by simp [meltsL_len]) fun p hp=>?_
 rw [List.length_set,meltsL_len] at hp
 rw [getset (by rw [meltsL_len];exact h),meltsL_get hp,meltsL_get hp]
 rw [meltsL_get h] at hx
 by_cases e:p=(s.qB[k]!).qI.toNat
 ·rw [if_pos e]
  refine dec_eq (hx.trans ?_)
  rw [melts_succ,e,show (((s.qB[k]!).qI.toNat:Nat):Int)=(s.qB[k]!).qI by omega]
  constructor
  ·rintro (h1 | h1)
   ·exact .inl (yG h1)
   ·exact .inr ⟨h1.1,h1.2,rfl⟩
  ·rintro (h1 | h1)
   ·exact .inl (jH h1)
   ·exact .inr ⟨h1.1,h1.2.1⟩
 ·rw [if_neg e]
  refine dec_congr ?_
  rw [melts_succ]
  constructor
  ·exact .inl
  ·rintro (h1 | ⟨_,_,h1⟩)
   ·exact h1
   ·exfalso;omega
open Classical in
noncomputable def xC (s:qC) (counts:yLI) (u:qH):Nat->qH
 | 0=>u
 | j+1=>if Melts s counts ((xX s:Int) - 1 - j) then melted s (xC s counts u j) ((xX s:Int) - 1 - j) else xC s counts u j
theorem meltDown_yes {counts:yLI} {c:Int} (h:Melts s counts c) (hc:c=(xX s:Int) - 1 - j):xC s counts u (j+1)=melted s (xC s counts u j) c:=by subst hc;rw [xC,if_pos h]
theorem meltDown_no {counts:yLI} {c:Int} (h:¬ Melts s counts c) (hc:c=(xX s:Int) - 1 - j):xC s counts u (j+1)=xC s counts u j:=by subst hc;rw [xC,if_neg h]
theorem QB {counts:yLI} {c:Int} (h:dec (Q9 s counts c i)=true) (hi:i=s.qB.length) (hc:c=(xX s:Int) - 1 - j):xC s counts u (j+1)=melted s (xC s counts u j) c:=by subst hi;exact meltDown_yes (yG h) hc
theorem meltDown_no' {counts:yLI} {c:Int} (h:dec (Q9 s counts c i)=false) (hi:i=s.qB.length) (hc:c=(xX s:Int) - 1 - j):xC s counts u (j+1)=xC s counts u j:=by subst hi;exact meltDown_no (zM h) hc
theorem Qk (s:qC) (counts:yLI) (u:qH):∀ j,(xC s counts u j).qL=u.qL
 | 0=>rfl
 | j+1=>by
  rw [xC]
  split
  ·exact Qk s counts u j
  ·exact Qk s counts u j
structure Live (s:qC) (B:Int) (u:qH):Prop where
 alive:u.qK.length=xX s
 root:u.qK[0]! =true
 bags:Shape (xX s) (zt s) B u.qQ
 around:u.qL.length=zt s
theorem Live.melt (hs:ve s) (h:Live s B u) (hB:0<=B) {c:Int} (h0:0 < c) (h1:c<=(xX s:Int) - 1):Live s (2 * B) (melted s u c):=by
 have hp:=QK (t:=u) hs.1 h.root h0 h1
 have hpc:(xF s u c).toNat < xX s:=by omega
 have sB:c.toNat < xX s:=by omega
 refine ⟨by simp [melted,h.alive],?_,?_,h.around⟩
 ·show (u.qK.set c.toNat false)[0]! =true
  rw [getset (by rw [h.alive];exact sB),if_neg qf];exact h.root
 ·have hr:=(h.bags.2 _ sB).2
  have h2:=h.bags.plus (m:=u.qQ[c.toNat]!) (t:=1) (D:=B) hpc (fun k hk=>by have:=hr k hk;omega) hB
  refine (h2.set (D:=B+B) sB (by simp [zt]) (fun k hk=>?_) qf).mono qf
  rw [getElem!_pos (List.replicate s.xK.toNat (0:Int)) k (by simpa [zt] using hk)]
  simp;omega
def bnd:Nat->Int
 | 0=>200000000
 | j+1=>2 * bnd j
theorem bnd_pos:∀ j,0<=bnd j
 | 0=>by simp [bnd]
 | j+1=>by have:=bnd_pos j;simp only [bnd];omega
theorem bnd_mono:∀ {i j:Nat},i<=j->bnd i<=bnd j
  | i, 0, h => by obtain rfl : i = 0 := by omega
                  exact Int.le_refl _
  | i,j+1,h=>by
    by_cases e:i=j+1
    · subst e;exact Int.le_refl _
    · have:=bnd_mono (show i<=j by omega)
      have:=bnd_pos j
      simp only [bnd];omega
theorem bnd_le (h:j<=6):bnd j<=12800000000:=Int.le_trans (bnd_mono h) (by simp [bnd])
theorem Live.mono {s:qC} {B D:Int} {u:qH} (h:Live s B u) (hD:B<=D):Live s D u:=⟨h.alive,h.root,h.bags.mono hD,h.around⟩
theorem stepped_live {counts:yLI} (ht:xZ s t) (h:Ent (xX s+1) (zt s) (fun p k=>base0 s t p k+allS s t counts s.qB.length p k) B b) (hB:B<=200000000):Live s (bnd 0) (xA s t counts):=by
 have h1:=step_tab h
 have hr:=h.sh.2 (xX s) qf
 refine ⟨ht.1,ht.2.2.1,?_,by rw [← h1.2];exact hr.1⟩
 rw [← h1.1]
 refine ⟨by rw [List.length_take,h.sh.1];omega,fun p hp=>?_⟩
 have e:(b.take (xX s))[p]! =b[p]! :=by
  rw [getElem!_pos (b.take (xX s)) p (by rw [List.length_take,h.sh.1];omega),getElem!_pos b p (by rw [h.sh.1];omega)];simp
 rw [e]
 have:=h.sh.2 p qf
 exact ⟨this.1,fun k hk=>by have:=this.2 k hk;simp only [bnd];omega⟩
theorem meltDown_live {s:qC} {counts:yLI} {u:qH} (hs:ve s) (h:Live s (bnd 0) u):∀ j,j+1<=xX s->Live s (bnd j) (xC s counts u j)
 | 0,_=>h
 | j+1,hj=>by
  have ih:=meltDown_live (counts:=counts) hs h j qf
  by_cases hm:Melts s counts ((xX s:Int) - 1 - j)
  ·rw [meltDown_yes hm rfl];exact ih.melt hs (bnd_pos j) qf qf
  ·rw [meltDown_no hm rfl];exact ih.mono (bnd_mono qf)
theorem Live.rows (hs:ve s) (h:Live s B u) (hB:B<=12800000000) (hp:p < xX s) (hc:c < xX s):
 (u.qQ[p]!).length<=(u.qQ[c]!).length/\Mid (u.qQ[p]!)/\SmallT (u.qQ[c]!) 1:=by
 have h1:=h.bags.row qf (kinds_le hs) hp
 have h2:=h.bags.row qf (kinds_le hs) hc
 refine ⟨by omega,h1.2,fun k hk=>?_⟩
 have:=h2.2.2 k hk
 omega
noncomputable def stepRes (s:qC) (t:qH) (counts:yLI):qH×Int:=told s (xC s counts (xA s t counts) (xX s - 1))
open Classical in
noncomputable def vV (s:qC) (t:qH) (counts:yLI):qH×Int:=if IsCh s t counts then stepRes s t counts else (default,4)
theorem XX {counts:yLI} (h:IsCh s t counts):vV s t counts=stepRes s t counts:=by rw [vV,if_pos h]
theorem stepBy_no {counts:yLI} (h:¬ IsCh s t counts):vV s t counts=(default,4):=by rw [vV,if_neg h]
end
section
variable {cl cm bs os qE qN bt ot xf xG qY : Nat}
theorem l00Max_ok (w:World) (a:Int) (b:Int):Calls Tryz.prog 110 #[yI a,yI b] w (Ret (fun v w' =>v=yI (max a b)) w):=by
 refine en func110 ntmps110 ?_
 have H:=St.start w
 refine zcr (sp (yI 0) (zjcc (sp (yI a) (sp (yI b) (sq 1 (zjn (cD rfl (fun h1=>?_) (fun h1=>?_))))))))
 ·refine zcr (sp (yI a) (sp (yI a) (zjr (t_r (rH1 (yI a) H (congrArg (Value.int .i64) ?_))))))
  omega
 refine qV (t_n (zcr (sp (yI b) (sp (yI b) (zjr (rH1 (yI b) H (congrArg (Value.int .i64) ?_)))))))
 omega
theorem VJ (w:World) (l:yLI) (m:yLI) (hl:zP w Fl al cl l) (hm:zP w Fm am cm m) (p0:l.length<=m.length):Calls Tryz.prog 104 #[Sv al l.length cl,Sv am m.length cm] w (Ret (fun v w' =>v=Bv (within l m)) w):=by
 refine en func104 ntmps104 ?_
 have H:=((St.start w).arg hm).arg hl
 have Aa:=qM hl
 have Yo:=qM hm
 clear hl hm
 have N:=Fresh.nil w.heap.size
 refine zcr (sp (Bv false) (zjcc (sp (yI 0) (zjn (qR (zl ((fun Z0 Z1=>fun m' ρ w1=>∃ (xE:Env) (i:Nat),ρ=upd (upd (upd xE 0 (Sv al l.length cl)) 1 (Sv am m.length cm)) 5 (yI i)/\((i:Int)<=l.length)/\(Vw l m i)/\m' =(l.length - (i:Int)).toNat/\Fresh w.heap.size []/\St w w1 [] [Z0,Z1]) _ _) ((l.length - (0:Int)).toNat) ⟨_,0,uE3,qf,(by exact withinTo_zero l m),rfl,N,H⟩ ?_))))))
 clear H N
 rintro m' ρ w2 ⟨xE,i,rfl,i0,i1,rfl,N,H⟩
 refine zcc (sp (yI i) (sq 1 (oN rfl (sq 1 (zjn (cD rfl (fun h3=>?_) (fun h3=>?_)))))))
 ·refine qV (t_n (xQ (qR (xQ (jE rfl H fun H=>rtl 0 H ?_)))))
  refine rtp 1 (yI i) H ?_
  obtain ⟨b5,o6,rfl⟩:=H.addr 0 rfl qf
  refine tI 2 rfl rfl rfl H ?_
  refine tL 3 rfl rfl (fun _ h=>h.zA 0 rfl i qf) H ?_
  refine rtl 4 H ?_
  refine rtp 5 (yI i) H ?_
  obtain ⟨b8,o9,rfl⟩:=H.addr 1 rfl qf
  refine tI 6 rfl rfl rfl H ?_
  refine tL 7 rfl rfl (fun _ h=>h.zA 1 rfl i qf) H ?_
  refine rtl 8 H ?_
  refine xw qh (t_n (cD rfl (fun aU=>?_) (fun aU=>?_)))
  ·refine zcr (sp (Bv false) (zjr (zr5 (rH1 (Bv false) H ?_))))
   rw [within_no (k:=i) ‹_› qf]
  refine qV (b_n (t_n (xJ (sp (yI i) (sw (zn i 1 rfl rfl qf (sq 1 (xO (qX (m' :=(l.length - ((i+1):Int)).toNat) qf ⟨_,i+1,uE3,?_,?_,rfl,N,H⟩)))))))))
  ·omega
  ·exact withinTo_succ ‹_› qf
 refine zx4 (zcr (sp (Bv true) (zjr (rH1 (Bv true) H ?_))))
 rw [within_yes ‹_› qf]
theorem l01Times_ok (w:World) (l:yLI) (m:yLI) (hl:zP w Fl al cl l) (hm:zP w Fm am cm m) (p0:l.length<=m.length) (p2:∀ k,k < l.length->0<=m[k]! /\m[k]! <=1000) (p3:∃ j,j < l.length/\0 < l[j]!):Calls Tryz.prog 222 #[Sv al l.length cl,Sv am m.length cm] w (Ret (fun v w' =>v=yI (jR l m)) w):=by
 refine en func222 ntmps222 ?_
 have H:=((St.start w).arg hm).arg hl
 have Aa:=qM hl
 have Yo:=qM hm
 clear hl hm
 have N:=Fresh.nil w.heap.size
 refine zcr (sp (yI 0) (zjc (sq 1 (zjcc (sp (yI 0) (zjn (qR (zl ((fun Z0 Z1=>fun m' ρ w1=>∃ (xE:Env) (dc:Int) (i:Nat),ρ=upd (upd (upd (upd xE 0 (Sv al l.length cl)) 1 (Sv am m.length cm)) 5 (yI dc)) 6 (yI i)/\((i:Int)<=l.length)/\(Xn l m i dc)/\m' =(l.length - (i:Int)).toNat/\Fresh w.heap.size []/\St w w1 [] [Z0,Z1]) _ _) ((l.length - (0:Int)).toNat) ⟨_,(-1),0,uE4,qf,(by exact Xn.zero l m),rfl,N,H⟩ ?_))))))))
 clear H N
 rintro m' ρ w2 ⟨xE,dc,i,rfl,i0,i1,rfl,N,H⟩
 refine zcc (sp (yI i) (sq 1 (oN rfl (sq 1 (zjn (cD rfl (fun h3=>?_) (fun h3=>?_)))))))
 ·refine qV (t_n (xQ (qR (xQ (jE rfl H fun H=>rtl 0 H ?_)))))
  refine rtp 1 (yI i) H ?_
  obtain ⟨b5,o6,rfl⟩:=H.addr 0 rfl qf
  refine tI 2 rfl rfl rfl H ?_
  refine tL 3 rfl rfl (fun _ h=>h.zA 0 rfl i qf) H ?_
  refine rtp 4 (Bv (decide ((l[i]! :Int) > 0))) H ?_
  refine rtp 5 (Bv (decide ((l[i]! :Int) > 0))) H ?_
  cases h8:(decide ((l[i]! :Int) > 0))
  ·replace h8:=of_decide_eq_false h8
   refine vG (zR 6 15) 15 (H) (rtp 21 (Bv false) H ?_)
   refine xw qh (t_n (cFr rfl (qV (b_n (t_n (xJ (sp (yI i) (sw (zn i 1 rfl rfl (by (have:=p2 i qf;omega)) (sq 1 (xO (qX (m' :=(l.length - ((i+1):Int)).toNat) qf ⟨_,_,i+1,uE4,?_,?_,rfl,N,H⟩))))))))))))
   ·omega
   ·exact i1.keep qf
  replace h8:=of_decide_eq_true h8
  refine rgl 6 18 H ?_
  refine rgp 7 (Bv (decide ((dc:Int) < 0))) 18 H ?_
  refine rgp 8 (Bv (decide ((dc:Int) < 0))) 18 H ?_
  cases h9:(decide ((dc:Int) < 0))
  ·replace h9:=of_decide_eq_false h9
   refine rgl 9 21 H ?_
   refine rgp 10 (yI i) 21 H ?_
   obtain ⟨np,Da,rfl⟩:=H.addr 1 rfl qf
   refine gI 11 rfl rfl rfl H ?_
   refine gL 12 rfl rfl (fun _ h=>h.zA 1 rfl i qf) H ?_
   refine rgl 13 21 H ?_
   refine rgp 14 (yI i) 21 H ?_
   refine gI 15 rfl rfl rfl H ?_
   refine gL 16 rfl rfl (fun _ h=>h.zA 0 rfl i qf) H ?_
   refine rg 17 _ 21 (y_quo (m[i]!) (l[i]!) rfl rfl (by (have:=p2 i qf;omega)) (by (have:=p2 i qf;omega))) H ?_
   refine rgl 18 21 H ?_
   refine rgl 19 21 H ?_
   refine rgl 20 18 H ?_
   refine rtl 21 H ?_
   refine xw qh (t_n (cD rfl (fun ir=>?_) (fun ir=>?_)))
   ·refine jE rfl H fun H=>rtl 0 H ?_
    refine rtp 1 (yI i) H ?_
    refine tI 2 rfl rfl rfl H ?_
    refine tL 3 rfl rfl (fun _ h=>h.zA 1 rfl i qf) H ?_
    refine rtl 4 H ?_
    refine rtp 5 (yI i) H ?_
    refine tI 6 rfl rfl rfl H ?_
    refine tL 7 rfl rfl (fun _ h=>h.zA 0 rfl i qf) H ?_
    refine rt 8 _ (y_quo (m[i]!) (l[i]!) rfl rfl (by (have:=p2 i qf;omega)) (by (have:=p2 i qf;omega))) H ?_
    refine rtl 9 H ?_
    refine xw qh (b_n (t_n (xJ (sp (yI i) (sw (zn i 1 rfl rfl (by (have:=p2 i qf;omega)) (sq 1 (xO (qX (m' :=(l.length - ((i+1):Int)).toNat) qf ⟨_,_,i+1,uE4,?_,?_,rfl,N,H⟩)))))))))
    ·omega
    ·exact i1.take (p2 i qf) qf qf (timesTo_bd (fun k hk=>(p2 k hk).1) i qf).1
   refine qV (b_n (t_n (xJ (sp (yI i) (sw (zn i 1 rfl rfl (by (have:=p2 i qf;omega)) (sq 1 (xO (qX (m' :=(l.length - ((i+1):Int)).toNat) qf ⟨_,_,i+1,uE4,?_,?_,rfl,N,H⟩)))))))))
   ·omega
   ·exact i1.keep2 qf qf qf
  replace h9:=of_decide_eq_true h9
  refine vG (zR 9 11) 11 (H) (rgp 20 (Bv true) 18 H ?_)
  refine rtp 21 (Bv true) H ?_
  refine xw qh (t_n (cTr rfl ((jE rfl H fun H=>rtl 0 H ?_))))
  refine rtp 1 (yI i) H ?_
  obtain ⟨Dh,o17,rfl⟩:=H.addr 1 rfl qf
  refine tI 2 rfl rfl rfl H ?_
  refine tL 3 rfl rfl (fun _ h=>h.zA 1 rfl i qf) H ?_
  refine rtl 4 H ?_
  refine rtp 5 (yI i) H ?_
  refine tI 6 rfl rfl rfl H ?_
  refine tL 7 rfl rfl (fun _ h=>h.zA 0 rfl i qf) H ?_
  refine rt 8 _ (y_quo (m[i]!) (l[i]!) rfl rfl (by (have:=p2 i qf;omega)) (by (have:=p2 i qf;omega))) H ?_
  refine rtl 9 H ?_
  refine xw qh (b_n (t_n (xJ (sp (yI i) (sw (zn i 1 rfl rfl (by (have:=p2 i qf;omega)) (sq 1 (xO (qX (m' :=(l.length - ((i+1):Int)).toNat) qf ⟨_,_,i+1,uE4,?_,?_,rfl,N,H⟩)))))))))
  ·omega
  ·exact i1.take (p2 i qf) qf qf (timesTo_bd (fun k hk=>(p2 k hk).1) i qf).1
 refine zx4 (zcr (sq 2 (zjr (rH1 (yI dc) H ?_))))
 obtain rfl:i=l.length:=by omega
 rw [i1.done p3];rfl
theorem l03Both_ok (w:World) (s:qC) (t:qH) (hs:vY w bs os (yS s qG qE qO qN)) (qP:zP w xk qG qE s.qA) (xm:zP w xW qO qN s.qB) (ht:vY w bt ot (yT t xg xf xI xG qZ qY)) (zi:zP w zD xg xf t.qK) (zI:zP w vF xI xG t.qQ) (xM:zP w zh qZ qY t.qL):Calls Tryz.prog 60 #[pp bs os,pp bt ot] w (Ret (fun v w' =>v=Bv (dec (ve s/\xZ s t))) w):=by
 refine en func60 ntmps60 ?_
 have H:=(((((((St.start w).arg xM).arg zI).arg zi).Xr ht).arg xm).arg qP).Xr hs
 clear hs qP xm ht zi zI xM
 refine zcr (sp (Bv false) (zjc (sq 1 (sw (oq (l02Ok_ok _ s (qF (H.get 0 rfl) 0 3) (H.get 1 rfl).1 (H.get 2 rfl).1) H fun w1 H=>sp (Bv (dec (ve s))) ?_)))))
 cases h3:(dec (ve s))
 ·replace h3:=zM h3
  refine xR [8,9,10] (sp (Bv false) (sp (Bv false) (zjr (rH1 (Bv false) H ?_))))
  rw [xh (fun h=>‹¬ ve s› h.1)]
 replace h3:=yG h3
 refine qJ 7 rfl rfl (sq 1 (qJ 7 rfl rfl (sq 1 (qJ 7 rfl rfl (sw (oq (l02State_ok _ s t (qF (H.get 0 rfl) 0 3) (H.get 1 rfl).1 (H.get 2 rfl).1 (qF (H.get 3 rfl) 0 3) (H.get 4 rfl).1 (H.get 5 rfl).1 (H.get 6 rfl).1 (by exact (And.left (by assumption:ve _)))) H fun w4 H=>sq 2 (zjr (rH1 (Bv (dec (xZ s t))) H (congrArg Value.bool (dec_eq ?_))))))))))
 exact ⟨fun h=>⟨‹_›,yG h⟩,fun h=>jH h.2⟩
theorem l03Enabled_ok (w:World) (s:qC) (t:qH) (r:vS) (hs:vY w bs os (yS s qG qE qO qN)) (qP:zP w xk qG qE s.qA) (xm:zP w xW qO qN s.qB) (ht:vY w bt ot (yT t xg xf xI xG qZ qY)) (zi:zP w zD xg xf t.qK) (zI:zP w vF xI xG t.qQ) (xM:zP w zh qZ qY t.qL) (hr:vY w br or [yI r.qI,yI r.jG,Sv Xf r.zk.length Xb,Sv Xi r.vk.length Xe,Sv Xg r.vw.length Xc,Sv Xh r.zS.length Xd,Sv bP r.jX.length bN,Sv Qy r.xe.length Qm,Bv r.vg]) (XM:zP w e8 Xf Xb r.zk) (XQ:zP w eA Xi Xe r.vk) (XN:zP w eL Xg Xc r.vw) (XP:zP w eG Xh Xd r.zS) (dJ:zP w j6 bP bN r.jX) (XO:zP w eW Qy Qm r.xe) (p0:ve s) (p1:xZ s t) (p2:RuleOk s r):Calls Tryz.prog 188 #[pp bs os,pp bt ot,pp br or] w (Ret (fun v w' =>v=Bv (dec (EnOk s t r))) w):=by
 refine en func188 ntmps188 ?_
 have H:=((((((((((((((St.start w).arg XO).arg dJ).arg XP).arg XN).arg XQ).arg XM).Xr hr).arg xM).arg zI).arg zi).Xr ht).arg xm).arg qP).Xr hs
 have y9:=qM zI
 have mz:=qM XO
 clear hs qP xm ht zi zI xM hr XM XQ XN XP dJ XO
 have N:=Fresh.nil w.heap.size
 have p3:=p2.1
 have p4:=p1.1
 have p5:=p1.2.1
 have p6:=(p1.bagLen (k:=r.qI.toNat) qf).len
 have p7:=p2.2.2.2.2.1.len
 have p8:=p2.2.2.2.2.2.1.len
 have p9:=p2.2.2.2.2.2.2.1.len
 have p10:=vX p2.2.2.2.2.2.2.1
 have p11:=p0.1
 have wi:=p2.2.2.2.2.2.2.2.2.2.2
 refine zcr (sp (Bv false) (zjn (xQ (xQ (jE rfl H fun H=>rtl 0 H ?_)))))
 refine rtl 1 H ?_
 refine tF 2 rfl rfl H ?_
 refine tL 3 rfl rfl (fun _ h=>h.xP 3 rfl 0 rfl) H ?_
 refine rtl 4 H ?_
 refine rtl 5 H ?_
 refine tF 6 rfl rfl H ?_
 refine tL 7 rfl rfl (fun _ h=>h.xP 7 rfl 0 rfl) H ?_
 obtain ⟨b2,o3,rfl⟩:=H.addr 4 rfl qf
 refine tI 8 rfl rfl rfl H ?_
 refine tL 9 rfl rfl (fun _ h=>h.elemBool 4 rfl r.qI qf qf) H ?_
 refine rtl 10 H ?_
 refine xw qh (t_n (zT _ rfl (fun h5=>?_) (fun h5=>?_)))
 ·replace h5:=xB h5
  refine zcr (sp (Bv false) (zjr (t_r (rH1 (Bv false) H ?_))))
  rw [xh (fun h=>by obtain ⟨h1,h2,h3,h4,h5⟩:=h;exact ft h1 ‹_›)]
 replace h5:=xn h5
 refine qV (t_n (xQ (jE rfl H fun H=>rtl 0 H ?_)))
 refine rtl 1 H ?_
 refine tF 2 rfl rfl H ?_
 refine tL 3 rfl rfl (fun _ h=>h.xP 3 rfl 1 rfl) H ?_
 refine rtl 4 H ?_
 refine rtl 5 H ?_
 refine tF 6 rfl rfl H ?_
 refine tL 7 rfl rfl (fun _ h=>h.xP 7 rfl 0 rfl) H ?_
 obtain ⟨b7,o8,rfl⟩:=H.addr 5 rfl qf
 obtain ⟨PE,O8,ajr,H⟩:=H.zW 5 rfl r.qI r.qI.toNat qf qf qf
 refine tI 8 rfl rfl rfl (H.pick [] (zR 2 14)) (ro 9 rfl (x9 (Sv PE ((t.qQ[r.qI.toNat]!).length) O8) isAgg24 rfl (H.xP 1 rfl 0 rfl) (⟨H.pick [] (zR 2 14),(rtl 10 (H.pick [] (zR 2 14)) ?_)⟩)))
 refine xw qh (t_n (zcc (sq 2 (oF rfl (oL rfl (H.xP 9 rfl 2 rfl) (sq 1 (sw (oq (VJ _ r.zk (t.qQ[r.qI.toNat]!) (H.get 10 rfl).1 (H.get 0 rfl).1 qg) H fun uE H=>sp (Bv (!(within r.zk (t.qQ[r.qI.toNat]!)))) (sp (Bv (!(within r.zk (t.qQ[r.qI.toNat]!)))) ?_)))))))))
 cases dO:(!(within r.zk (t.qQ[r.qI.toNat]!)))
 ·replace dO:=xn dO
  refine qJ 38 rfl rfl (sq 1 (qJ 38 rfl rfl (sq 1 (qJ 38 rfl rfl (oF rfl (qJ 38 rfl rfl (oL rfl (H.xP 9 rfl 3 rfl) (qJ 38 rfl rfl (sq 1 (qJ 38 rfl rfl (sw (oq (VJ _ r.vk (t.qQ[r.qI.toNat]!) (H.get 11 rfl).1 (H.get 0 rfl).1 qg) H fun yb H=>qJ 38 rfl rfl (sp (Bv (!(within r.vk (t.qQ[r.qI.toNat]!)))) (sp (Bv (!(within r.vk (t.qQ[r.qI.toNat]!)))) (sp (Bv (!(within r.vk (t.qQ[r.qI.toNat]!)))) ?_)))))))))))))))
  cases dd:(!(within r.vk (t.qQ[r.qI.toNat]!)))
  ·replace dd:=xn dd
   refine qJ 47 rfl rfl (sq 1 (qJ 47 rfl rfl (sq 1 (qJ 47 rfl rfl (oF rfl (qJ 47 rfl rfl (oL rfl (H.xP 9 rfl 4 rfl) (qJ 47 rfl rfl (sw (oq (XY _ r.vw (H.get 12 rfl).1 (by assumption)) H fun s0 H=>qJ 47 rfl rfl (sp (Bv (decide ((QS r.vw:Int) > 0))) (qJ 47 rfl rfl (sp (Bv (decide ((QS r.vw:Int) > 0))) ?_)))))))))))))
   cases lN:(decide ((QS r.vw:Int) > 0))
   ·replace lN:=of_decide_eq_false lN
    refine xR (zR 55 6) (qJ 47 rfl rfl (sp (Bv false) (sp (Bv false) (zjn (cFr rfl (qV (t_n (zcc (sp (yI 0) (zjn (qR (zl ((fun Z0 Z1 Z2 Z3 Z4 Z5 Z6 Z7 Z8 Z9 bx bG dy fj ix oS=>fun m' ρ Hu=>∃ (xE:Env) (i:Nat),ρ=upd (upd (upd (upd xE 0 (pp bs os)) 1 (pp bt ot)) 2 (pp br or)) 8 (yI i)/\((i:Int)<=r.xe.length)/\(IntoUp s t r i)/\m' =(r.xe.length - (i:Int)).toNat/\Fresh w.heap.size []/\St w Hu [] [Z0,Z1,Z2,Z3,Z4,Z5,Z6,Z7,Z8,Z9,bx,bG,dy,fj,ix,oS]) _ _ _ _ _ _ _ _ _ _ _ _ _ _ _ _) ((r.xe.length - (0:Int)).toNat) ⟨_,0,uE4,qf,qx,rfl,N,H⟩ ?_))))))))))))
    clear H N
    rintro m' ρ wT ⟨xE,i,rfl,i0,i1,rfl,N,H⟩
    refine zcc (sp (yI i) (sq 2 (oF rfl (oL rfl (H.xP 9 rfl 7 rfl) (oN rfl (sq 1 (zjn (cD rfl (fun pg=>?_) (fun pg=>?_)))))))))
    ·have q:=(wi i qf).1
     have q1:=q.1
     refine qV (t_n (xQ (qR (zcr (sq 2 (oF rfl (oL rfl (H.xP 9 rfl 7 rfl) (sp (yI i) ?_))))))))
     obtain ⟨LI,o26,rfl⟩:=H.addr 15 rfl qf
     obtain ⟨adD,ad5,ad9,H⟩:=H.yJ 15 rfl i i qf qf qf
     refine oI rfl rfl (oF rfl (oL rfl (H.xP 1 rfl 0 rfl) (sq 1 (zjn (xQ (jE rfl H fun H=>rtl 0 H ?_))))))
     refine rtl 1 H ?_
     refine tF 2 rfl rfl H ?_
     refine tL 3 rfl rfl (fun _ h=>h.xP 7 rfl 0 rfl) H ?_
     refine rtl 4 H ?_
     refine tI 5 rfl rfl rfl H ?_
     refine tL 6 rfl rfl (fun _ h=>h.elemBool 8 rfl ((r.xe[i]!).qI) qf qf) H ?_
     refine rtp 7 (Bv (!(t.qK[((r.xe[i]!).qI).toNat]!))) H ?_
     refine rtp 8 (Bv (!(t.qK[((r.xe[i]!).qI).toNat]!))) H ?_
     cases CH:(!(t.qK[((r.xe[i]!).qI).toNat]!))
     ·replace CH:=xn CH
      refine rgl 9 88 H ?_
      refine rgl 10 88 H ?_
      refine rgl 11 88 H ?_
      refine rgl 13 88 H ?_
      refine rgl 14 88 H ?_
      refine gF 15 rfl rfl H ?_
      refine gL 16 rfl rfl (fun _ h=>h.xP 11 rfl 0 rfl) H ?_
      refine vK [12] qh qm (VN rfl (e:=88) rfl rfl (oq (l02Parent_ok _ s t ((r.xe[i]!).qI) (qF (H.get 4 rfl) 0 3) (H.get 5 rfl).1 (H.get 6 rfl).1 (qF (H.get 7 rfl) 0 3) (H.get 8 rfl).1 (H.get 9 rfl).1 (H.get 10 rfl).1 ql ql ql) H fun Mi H=>⟨H,(rgl 17 88 H ?_)⟩) vM)
      refine rtl 18 H ?_
      refine xw qh (t_n (zT _ rfl (fun tA=>?_) (fun tA=>?_)))
      ·replace tA:=bne_iff_ne.1 tA
       refine zcr (sp (Bv false) (zjr (zr5 (rH1 (Bv false) H ?_))))
       rw [xh (fun h=>by obtain ⟨h1,h2,h3,h4,h5⟩:=h;(obtain ⟨q1,q2⟩:=h5 i qf;exact absurd q2 ‹_›))]
      replace tA:=xx tA
      refine qV (b_n (t_n (xJ (sp (yI i) (sw (zn i 1 rfl rfl qf (sq 1 (xO (qX (m' :=(r.xe.length - ((i+1):Int)).toNat) qf ⟨_,i+1,uE4,?_,?_,rfl,N,H.pick [] (zR 2 16)⟩)))))))))
      ·omega
      ·exact i1.succ ‹_› ‹_›
     replace CH:=xB CH
     refine vG (zR 9 9) 9 (H) (rtp 18 (Bv true) H ?_)
     refine xw qh (t_n (cTr rfl (zcr (sp (Bv false) (zjr (zr5 (rH1 (Bv false) H ?_)))))))
     rw [xh (fun h=>by obtain ⟨h1,h2,h3,h4,h5⟩:=h;(obtain ⟨q1,q2⟩:=h5 i qf;exact ft q1 ‹_›))]
    refine zx4 (zcr (sp (Bv true) (zjr (rH1 (Bv true) H ?_))))
    rw [jH ⟨by assumption,by assumption,by assumption,fun ⟨u,v⟩=>by omega,(show i=r.xe.length by omega)▸i1⟩]
   replace lN:=of_decide_eq_true lN
   refine qJ 54 rfl rfl (sq 1 (qJ 54 rfl rfl (sq 1 (qJ 54 rfl rfl (oF rfl (qJ 54 rfl rfl (oL rfl (H.xP 9 rfl 4 rfl) (qJ 54 rfl rfl (sq 1 (qJ 54 rfl rfl (sw (oq (VJ _ r.vw (t.qQ[r.qI.toNat]!) (H.get 12 rfl).1 (H.get 0 rfl).1 qg) H fun Dr H=>qJ 47 rfl rfl (sq 2 (zjn (zT _ rfl (fun uF=>?_) (fun uF=>?_))))))))))))))))
   ·refine zcr (sp (Bv false) (zjr (t_r (rH1 (Bv false) H ?_))))
    rw [xh (fun h=>by obtain ⟨h1,h2,h3,h4,h5⟩:=h;exact h4 ⟨‹_›,‹_›⟩)]
   refine qV (t_n (zcc (sp (yI 0) (zjn (qR (zl ((fun Z0 Z1 Z2 Z3 Z4 Z5 Z6 Z7 Z8 Z9 bx bG dy fj ix oS=>fun m' ρ KT=>∃ (xE:Env) (i:Nat),ρ=upd (upd (upd (upd xE 0 (pp bs os)) 1 (pp bt ot)) 2 (pp br or)) 8 (yI i)/\((i:Int)<=r.xe.length)/\(IntoUp s t r i)/\m' =(r.xe.length - (i:Int)).toNat/\Fresh w.heap.size []/\St w KT [] [Z0,Z1,Z2,Z3,Z4,Z5,Z6,Z7,Z8,Z9,bx,bG,dy,fj,ix,oS]) _ _ _ _ _ _ _ _ _ _ _ _ _ _ _ _) ((r.xe.length - (0:Int)).toNat) ⟨_,0,uE4,qf,qx,rfl,N,H⟩ ?_))))))
   clear H N
   rintro m' ρ E4 ⟨xE,i,rfl,i0,i1,rfl,N,H⟩
   refine zcc (sp (yI i) (sq 2 (oF rfl (oL rfl (H.xP 9 rfl 7 rfl) (oN rfl (sq 1 (zjn (cD rfl (fun tk=>?_) (fun tk=>?_)))))))))
   ·have q:=(wi i qf).1
    have q1:=q.1
    refine qV (t_n (xQ (qR (zcr (sq 2 (oF rfl (oL rfl (H.xP 9 rfl 7 rfl) (sp (yI i) ?_))))))))
    obtain ⟨Bd,o42,rfl⟩:=H.addr 15 rfl qf
    obtain ⟨aeh,adl,aeq,H⟩:=H.yJ 15 rfl i i qf qf qf
    refine oI rfl rfl (oF rfl (oL rfl (H.xP 1 rfl 0 rfl) (sq 1 (zjn (xQ (jE rfl H fun H=>rtl 0 H ?_))))))
    refine rtl 1 H ?_
    refine tF 2 rfl rfl H ?_
    refine tL 3 rfl rfl (fun _ h=>h.xP 7 rfl 0 rfl) H ?_
    refine rtl 4 H ?_
    refine tI 5 rfl rfl rfl H ?_
    refine tL 6 rfl rfl (fun _ h=>h.elemBool 8 rfl ((r.xe[i]!).qI) qf qf) H ?_
    refine rtp 7 (Bv (!(t.qK[((r.xe[i]!).qI).toNat]!))) H ?_
    refine rtp 8 (Bv (!(t.qK[((r.xe[i]!).qI).toNat]!))) H ?_
    cases HO:(!(t.qK[((r.xe[i]!).qI).toNat]!))
    ·replace HO:=xn HO
     refine rgl 9 88 H ?_
     refine rgl 10 88 H ?_
     refine rgl 11 88 H ?_
     refine rgl 13 88 H ?_
     refine rgl 14 88 H ?_
     refine gF 15 rfl rfl H ?_
     refine gL 16 rfl rfl (fun _ h=>h.xP 11 rfl 0 rfl) H ?_
     refine vK [12] qh qm (VN rfl (e:=88) rfl rfl (oq (l02Parent_ok _ s t ((r.xe[i]!).qI) (qF (H.get 4 rfl) 0 3) (H.get 5 rfl).1 (H.get 6 rfl).1 (qF (H.get 7 rfl) 0 3) (H.get 8 rfl).1 (H.get 9 rfl).1 (H.get 10 rfl).1 ql ql ql) H fun Ng H=>⟨H,(rgl 17 88 H ?_)⟩) vM)
     refine rtl 18 H ?_
     refine xw qh (t_n (zT _ rfl (fun O2=>?_) (fun O2=>?_)))
     ·replace O2:=bne_iff_ne.1 O2
      refine zcr (sp (Bv false) (zjr (zr5 (rH1 (Bv false) H ?_))))
      rw [xh (fun h=>by obtain ⟨h1,h2,h3,h4,h5⟩:=h;(obtain ⟨q1,q2⟩:=h5 i qf;exact absurd q2 ‹_›))]
     replace O2:=xx O2
     refine qV (b_n (t_n (xJ (sp (yI i) (sw (zn i 1 rfl rfl qf (sq 1 (xO (qX (m' :=(r.xe.length - ((i+1):Int)).toNat) qf ⟨_,i+1,uE4,?_,?_,rfl,N,H.pick [] (zR 2 16)⟩)))))))))
     ·omega
     ·exact i1.succ ‹_› ‹_›
    replace HO:=xB HO
    refine vG (zR 9 9) 9 (H) (rtp 18 (Bv true) H ?_)
    refine xw qh (t_n (cTr rfl (zcr (sp (Bv false) (zjr (zr5 (rH1 (Bv false) H ?_)))))))
    rw [xh (fun h=>by obtain ⟨h1,h2,h3,h4,h5⟩:=h;(obtain ⟨q1,q2⟩:=h5 i qf;exact ft q1 ‹_›))]
   refine zx4 (zcr (sp (Bv true) (zjr (rH1 (Bv true) H ?_))))
   rw [jH ⟨by assumption,by assumption,by assumption,fun ⟨u,v⟩=>by exact ft v ‹_›,(show i=r.xe.length by omega)▸i1⟩]
  replace dd:=xB dd
  refine xR (zR 48 14) (sp (Bv true) (zjn (cTr rfl (zcr (sp (Bv false) (zjr (t_r (rH1 (Bv false) H ?_))))))))
  rw [xh (fun h=>by obtain ⟨h1,h2,h3,h4,h5⟩:=h;exact ft h3 ‹_›)]
 replace dO:=xB dO
 refine xR (zR 39 7) (sp (Bv true) (sp (Bv true) (xR (zR 48 14) (sp (Bv true) (zjn (cTr rfl (zcr (sp (Bv false) (zjr (t_r (rH1 (Bv false) H ?_)))))))))))
 rw [xh (fun h=>by obtain ⟨h1,h2,h3,h4,h5⟩:=h;exact ft h2 ‹_›)]
theorem l03Applicable_ok (w:World) (s:qC) (t:qH) (hs:vY w bs os (yS s qG qE qO qN)) (qP:zP w xk qG qE s.qA) (xm:zP w xW qO qN s.qB) (ht:vY w bt ot (yT t xg xf xI xG qZ qY)) (zi:zP w zD xg xf t.qK) (zI:zP w vF xI xG t.qQ) (xM:zP w zh qZ qY t.qL) (p0:ve s) (p1:xZ s t):Calls Tryz.prog 153 #[pp bs os,pp bt ot] w (Ret (fun v w' =>∃ (ra:yOA) (rn:Nat) (rc:Nat),v=Sv ra rn rc/\Fresh w.heap.size []/\St w w' [rr ra rn rc 4 1 ((appl s t).map (Value.bool))] []) w):=by
 refine en func153 ntmps153 ?_
 have H:=(((((((St.start w).arg xM).arg zI).arg zi).Xr ht).arg xm).arg qP).Xr hs
 have zB:=qM qP
 have vP:=qM xm
 clear hs qP xm ht zi zI xM
 have N:=Fresh.nil w.heap.size
 have p2:=p0.2.1
 have p3:=p0.1.2.1
 refine zcr (sq 1 (zjc (sq 2 (oF rfl (oL rfl (H.xP 0 rfl 1 rfl) (oN rfl (sw (zV H underlying24 ti2 s.qA.length rfl rfl qf qf qf fun b1 w2 H=>sq 1 (zjc (sw (vW H underlying28 ti4 fun b3 w4 H=>sq 1 (zjcc (sp (yI 0) (zjn (qR ?_)))))))))))))))
 replace H:=H.boxRowB 0 [] 0
 refine zl ((fun Z0 Z1 Z2 Z3 Z4 Z5 Z6=>fun m' ρ w5=>∃ (xE:Env) (jB:yOA) (vC:Nat) (jw:Nat) (out:List Bool) (i:Nat) (dc:yLI),ρ=upd (upd (upd (upd (upd xE 0 (pp bs os)) 1 (pp bt ot)) 5 (Sv (aa b1 0) s.qA.length s.qA.length)) 6 (Sv jB vC jw)) 7 (yI i)/\out=applB s t 0 i/\dc=bests s t 0 s.qA.length i/\((i:Int)<=s.qB.length)/\m' =(s.qB.length - (i:Int)).toNat/\Fresh w.heap.size []/\St w w5 [rr jB vC jw 4 1 (out.map (Value.bool)),rr (aa b1 0) s.qA.length s.qA.length 2 1 (dc.map (Value.int .i64))] [Z0,Z1,Z2,Z3,Z4,Z5,Z6]) _ _ _ _ _ _ _) ((s.qB.length - (0:Int)).toNat) ⟨_,(aa b3 0),0,0,([]:List Bool),0,(List.replicate s.qA.length (0:Int)),uE5,(by rfl),(by exact bests_zero s t 0 _),qf,rfl,N,H⟩ ?_
 clear H N
 rintro m' ρ w6 ⟨xE,jB,vC,jw,out,i,dc,rfl,rfl,rfl,i0,rfl,N,H⟩
 have bR:=H.VM 0 rfl
 have adk:=H.jC 1 rfl
 have al:=applB_len s t 0 i
 refine zcc (sp (yI i) (sq 2 (oF rfl (oL rfl (H.xP 0 rfl 2 rfl) (oN rfl (sq 1 (zjn (cD rfl (fun h7=>?_) (fun h7=>?_)))))))))
 ·have q:=p0.rule (i:=i) qf
  have qc:=q.1
  have qk:=q.cell
  refine qV (t_n (xQ (qR (zcr (sq 2 (oF rfl (oL rfl (H.xP 0 rfl 2 rfl) (sp (yI i) ?_))))))))
  obtain ⟨b8,o9,rfl⟩:=H.addr 2 rfl qf
  obtain ⟨m9,md,Em,mu,ma,Gn,lL,lD,Fy,lZ,ni,Gd,oZ,pu,Jx,mg,lR,Fn,H⟩:=H.jZ 2 rfl i i qf qf qf
  refine oI rfl rfl (sq 1 (zjc (sq 3 (sw (oq (l03Enabled_ok _ s t (s.qB[i]!) (qF (H.get 7 rfl) 0 3) (H.get 8 rfl).1 (H.get 9 rfl).1 (qF (H.get 10 rfl) 0 3) (H.get 11 rfl).1 (H.get 12 rfl).1 (H.get 13 rfl).1 (qF (H.get 6 rfl) 0 9) (H.get 0 rfl).1 (H.get 1 rfl).1 (H.get 2 rfl).1 (H.get 3 rfl).1 (H.get 4 rfl).1 (H.get 5 rfl).1 qg qg qg) H fun xV H=>(sq 1 (zjc (sq 2 (sw (zf H underlying28 ti4 [Bv (dec (EnOk s t (s.qB[i]!)))] fun wm yb H=>sw (zo H 1 rfl 0 rfl underlying28 ti4 rfl qj rfl rfl rfl qw qp qf fun a17 c18 s0 H=>?_)))))))))))
  rw [snocB] at H
  refine sq 1 (zjc (sq 1 (zjn (cP rfl (fun oV=>?_) (fun oV=>?_)))))
  ·refine yK rfl H [0,1] fun H=>?_
   have S:=H.jm [0,1] (zR 0 14)
   refine rtl 0 S ?_
   refine rtl 1 S ?_
   refine rtl 2 S ?_
   refine tF 3 rfl rfl S ?_
   refine tL 4 rfl rfl (fun _ h=>h.xP 6 rfl 0 rfl) S ?_
   refine rtl 5 S ?_
   refine rtl 6 S ?_
   refine rtl 7 S ?_
   refine tF 8 rfl rfl S ?_
   refine tL 9 rfl rfl (fun _ h=>h.xP 6 rfl 0 rfl) S ?_
   refine tI 10 rfl rfl rfl S ?_
   refine rtl 12 S ?_
   refine rtl 13 S ?_
   refine tF 14 rfl rfl S ?_
   refine tL 15 rfl rfl (fun _ h=>h.xP 6 rfl 1 rfl) S ?_
   refine ro 11 rfl (x9 (yI ((bests s t 0 s.qA.length i)[((s.qB[i]!).qI).toNat]!)) isAgg2 rfl (H.QJ 2 rfl (iv:=(s.qB[i]!).qI) (i:=(((s.qB[i]!).qI).toNat)) qf qf) (⟨H.pick [0,1] (zR 0 14),(ro 16 rfl (oq (l00Max_ok s0.drew ((bests s t 0 s.qA.length i)[((s.qB[i]!).qI).toNat]!) ((s.qB[i]!).jG)) H fun wT H=>⟨H.pick [0,1] (zR 0 14),(tI 17 rfl rfl rfl (H.pick [0,1] (zR 0 14)) ?_)⟩))⟩))
   refine ro 18 rfl (y5 H 2 rfl (max ((bests s t 0 s.qA.length i)[((s.qB[i]!).qI).toNat]!) ((s.qB[i]!).jG)) sizeOf2 rfl rfl (i:=(((s.qB[i]!).qI).toNat)) qf qf fun C5 H=>⟨H.pick [0,1] (zR 0 14),(xw qh (b_n (t_n (xJ (sp (yI i) (sw (zn i 1 rfl rfl qf (sq 1 (xO (qX (m' :=(s.qB.length - ((i+1):Int)).toNat) qf ⟨_,_,_,_,_,i+1,_,uE5,?_,?_,?_,rfl,N,H.pick [1,2] (zR 7 7)⟩))))))))))⟩)
   ·exact applB_snoc s t i
   ·exact bests_set ‹_› qf
   ·omega
  refine qV (b_n (t_n (xJ (sp (yI i) (sw (zn i 1 rfl rfl qf (sq 1 (xO (qX (m' :=(s.qB.length - ((i+1):Int)).toNat) qf ⟨_,_,_,_,_,i+1,_,uE5,?_,?_,?_,rfl,N,H.pick [1,2] (zR 7 7)⟩)))))))))
  ·exact applB_snoc s t i
  ·exact bests_skip ‹_›
  ·omega
 refine zx4 (zcc (sp (yI 0) (zjn (qR (zl ((fun Z0 Z1 Z2 Z3=>fun m' ρ HK=>∃ (xE:Env) (az:Nat) (du:List Bool),ρ=upd (upd (upd (upd xE 0 (pp bs os)) 5 (Sv (aa b1 0) s.qA.length s.qA.length)) 6 (Sv jB vC jw)) 10 (yI az)/\du=applB s t az s.qB.length/\((az:Int)<=s.qB.length)/\m' =(s.qB.length - (az:Int)).toNat/\Fresh w.heap.size []/\St w HK [rr jB vC jw 4 1 (du.map (Value.bool)),Z0] [Z1,Z2,Z3]) _ _ _ _) ((s.qB.length - (0:Int)).toNat) ⟨_,0,(applB s t 0 i),uE4,(by rw [show i=s.qB.length by omega]),qf,rfl,N,H.pick [0,1] [0,1,2]⟩ ?_)))))
 clear H N
 rintro m' ρ Ge ⟨xE,az,du,rfl,rfl,i0,rfl,N,H⟩
 have bR:=H.VM 0 rfl
 have al:=applB_len s t az s.qB.length
 refine zcc (sq 3 (oF rfl (oL rfl (H.xP 0 rfl 2 rfl) (oN rfl (sq 1 (zjn (cD rfl (fun te=>?_) (fun te=>?_))))))))
 ·have q:=p0.rule (i:=az) qf
  have qc:=q.1
  have qk:=q.cell
  have qr:=q.2.1
  refine qV (t_n (xQ (qR (yK rfl H [1] fun H=>?_))))
  have S:=H.jm [1] [0,1,2]
  refine rtl 0 S ?_
  refine rtl 1 S ?_
  refine rtl 2 S ?_
  refine rtl 3 S ?_
  obtain ⟨Lh,rfl⟩:=H.jK 0 rfl qf
  refine tI 4 rfl rfl rfl (H.pick [1] [0,1,2]) (ro 5 rfl (x9 (Bv ((applB s t az s.qB.length)[az]!)) isAgg4 rfl (H.rowBool 0 rfl (iv:=az) (i:=az) qf qf) (⟨H.pick [1] [0,1,2],(rtp 6 (Bv ((applB s t az s.qB.length)[az]!)) (H.pick [1] [0,1,2]) ?_)⟩)))
  cases h31:((applB s t az s.qB.length)[az]!)
  ·refine vG (zR 7 20) 20 (H.pick [1] [0,1,2]) ?_
   have S:=H.jm [1] [0,1,2]
   refine rtp 27 (Bv false) S ?_
   refine tI 28 rfl rfl rfl S ?_
   refine ro 29 rfl (Qq H 0 rfl false sizeOf4 rfl rfl (i:=az) qf qf fun Dc H=>⟨H.pick [1] [0,1,2],(xw qh (b_n (t_n (xJ (sq 1 (sw (zn az 1 rfl rfl qf (sq 1 (xO (qX (m' :=(s.qB.length - ((az+1):Int)).toNat) qf ⟨_,az+1,_,uE4,?_,?_,rfl,N,H⟩))))))))))⟩)
   ·exact applB_set qf (applB_step0 (m:=s.qB.length) qf ‹_›)
   ·omega
  have S:=H.jm [1] [0,1,2]
  refine rgl 7 75 S ?_
  refine rgl 8 75 S ?_
  refine gF 9 rfl rfl S ?_
  refine gL 10 rfl rfl (fun _ h=>h.xP 0 rfl 2 rfl) S ?_
  refine rgl 11 75 S ?_
  obtain ⟨uI,o34,rfl⟩:=H.addr 2 rfl qf
  obtain ⟨mV,m6,DL,l9,my,Gl,lC,mA,D8,mY,mo,Fz,px,pn,Ii,mb,mS,Ft,H⟩:=H.jZ 2 rfl az az qf qf qf
  have S:=H.jm [1] [7,8,9]
  refine gI 12 rfl rfl rfl S ?_
  refine gF 13 rfl rfl S ?_
  refine rgl 15 75 S ?_
  refine rgl 16 75 S ?_
  refine rgl 17 75 S ?_
  refine gF 18 rfl rfl S ?_
  refine gL 19 rfl rfl (fun _ h=>h.xP 0 rfl 2 rfl) S ?_
  refine rgl 20 75 S ?_
  refine gI 21 rfl rfl rfl S ?_
  refine gF 22 rfl rfl S ?_
  refine vK [14,23] qh qm (VN rfl (e:=75) rfl rfl ?_ (VN rfl (e:=75) rfl rfl ?_ vM))
  ·refine x9 (yI ((s.qB[az]!).jG)) isAgg2 rfl (H.xP 6 rfl 1 rfl) (⟨H.pick [1] [7,8,9],(vK [23] qh qm (VN rfl (e:=75) rfl rfl (x9 (yI ((s.qB[az]!).qI)) isAgg2 rfl (H.xP 6 rfl 0 rfl) (⟨H.pick [1] [7,8,9],?_⟩)) vM))⟩)
   have S:=H.jm [1] [7,8,9]
   refine gI 24 rfl rfl rfl S ?_
   refine gL 25 rfl rfl (fun _ h=>h.QJ 0 rfl (iv:=(s.qB[az]!).qI) (i:=(((s.qB[az]!).qI).toNat)) qf qf) S ?_
   refine rgl 26 75 S ?_
   refine rtl 27 S ?_
   refine tI 28 rfl rfl rfl S ?_
   refine ro 29 rfl (Qq H 0 rfl (((s.qB[az]!).jG:Int) == ((bests s t 0 s.qA.length i)[((s.qB[az]!).qI).toNat]!)) sizeOf4 rfl rfl (i:=az) qf qf fun N6 H=>⟨H.pick [1] [7,8,9],(xw qh (b_n (t_n (xJ (sq 1 (sw (zn az 1 rfl rfl qf (sq 1 (xO (qX (m' :=(s.qB.length - ((az+1):Int)).toNat) qf ⟨_,az+1,_,uE4,?_,?_,rfl,N,H.pick [0,1] [7,8,9]⟩))))))))))⟩)
   ·exact applB_set qf (applB_step1 (m:=s.qB.length) (n:=s.qA.length) (z:=0) (i:=i) qf ‹_› rfl qf qf qf)
   ·omega
  refine x9 (yI ((s.qB[az]!).qI)) isAgg2 rfl (H.xP 6 rfl 0 rfl) (⟨H.pick [1] [7,8,9],?_⟩)
  have S:=H.jm [1] [7,8,9]
  refine gI 24 rfl rfl rfl S ?_
  refine gL 25 rfl rfl (fun _ h=>h.QJ 0 rfl (iv:=(s.qB[az]!).qI) (i:=(((s.qB[az]!).qI).toNat)) qf qf) S ?_
  refine vK [14] qh qm (VN rfl (e:=75) rfl rfl (x9 (yI ((s.qB[az]!).jG)) isAgg2 rfl (H.xP 6 rfl 1 rfl) (⟨H.pick [1] [7,8,9],?_⟩)) vM)
  have S:=H.jm [1] [7,8,9]
  refine rgl 26 75 S ?_
  refine rtl 27 S ?_
  refine tI 28 rfl rfl rfl S ?_
  refine ro 29 rfl (Qq H 0 rfl (((s.qB[az]!).jG:Int) == ((bests s t 0 s.qA.length i)[((s.qB[az]!).qI).toNat]!)) sizeOf4 rfl rfl (i:=az) qf qf fun KT H=>⟨H.pick [1] [7,8,9],(xw qh (b_n (t_n (xJ (sq 1 (sw (zn az 1 rfl rfl qf (sq 1 (xO (qX (m' :=(s.qB.length - ((az+1):Int)).toNat) qf ⟨_,az+1,_,uE4,?_,?_,rfl,N,H.pick [0,1] [7,8,9]⟩))))))))))⟩)
  ·exact applB_set qf (applB_step1 (m:=s.qB.length) (n:=s.qA.length) (z:=0) (i:=i) qf ‹_› rfl qf qf qf)
  ·omega
 refine zx4 (zcr (sq 2 (zjr (rH1 (Sv jB vC jw) H ?_))))
 obtain rfl:az=s.qB.length:=by omega
 exact ⟨jB,vC,jw,rfl,N,H.pick [0] []⟩
theorem l03Halted_ok (w:World) (s:qC) (t:qH) (hs:vY w bs os (yS s qG qE qO qN)) (qP:zP w xk qG qE s.qA) (xm:zP w xW qO qN s.qB) (ht:vY w bt ot (yT t xg xf xI xG qZ qY)) (zi:zP w zD xg xf t.qK) (zI:zP w vF xI xG t.qQ) (xM:zP w zh qZ qY t.qL) (p0:ve s) (p1:xZ s t):Calls Tryz.prog 105 #[pp bs os,pp bt ot] w (Ret (fun v w' =>v=Bv (dec (Halted s t))) w):=by
 refine en func105 ntmps105 ?_
 have H:=(((((((St.start w).arg xM).arg zI).arg zi).Xr ht).arg xm).arg qP).Xr hs
 have vP:=qM xm
 clear hs qP xm ht zi zI xM
 have N:=Fresh.nil w.heap.size
 have p2:=p0.2.1
 refine zcr (sp (Bv false) (zjc (sq 2 (sw (oc (l03Applicable_ok _ s t (qF (H.get 0 rfl) 0 3) (H.get 1 rfl).1 (H.get 2 rfl).1 (qF (H.get 3 rfl) 0 3) (H.get 4 rfl).1 (H.get 5 rfl).1 (H.get 6 rfl).1 qg qg) ?_)))))
 rintro _ w2 ⟨EZ,rn1,GP,rfl,M,K⟩ _
 replace H:=H.merge K M
 obtain rfl:=H.VM 0 rfl
 have al:=appl_len s t
 refine sq 1 (zjcc (sp (yI 0) (zjn (qR (zl ((fun Z0=>fun m' ρ w7=>∃ (xE:Env) (i:Nat),ρ=upd (upd xE 5 (Sv EZ ((appl s t).length) GP)) 6 (yI i)/\((i:Int)<=((appl s t).length))/\(HaltTo s t i)/\m' =(((appl s t).length) - (i:Int)).toNat/\Fresh w.heap.size []/\St w w7 [Z0] []) _) ((((appl s t).length) - (0:Int)).toNat) ⟨_,0,uE2,qf,qx,rfl,N,H.pick [0] []⟩ ?_)))))
 clear H N
 rintro m' ρ w8 ⟨xE,i,rfl,i0,i1,rfl,N,H⟩
 refine zcc (sp (yI i) (sq 1 (oN rfl (sq 1 (zjn (cD rfl (fun h9=>?_) (fun h9=>?_)))))))
 ·refine qV (t_n (xQ (qR (zcr (sq 1 (sp (yI i) ?_))))))
  obtain ⟨np,rfl⟩:=H.jK 0 rfl qf
  refine oI rfl rfl (oL rfl (H.rowBool 0 rfl (iv:=i) (i:=i) qf qf) (zjn (zT _ rfl (fun aU=>?_) (fun aU=>?_))))
  ·refine zcr (sp (Bv false) (zjr (zr5 (rH1 (Bv false) H ?_))))
   rw [xh (fun h=>h i qf (QQ qf ‹_›))]
  refine qV (b_n (t_n (xJ (sp (yI i) (sw (zn i 1 rfl rfl qf (sq 1 (xO (qX (m' :=(((appl s t).length) - ((i+1):Int)).toNat) qf ⟨_,i+1,uE2,?_,?_,rfl,N,H⟩)))))))))
  ·omega
  ·exact i1.succ (Qe qf ‹_›)
 refine zx4 (zcr (sp (Bv true) (zjr (rH1 (Bv true) H ?_))))
 obtain rfl:i=s.qB.length:=by omega
 rw [jH i1]
theorem l03Rest_ok (w:World) (s:qC) (t:qH) (counts:yLI) {aV:yOA} {aP:Nat} {di:yLN} (hs:vY w bs os (yS s qG qE qO qN)) (qP:zP w xk qG qE s.qA) (xm:zP w xW qO qN s.qB) (ht:vY w bt ot (yT t xg xf xI xG qZ qY)) (zi:zP w zD xg xf t.qK) (zI:zP w vF xI xG t.qQ) (xM:zP w zh qZ qY t.qL) (fq:zP w di aV aP counts) (p0:ve s) (p1:xZ s t) (p2:Vu s counts):Calls Tryz.prog 191 #[pp bs os,pp bt ot,Sv aV counts.length aP] w (Ret (fun v w' =>∃ (kN:yOA) (kY:Nat) (kQ:Nat) (kZ:List Value) (kR:yLN),v=.tuple #[Sv kN kY kQ,Bv (dec (IsCh s t counts))]/\Fresh w.heap.size [kR]/\St w w' [rr kN kY kQ 24 1 kZ] [xy true kR kZ (Qb s t counts (XF (BadAt s t counts) counts.length))]) w):=by
 refine en func191 ntmps191 ?_
 have H:=((((((((St.start w).arg fq).arg xM).arg zI).arg zi).Xr ht).arg xm).arg qP).Xr hs
 have vP:=qM xm
 have y9:=qM zI
 clear hs qP xm ht zi zI xM fq
 have N:=Fresh.nil w.heap.size
 have p3:=p0.2.1
 have p6:=p2.1
 have p7:=p1.2.1
 have p8:=kinds_le p0
 have p9:=p0.1.2.1
 have p11:xX s=s.qA.length:=rfl
 refine zcr (sq 1 (sp (Bv false) (zjc (sq 2 (sw (oc (l03Applicable_ok _ s t (qF (H.get 0 rfl) 0 3) (H.get 1 rfl).1 (H.get 2 rfl).1 (qF (H.get 3 rfl) 0 3) (H.get 4 rfl).1 (H.get 5 rfl).1 (H.get 6 rfl).1 qg qg) ?_))))))
 rintro _ w2 ⟨EZ,rn1,GP,rfl,M,K⟩ _
 replace H:=H.merge K M
 obtain rfl:=H.VM 0 rfl
 have al:=appl_len s t
 refine sq 1 (zjc (sw (vW H underlying29 ti24 fun b7 w8 H=>sq 1 (zjcc (sp (yI 0) (zjn (qR ?_)))))))
 replace H:=H.boxRow 0 rfl 1 0 rfl qj
 replace H:=H.jo (α:=yLI)
 refine zl ((fun Z0 Z1 Z2 Z3 Z4 Z5 Z6 Z7 Z8=>fun m' ρ w9=>∃ (xE:Env) (eP:yOA) (co:Nat) (dC:Nat) (ai:yLL) (gD:List Value) (fF:yLN) (c:Nat),ρ=upd (upd (upd (upd (upd (upd xE 0 (pp bs os)) 1 (pp bt ot)) 2 (Sv aV counts.length aP)) 8 (Sv EZ ((appl s t).length) GP)) 9 (Sv eP co dC)) 10 (yI c)/\ai=t.qQ.take c/\((c:Int)<=t.qQ.length)/\m' =(t.qQ.length - (c:Int)).toNat/\Fresh w.heap.size [fF]/\St w w9 [rr eP co dC 24 1 gD,Z0] [xy true fF gD ai,Z1,Z2,Z3,Z4,Z5,Z6,Z7,Z8]) _ _ _ _ _ _ _ _ _) ((t.qQ.length - (0:Int)).toNat) ⟨_,(aa b7 0),0,0,([]:yLL),[],[],0,uE6,(by rfl),qf,rfl,N.emp,H⟩ ?_
 clear H N
 rintro m' ρ nq ⟨xE,eP,co,dC,ai,gD,fF,c,rfl,rfl,i0,rfl,N,H⟩
 have tU:=H.zg (α:=yLI) 0 rfl 0 rfl qj
 rw [List.length_take_of_le qf] at tU
 refine zcc (sp (yI c) (sq 2 (oF rfl (oL rfl (H.xP 4 rfl 1 rfl) (oN rfl (sq 1 (zjn (cD rfl (fun aU=>?_) (fun aU=>?_)))))))))
 ·refine qV (t_n (xQ (qR (xJ (sq 3 (oF rfl (oL rfl (H.xP 4 rfl 1 rfl) (sp (yI c) ?_))))))))
  obtain ⟨vq,o13,rfl⟩:=H.addr 6 rfl qf
  obtain ⟨aji,afv,alF,H⟩:=H.zW 6 rfl c c qf qf qf
  refine oI rfl rfl (oL rfl (H.xP 1 rfl 0 rfl) ?_)
  have p5:=(p1.bagLen (k:=c) qf).len
  refine sw (oc (QZ _ (t.qQ[c]!) (H.get 0 rfl).1 qg) ?_)
  rintro v21 s0 r21 x20
  replace H:=H.zH x20 r21
  obtain ⟨a22,c23,rfl,asK,awU⟩:=H.jL 0 rfl
  refine sw (zf H underlying29 ti24 [Sv a22 ((t.qQ[c]!).length) c23] fun Rz Ge H=>?_)
  obtain ⟨G31,N,au3,H⟩:=H.zN 1 rfl N (H.jA [2])
  refine sw (zo H 2 rfl 0 rfl underlying29 ti24 rfl qj rfl rfl rfl qw qp qf fun a28 c29 AP H=>?_)
  replace H:=H.yx 3 rfl 0 rfl
  replace N:Fresh w.heap.size [(fF++G31)]:=(N.pick [1,0]).join
  refine sq 1 (xO (b_n (t_n (xJ (sp (yI c) (sw (zn c 1 rfl rfl qf (sq 1 (xO (qX (m' :=(t.qQ.length - ((c+1):Int)).toNat) qf ⟨_,_,_,_,_,_,_,c+1,uE6,?_,?_,rfl,N,H.pick [2,3] (0::zR 5 8)⟩))))))))))
  ·exact take_snoc qf
  ·omega
 refine zx4 (zcc (sp (yI 0) (zjn (qR (zl ((fun Z0 Z1 Z2 Z3 Z4=>fun m' ρ CC=>∃ (xE:Env) (i:Nat) (wC:yLL) (gj:List Value) (dK:yLN),ρ=upd (upd (upd (upd (upd xE 0 (pp bs os)) 2 (Sv aV counts.length aP)) 8 (Sv EZ ((appl s t).length) GP)) 9 (Sv eP co dC)) 11 (yI i)/\wC=Qb s t counts i/\((i:Int)<=counts.length)/\(GoodTo s t counts i)/\m' =(counts.length - (i:Int)).toNat/\Fresh w.heap.size [dK]/\St w CC [rr eP co dC 24 1 gj,Z0] [xy true dK gj wC,Z1,Z2,Z3,Z4]) _ _ _ _ _) ((counts.length - (0:Int)).toNat) ⟨_,0,(t.qQ.take c),gD,fF,uE5,(by rw [List.take_of_length_le qf];rfl),qf,qx,rfl,N,H.pick [0,1] [0,1,2,3,8]⟩ ?_)))))
 clear H N
 rintro m' ρ Dg ⟨xE,i,wC,gj,dK,rfl,rfl,i0,i1,rfl,N,H⟩
 have tU:=H.zg (α:=yLI) 0 rfl 0 rfl qj
 have rl:=restR_len (s:=s) (t:=t) (counts:=counts) i
 refine zcc (sp (yI i) (sq 1 (oN rfl (sq 1 (zjn (cD rfl (fun Dj=>?_) (fun Dj=>?_)))))))
 ·have q:=p0.rule (i:=i) qf
  have qc:=q.1
  have qk:=q.cell
  have b1:=q.2.2.2.2.1
  have p10:=p2.bd (i:=i) qf
  refine qV (t_n (xQ (qR (zcc (sq 1 (sp (yI i) ?_))))))
  obtain ⟨wt,o37,rfl⟩:=H.addr 4 rfl qf
  refine oI rfl rfl (oL rfl (H.zA 4 rfl i qf) (sp (Bv (decide ((counts[i]! :Int) > 0))) (sp (Bv (decide ((counts[i]! :Int) > 0))) ?_)))
  cases tm:(decide ((counts[i]! :Int) > 0))
  ·replace tm:=of_decide_eq_false tm
   refine xR (zR 51 5) (sp (Bv false) (zjn (cFr rfl (qV (t_n (zcr (sq 2 (oF rfl (oL rfl (H.xP 1 rfl 2 rfl) (sp (yI i) ?_))))))))))
   obtain ⟨Kc,Sj,rfl⟩:=H.addr 3 rfl qf
   obtain ⟨abY,aam,YO,acH,T4,WF,Sq,Ts,STz,adg,aaq,So,aev,adi,adQ,Yg,ZK,aaM,H⟩:=H.jZ 3 rfl i i qf qf qf
   refine oI rfl rfl (oF rfl (oL rfl (H.xP 6 rfl 0 rfl) (sq 1 (zjn (yK rfl H [1] fun H=>?_)))))
   have S:=H.jm [1] (zR 0 12)
   refine rtl 0 S ?_
   refine rtl 1 S ?_
   refine rtl 2 S ?_
   refine rtl 3 S ?_
   obtain ⟨JI,rfl⟩:=H.jK 0 rfl qf
   have S:=H.jm [1] (zR 0 12)
   refine tI 4 rfl rfl rfl S ?_
   refine rtl 6 S ?_
   refine rtl 7 S ?_
   refine tF 8 rfl rfl S ?_
   refine tL 9 rfl rfl (fun _ h=>h.xP 8 rfl 2 rfl) S ?_
   refine rtp 10 (yI i) S ?_
   refine tI 11 rfl rfl rfl S ?_
   refine tF 12 rfl rfl S ?_
   refine tL 13 rfl rfl (fun _ h=>h.xP 6 rfl 2 rfl) S ?_
   refine rtl 14 S ?_
   refine rtp 15 (yI i) S ?_
   refine tI 16 rfl rfl rfl S ?_
   refine tL 17 rfl rfl (fun _ h=>h.zA 11 rfl i qf) S ?_
   refine rt 18 _ (y_neg (counts[i]!) rfl qf) S ?_
   refine ro 5 rfl ?_
   obtain ⟨a46,c47,G48,s49,Pq,H⟩:=H.yg 0 rfl 7 rfl (iv:=(s.qB[i]!).qI) (((s.qB[i]!).qI).toNat) qf qf
   refine x9 (Sv a46 (((Qb s t counts i)[((s.qB[i]!).qI).toNat]!).length) c47) isAgg24 rfl (Pq) (⟨H.pick [1] (zR 1 12),(ro 19 rfl ?_)⟩)
   obtain ⟨u1,u2⟩:=restR_row (c:=(s.qB[i]!).qI.toNat) p0 p1 p2 (show i<=_ by omega) qk
   have u3:=b1.len
   have u4:=b1.yQ (t:= -(counts[i]!)) qf
   refine oc (XB _ ((Qb s t counts i)[((s.qB[i]!).qI).toNat]!) ((s.qB[i]!).zk) (-(counts[i]!)) (H.get 0 rfl).1 (H.get 1 rfl).1 qg qg qg) ?_
   rintro v56 w54 r56 x55
   replace H:=H.zH x55 r56
   obtain ⟨RO,Ru,rfl,ayY,azs⟩:=H.jL 0 rfl
   refine ⟨H.pick [2] (zR 1 12),(tI 20 rfl rfl rfl (H.pick [2] (zR 1 12)) ?_)⟩
   refine ro 21 rfl ?_
   obtain ⟨G62,N,akn,H⟩:=H.zN 0 rfl N (H.jA [8])
   refine yh true H 1 rfl 9 rfl (Sv RO ((jT ((Qb s t counts i)[((s.qB[i]!).qI).toNat]!) ((s.qB[i]!).zk) (-(counts[i]!))).length) Ru) 0 rfl rfl sizeOf24 rfl rfl (i:=(((s.qB[i]!).qI).toNat)) qf qf qm fun KY au4 Wr ah3 H=>?_
   replace N:Fresh w.heap.size [Wr]:=(N.pick [1,0]).repl ah3
   refine ⟨H.pick [2] (zR 3 12),(xw qh (b_n (t_n (xJ (sp (yI i) (sw (zn i 1 rfl rfl qf (sq 1 (xO (qX (m' :=(counts.length - ((i+1):Int)).toNat) qf ⟨_,i+1,_,_,_,uE5,?_,?_,?_,rfl,N,H.pick [1,2] (0::zR 11 4)⟩))))))))))⟩
   ·rfl
   ·omega
   ·exact i1.succ (fun h=>by obtain ⟨u,v⟩:=h;omega)
  replace tm:=of_decide_eq_true tm
  refine qJ 50 rfl rfl (sq 1 (qJ 50 rfl rfl (sp (yI i) (qJ 50 rfl rfl ?_))))
  obtain ⟨b67,rfl⟩:=H.jK 1 rfl qf
  refine oI rfl rfl (qJ 50 rfl rfl (oL rfl (H.rowBool 1 rfl (iv:=i) (i:=i) qf qf) (qJ 50 rfl rfl (sq 2 (zjn (zT _ rfl (fun Ez=>?_) (fun Ez=>?_)))))))
  ·replace Ez:=xB Ez
   refine zcr (sq 2 (sp (Bv false) (zjr (t_r (zr5 (ret2 (Sv eP co dC) (Bv false) rfl rfl rfl ⟨_,rfl,?_,H.base⟩))))))
   rw [stop_first (k:=i) i1 qf ⟨by omega,Qe qf ‹_›⟩,xh (fun h=>h.1 i qf ⟨by omega,Qe qf ‹_›⟩)]
   exact ⟨eP,co,dC,gj,dK,rfl,N,H.pick [0] [0]⟩
  replace Ez:=xn Ez
  refine qV (t_n (zcr (sq 2 (oF rfl (oL rfl (H.xP 1 rfl 2 rfl) (sp (yI i) ?_))))))
  obtain ⟨V0,o70,rfl⟩:=H.addr 3 rfl qf
  obtain ⟨Zy,Yq,Wl,S3,Tc,Wn,T5,Tq,TR,Sx,SQ,aaQ,adY,adJ,ads,UW,We,aag,H⟩:=H.jZ 3 rfl i i qf qf qf
  refine oI rfl rfl (oF rfl (oL rfl (H.xP 6 rfl 0 rfl) (sq 1 (zjn (yK rfl H [1] fun H=>?_)))))
  have S:=H.jm [1] (zR 0 12)
  refine rtl 0 S ?_
  refine rtl 1 S ?_
  refine rtl 2 S ?_
  refine rtl 3 S ?_
  obtain ⟨b74,rfl⟩:=H.jK 0 rfl qf
  have S:=H.jm [1] (zR 0 12)
  refine tI 4 rfl rfl rfl S ?_
  refine rtl 6 S ?_
  refine rtl 7 S ?_
  refine tF 8 rfl rfl S ?_
  refine tL 9 rfl rfl (fun _ h=>h.xP 8 rfl 2 rfl) S ?_
  refine rtp 10 (yI i) S ?_
  refine tI 11 rfl rfl rfl S ?_
  refine tF 12 rfl rfl S ?_
  refine tL 13 rfl rfl (fun _ h=>h.xP 6 rfl 2 rfl) S ?_
  refine rtl 14 S ?_
  refine rtp 15 (yI i) S ?_
  refine tI 16 rfl rfl rfl S ?_
  refine tL 17 rfl rfl (fun _ h=>h.zA 11 rfl i qf) S ?_
  refine rt 18 _ (y_neg (counts[i]!) rfl qf) S ?_
  refine ro 5 rfl ?_
  obtain ⟨a75,H9,G77,s78,h79,H⟩:=H.yg 0 rfl 7 rfl (iv:=(s.qB[i]!).qI) (((s.qB[i]!).qI).toNat) qf qf
  refine x9 (Sv a75 (((Qb s t counts i)[((s.qB[i]!).qI).toNat]!).length) H9) isAgg24 rfl (h79) (⟨H.pick [1] (zR 1 12),(ro 19 rfl ?_)⟩)
  obtain ⟨u1,u2⟩:=restR_row (c:=(s.qB[i]!).qI.toNat) p0 p1 p2 (show i<=_ by omega) qk
  have u3:=b1.len
  have u4:=b1.yQ (t:= -(counts[i]!)) qf
  refine oc (XB _ ((Qb s t counts i)[((s.qB[i]!).qI).toNat]!) ((s.qB[i]!).zk) (-(counts[i]!)) (H.get 0 rfl).1 (H.get 1 rfl).1 qg qg qg) ?_
  rintro v85 w83 r85 x84
  replace H:=H.zH x84 r85
  obtain ⟨a86,c87,rfl,axO,arf⟩:=H.jL 0 rfl
  refine ⟨H.pick [2] (zR 1 12),(tI 20 rfl rfl rfl (H.pick [2] (zR 1 12)) ?_)⟩
  refine ro 21 rfl ?_
  obtain ⟨G91,N,as8,H⟩:=H.zN 0 rfl N (H.jA [8])
  refine yh true H 1 rfl 9 rfl (Sv a86 ((jT ((Qb s t counts i)[((s.qB[i]!).qI).toNat]!) ((s.qB[i]!).zk) (-(counts[i]!))).length) c87) 0 rfl rfl sizeOf24 rfl rfl (i:=(((s.qB[i]!).qI).toNat)) qf qf qm fun I4 axA F94 agl H=>?_
  replace N:Fresh w.heap.size [F94]:=(N.pick [1,0]).repl agl
  refine ⟨H.pick [2] (zR 3 12),(xw qh (b_n (t_n (xJ (sp (yI i) (sw (zn i 1 rfl rfl qf (sq 1 (xO (qX (m' :=(counts.length - ((i+1):Int)).toNat) qf ⟨_,i+1,_,_,_,uE5,?_,?_,?_,rfl,N,H.pick [1,2] (0::zR 11 4)⟩))))))))))⟩
  ·rfl
  ·omega
  ·exact i1.succ (fun h=>by obtain ⟨u,v⟩:=h;exact v (QQ qf ‹_›))
 refine zx4 (zcc (sp (yI 0) (zjn (qR (zl ((fun Z0 Z1 Z2=>fun m' ρ YS=>∃ (xE:Env) (aD:Nat),ρ=upd (upd xE 9 (Sv eP co dC)) 13 (yI aD)/\((aD:Int)<=co)/\(NonNeg (Qb s t counts i) aD)/\m' =(co - (aD:Int)).toNat/\Fresh w.heap.size [dK]/\St w YS [Z0,Z1] [Z2]) _ _ _) ((co - (0:Int)).toNat) ⟨_,0,uE2,qf,qx,rfl,N,H.pick [0,1] [0]⟩ ?_)))))
 clear H N
 rintro m' ρ N9 ⟨xE,aD,rfl,i0,i2,rfl,N,H⟩
 refine zcc (sq 2 (oN rfl (sq 1 (zjn (cD rfl (fun h98=>?_) (fun h98=>?_))))))
 ·have r1:=(restR_row (c:=aD) p0 p1 p2 (show i<=_ by omega) (show aD < xX s by omega)).1
  refine qV (t_n (xQ (qR (zcr (sp (yI 0) (zjn (qR (zl ((fun Z0 Z1 Z2=>fun m' ρ Zz=>∃ (xE:Env) (k:Nat),ρ=upd (upd (upd xE 9 (Sv eP co dC)) 13 (yI aD)) 14 (yI k)/\((k:Int)<=(((Qb s t counts i)[aD]!).length))/\(∀ j,j < k->0<=((Qb s t counts i)[aD]!)[j]!)/\m' =((((Qb s t counts i)[aD]!).length) - (k:Int)).toNat/\Fresh w.heap.size [dK]/\St w Zz [Z0,Z1] [Z2]) _ _ _) (((((Qb s t counts i)[aD]!).length) - (0:Int)).toNat) ⟨_,0,uE3,qf,qx,rfl,N,H⟩ ?_))))))))
  clear H N
  rintro m' ρ IOz ⟨xE,k,rfl,i0,i3,rfl,N,H⟩
  refine zcc (sp (yI k) (sq 2 ?_))
  obtain ⟨l0,rfl⟩:=H.jK 0 rfl qf
  refine oI rfl rfl ?_
  obtain ⟨ajN,al9,atA,avz,Od,H⟩:=H.yg 0 rfl 0 rfl (iv:=aD) aD qf qf
  refine oL rfl (Od) (oN rfl (sq 1 (zjn (cD rfl (fun NI=>?_) (fun NI=>?_)))))
  ·refine qV (t_n (xQ (qR (zcr (sq 2 (oI rfl rfl ?_))))))
   obtain ⟨Y4,V1,aiH,alf,O5,H⟩:=H.yg 0 rfl 1 rfl (iv:=aD) aD qf qf
   refine oL rfl (O5) (sp (yI k) ?_)
   obtain ⟨axZ,awi,rfl⟩:=H.addr 0 rfl qf
   refine oI rfl rfl (oL rfl (H.zA 0 rfl k qf) (sp (Bv (decide ((((Qb s t counts i)[aD]!)[k]! :Int) < 0))) (zjn (cD rfl (fun OE=>?_) (fun OE=>?_)))))
   ·refine zcr (sq 2 (sp (Bv false) (zjr (b_r (t_r (t_r (b_r (zr5 (ret2 (Sv (aa l0 0) co dC) (Bv false) rfl rfl rfl ⟨_,rfl,?_,H.base⟩)))))))))
    obtain rfl:i=counts.length:=by omega
    rw [stop_none (n:=counts.length) i1,xh (fun h=>by have:=h.2 aD qf k qf;omega)]
    exact ⟨(aa l0 0),co,dC,gj,dK,rfl,N,H.pick [0] [2]⟩
   refine qV (b_n (t_n (xJ (sp (yI k) (sw (zn k 1 rfl rfl qf (sq 1 (xO (qX (m' :=((((Qb s t counts i)[aD]!).length) - ((k+1):Int)).toNat) qf ⟨_,k+1,uE3,?_,?_,rfl,N,H.pick [0,1] [2]⟩)))))))))
   ·omega
   ·exact fun j hj=>by (by_cases e:j=k;(subst e;omega);exact i3 j qf)
  refine Qx (t_x (t_x (b_x (b_n (t_n (xJ (sq 1 (sw (zn aD 1 rfl rfl qf (sq 1 (xO (qX (m' :=(co - ((aD+1):Int)).toNat) qf ⟨_,aD+1,uE2,?_,?_,rfl,N,H.pick [0,1] [1]⟩))))))))))))
  ·omega
  ·exact i2.succ (fun j hj=>i3 j qf)
 refine zx4 (zcr (sq 2 (sp (Bv true) (zjr (ret2 (Sv eP co dC) (Bv true) rfl rfl rfl ⟨_,rfl,?_,H.base⟩)))))
 obtain rfl:i=counts.length:=by omega
 rw [stop_none (n:=counts.length) i1,jH ⟨i1,(show aD=t.qQ.length by omega)▸i2⟩]
 exact ⟨eP,co,dC,gj,dK,rfl,N,H.pick [0] [0]⟩
end
section
def FullOk (ae:yLL) (ai:yLI):Prop:=∀ i,i < ae.length->within (ae[i]!) ai=false
def FullTo (ae:yLL) (ai:yLI) (k:Nat):Prop:=∀ i,i < k->within (ae[i]!) ai=false
theorem FullTo.succ (h:FullTo ae ai k) (h1:within (ae[k]!) ai=false):FullTo ae ai (k+1):=fun j hj=>by
 by_cases e:j=k
 ·subst e;exact h1
 ·exact h j qf
open Classical in
noncomputable def packs (ae:yLL):Nat->Nat->yLI->yLL
 | 0,_,ai=>if FullOk ae ai then [[]] else []
 | f+1,k,ai=>(List.range ((jR (ae[k]!) ai).toNat+1)).flatMap fun (n:Nat)=>(packs ae f (k+1) (jT ai (ae[k]!) (-(n:Int)))).map ((n:Int) :: ·)
noncomputable def yA (ae:yLL) (f k:Nat) (ai:yLI) (m:Nat):yLL:=
 (List.range m).flatMap fun (n:Nat)=>(packs ae f (k+1) (jT ai (ae[k]!) (-(n:Int)))).map ((n:Int) :: ·)
theorem packs_succ (ae:yLL) (f k:Nat) (ai:yLI):packs ae (f+1) k ai=yA ae f k ai ((jR (ae[k]!) ai).toNat+1):=rfl
theorem packsTo_zero (ae:yLL) (f k:Nat) (ai:yLI):yA ae f k ai 0=[]:=rfl
theorem packsTo_succ (ae:yLL) (f k:Nat) (ai:yLI) (m:Nat):
 yA ae f k ai (m+1)=yA ae f k ai m++(packs ae f (k+1) (jT ai (ae[k]!) (-(m:Int)))).map ((m:Int) :: ·):=by
 simp [yA,List.range_succ]
theorem packs_full (h:FullOk ae ai):packs ae 0 k ai=[[]]:=by rw [packs,if_pos h]
theorem packs_none (h:¬ FullOk ae ai):packs ae 0 k ai=[]:=by rw [packs,if_neg h]
def gath (out more:yLL):yLL:=(out++more).take 2001
theorem gath_nil {out:yLL} (h:out.length<=2001):gath out []=out:=by unfold gath;rw [List.append_nil];exact List.take_of_length_le h
theorem gath_one {out:yLL} {x:yLI} (h:out.length<=2000):gath out [x]=out++[x]:=by
 unfold gath;rw [List.take_of_length_le];simp;omega
theorem gath_len (out more:yLL):(gath out more).length<=2001:=by simp [gath];omega
theorem gath_room {out more:yLL} (h:(gath out more).length<=2000):gath out more=out++more:=by
 unfold gath at *
 rw [List.length_take] at h
 exact List.take_of_length_le qf
theorem gath_cat {out a:yLL} (h:(gath out a).length<=2000):gath (gath out a) b=gath out (a++b):=by
 rw [gath_room h];simp [gath]
theorem gath_stop {out a:yLL} (h:¬ (gath out a).length<=2000):gath out a=gath out (a++b):=by
 unfold gath at *
 rw [List.length_take] at h
 rw [← List.append_assoc]
 exact (List.take_append_of_le_length (l₁:=out++a) (l₂:=b) qf).symm
def begins (b:yLI) (l:yLL):yLL:=l.map (b++·)
theorem begins_cat (b:yLI) (l m:yLL):begins b (l++m)=begins b l++begins b m:=by simp [begins]
theorem begins_cons (b:yLI) (n:Int) (l:yLL):begins b (l.map (n :: ·))=begins (b++[n]) l:=by simp [begins]
theorem begins_nil (l:yLL):begins [] l=l:=by simp [begins]
theorem begins_one (b:yLI):begins b [[]]=[b]:=by simp [begins]
theorem gath_step {m:Nat} {b:yLI} {out:yLL} (h:(gath out (begins b (yA ae f k ai m))).length<=2000):
 gath (gath out (begins b (yA ae f k ai m))) (begins (b++[(m:Int)]) (packs ae f (k+1) (jT ai (ae[k]!) (-(m:Int)))))=gath out (begins b (yA ae f k ai (m+1))):=by
 rw [gath_cat h,packsTo_succ,begins_cat,begins_cons]
theorem packsTo_more {ae:yLL} {f k:Nat} {ai:yLI}:∀ {m M:Nat},m<=M->∃ more,yA ae f k ai M=yA ae f k ai m++more
  | m, 0, h => ⟨[], by obtain rfl : m = 0 := by omega
                       simp⟩
  | m,M+1,h=>by
    by_cases e:m=M+1
    · subst e;exact ⟨[],by simp⟩
    · obtain ⟨more,hm⟩:=packsTo_more (ae:=ae) (f:=f) (k:=k) (ai:=ai) (show m<=M by omega)
      exact ⟨_,by rw [packsTo_succ,hm,List.append_assoc]⟩
theorem gath_end {m:Nat} {b:yLI} {out:yLL} (hm:m<=(jR (ae[k]!) ai).toNat+1) (h:m=(jR (ae[k]!) ai).toNat+1\/¬ (gath out (begins b (yA ae f k ai m))).length<=2000):
 gath out (begins b (yA ae f k ai m))=gath out (begins b (packs ae (f+1) k ai)):=by
 rw [packs_succ]
 rcases h with h | h
 ·rw [h]
 ·obtain ⟨more,e⟩:=packsTo_more (ae:=ae) (f:=f) (k:=k) (ai:=ai) hm
  rw [e,begins_cat]
  exact gath_stop h
open Classical in
noncomputable def yD (b:yLI) (ae:yLL):yLL×Int:=
 if QS b > 16 then ([],3) else if (packs ae ae.length 0 b).length > 2000 then ([],3) else (packs ae ae.length 0 b,0)
theorem gath_all {l:yLL}:(gath [] l).length > 2000<->l.length > 2000:=by unfold gath;rw [List.nil_append,List.length_take];omega
theorem gath_few {l:yLL} (h:¬ l.length > 2000):gath [] l=l:=by unfold gath;rw [List.nil_append];exact List.take_of_length_le qf
theorem packs_len {ae:yLL}:∀ {f k:Nat} {ai x:yLI},x∈packs ae f k ai->x.length=f
 | 0,k,ai,x,h=>by
  rw [packs] at h
  split at h
  ·obtain rfl:=List.mem_singleton.1 h;rfl
  ·simp at h
 | f+1,k,ai,x,h=>by
  rw [packs,List.mem_flatMap] at h
  obtain ⟨n,_,h⟩:=h
  obtain ⟨y,hy,rfl⟩:=List.mem_map.1 h
  rw [List.length_cons,packs_len hy]
def PartsOk (K:Nat) (ae:yLL):Prop:=∀ i,i < ae.length->(ae[i]!).length=K/\(∀ q,q < K->0<=(ae[i]!)[q]! /\(ae[i]!)[q]! <=1000)/\∃ j,j < K/\0 < (ae[i]!)[j]!
def RestOk (K:Nat) (ai:yLI):Prop:=ai.length=K/\∀ q,q < K->0<=ai[q]! /\ai[q]! <=1000
def Vs (ae:yLL) (ai:yLI):Prop:=∃ K,K<=8/\PartsOk K ae/\RestOk K ai/\ae.length<=8
theorem times_bd (hP:PartsOk K ae) (hR:RestOk K ai) (hk:k < ae.length):0<=jR (ae[k]!) ai/\jR (ae[k]!) ai<=1000:=
 timesTo_bd (fun q hq=>(hR.2 q (by have:=(hP k hk).1;omega)).1) _ (Nat.le_refl _)
theorem take_get (hP:PartsOk K ae) (hR:RestOk K ai) (hk:k < ae.length) {n:Int} (h0:0<=n) (h1:n<=jR (ae[k]!) ai) {q:Nat} (hq:q < K):
 0<=ai[q]! + -n * (ae[k]!)[q]! /\ai[q]! + -n * (ae[k]!)[q]! <=ai[q]! :=by
 obtain ⟨hl,hb,_⟩:=hP k hk
 have a:=timesL_left (l:=ae[k]!) (m:=ai) (fun j hj=>(hb j qf).1) (fun j hj=>(hR.2 j qf).1) (k:=q) qf
 have b:=Int.mul_le_mul_of_nonneg_right h1 (hb q hq).1
 have c:=Int.mul_nonneg h0 (hb q hq).1
 have d: -n * (ae[k]!)[q]! = -(n * (ae[k]!)[q]!):=Int.neg_mul ..
 have e: -(jR (ae[k]!) ai) * (ae[k]!)[q]! = -(jR (ae[k]!) ai * (ae[k]!)[q]!):=Int.neg_mul ..
 omega
theorem RestOk.take (hP:PartsOk K ae) (hR:RestOk K ai) (hk:k < ae.length) {n:Int} (h0:0<=n) (h1:n<=jR (ae[k]!) ai):RestOk K (jT ai (ae[k]!) (-n)):=by
 refine ⟨by rw [Qd];exact hR.1,fun q hq=>?_⟩
 rw [Vz (by have:=hR.1;omega)]
 have:=take_get hP hR hk h0 h1 hq
 have:=hR.2 q hq
 omega
theorem Vs.times (h:Vs ae ai) (hk:k < ae.length):
 (ae[k]!).length<=ai.length/\(∀ q,q < (ae[k]!).length->0<=ai[q]! /\ai[q]! <=1000)/\(∃ j,j < (ae[k]!).length/\0 < (ae[k]!)[j]!)/\ai.length<=8/\0<=jR (ae[k]!) ai/\jR (ae[k]!) ai<=1000:=by
 obtain ⟨K,hK,hP,hR,hn⟩:=h
 obtain ⟨hl,hb,hj⟩:=hP k hk
 have ht:=times_bd hP hR hk
 refine ⟨by have:=hR.1;omega,fun q hq=>hR.2 q qf,by rw [hl];exact hj,by have:=hR.1;omega,ht⟩
theorem Vs.plus (h:Vs ae ai) (hk:k < ae.length) {n:Int} (h0:0<=n) (h1:n<=jR (ae[k]!) ai):
 ai.length<=(ae[k]!).length/\Mid ai/\SmallT (ae[k]!) (-n)/\Vs ae (jT ai (ae[k]!) (-n)):=by
 obtain ⟨K,hK,hP,hR,hn⟩:=h
 obtain ⟨hl,hb,hj⟩:=hP k hk
 have ht:=times_bd hP hR hk
 refine ⟨by have:=hR.1;omega,⟨by have:=hR.1;omega,fun q hq=>by have:=hR.2 q (by have:=hR.1;omega);omega⟩,fun q hq=>?_,K,hK,hP,hR.take hP hk h0 h1,hn⟩
 have a:=hb q qf
 have b:=Int.mul_nonneg h0 a.1
 have c:=Int.mul_le_mul (show n<=1000 by omega) a.2 a.1 qf
 have d: -n * (ae[k]!)[q]! = -(n * (ae[k]!)[q]!):=Int.neg_mul ..
 omega
theorem Vs.small (h:Vs ae ai):ai.length<=8/\ae.length<=8:=by
 obtain ⟨K,hK,_,hR,hn⟩:=h
 exact ⟨by have:=hR.1;omega,hn⟩
theorem Vs.smallB (h:Vs ae ai):Small ai:=by
 obtain ⟨K,hK,_,hR,hn⟩:=h
 exact ⟨by have:=hR.1;omega,fun q hq=>by have:=hR.2 q (by have:=hR.1;omega);omega⟩
theorem pack_step {out:yLL} (hf:aG.length+f=ae.length) (hp:aG.length < ae.length)
 (h:(gath out (begins aG (yA ae (f - 1) aG.length ai n))).length<=2000):
 gath (gath out (begins aG (yA ae (f - 1) aG.length ai n))) (begins (aG ++[(n:Int)]) (packs ae (ae.length - (aG ++[(n:Int)]).length) (aG ++[(n:Int)]).length (jT ai (ae[aG.length]!) (-(n:Int)))))=
  gath out (begins aG (yA ae (f - 1) aG.length ai (n+1))):=by
 rw [← gath_step h,List.length_append,List.length_cons,List.length_nil,show ae.length - (aG.length+(0+1))=f - 1 by omega]
theorem pack_start {out:yLL} (h:out.length<=2000):out=gath out (begins aG (yA ae f aG.length ai 0)):=by
 rw [packsTo_zero];exact (gath_nil qf).symm
theorem pack_full {out:yLL} (hl:aG.length=ae.length) (h:FullOk ae ai) (ho:out.length<=2000):
 gath out (begins aG (packs ae (ae.length - aG.length) aG.length ai))=out++[aG]:=by
 rw [show ae.length - aG.length=0 by omega,packs_full h,begins_one,gath_one ho]
theorem pack_none {out:yLL} (hl:aG.length=ae.length) (h:¬ FullOk ae ai) (ho:out.length<=2000):
 gath out (begins aG (packs ae (ae.length - aG.length) aG.length ai))=out:=by
 rw [show ae.length - aG.length=0 by omega,packs_none h];exact gath_nil qf
theorem pack_end {out:yLL} (hf:aG.length+f=ae.length) (hp:aG.length < ae.length) (hn:(n:Int)<=jR (ae[aG.length]!) ai+1)
 (h0:0<=jR (ae[aG.length]!) ai) (h:¬ (n:Int)<=jR (ae[aG.length]!) ai\/¬ ((gath out (begins aG (yA ae (f - 1) aG.length ai n))).length:Int)<=2000):
 gath out (begins aG (packs ae (ae.length - aG.length) aG.length ai))=gath out (begins aG (yA ae (f - 1) aG.length ai n)):=by
 obtain ⟨f,rfl⟩:∃ g,f=g+1:=⟨f - 1,by omega⟩
 rw [show ae.length - aG.length=f+1 by omega]
 rw [show f+1 - 1=f from rfl] at h ⊢
 exact (gath_end qf (by rcases h with h | h;(left;omega);(right;omega))).symm
theorem all_a {b:yLI} (h:QS b > 16):yD b ae=([],3):=by rw [yD,if_pos h]
theorem all_b {b:yLI} (h:¬ QS b > 16) (h1:((gath ([]:yLL) (begins ([]:yLI) (packs ae (ae.length - ([]:yLI).length) ([]:yLI).length b))).length:Int) > 2000):yD b ae=([],3):=by
 replace h1:(gath [] (begins [] (packs ae (ae.length - 0) 0 b))).length > 2000:=by have:((gath [] (begins [] (packs ae (ae.length - 0) 0 b))).length:Int) > 2000:=h1;omega
 rw [begins_nil] at h1
 have h2:(packs ae ae.length 0 b).length > 2000:=gath_all.1 h1
 rw [yD,if_neg h,if_pos h2]
theorem all_0 {b:yLI} (h:¬ QS b > 16) (h1:¬ ((gath ([]:yLL) (begins ([]:yLI) (packs ae (ae.length - ([]:yLI).length) ([]:yLI).length b))).length:Int) > 2000):
 yD b ae=(gath ([]:yLL) (begins ([]:yLI) (packs ae (ae.length - ([]:yLI).length) ([]:yLI).length b)),0):=by
 show yD b ae=(gath [] (begins [] (packs ae (ae.length - 0) 0 b)),0)
 replace h1:¬ (gath [] (begins [] (packs ae (ae.length - 0) 0 b))).length > 2000:=fun h=>h1 (by have:((gath [] (begins [] (packs ae (ae.length - 0) 0 b))).length:Int) > 2000:=qf;exact this)
 rw [begins_nil] at h1 ⊢
 have h2:¬ (packs ae ae.length 0 b).length > 2000:=fun h=>h1 (gath_all.2 h)
 rw [yD,if_neg h,if_neg h2,show ae.length - 0=ae.length from rfl,gath_few h2]
theorem fmap_le {α β:Type} {c:Nat} (g:α->List β):∀ (l:List α),(∀ x∈l,(g x).length<=c)->(l.flatMap g).length<=l.length * c
 | [],_=>by simp
 | x::l,h=>by
  have h1:=h x (List.mem_cons_self ..)
  have h2:=fmap_le g l fun y hy=>h y (List.mem_cons_of_mem _ hy)
  rw [List.flatMap_cons,List.length_append,List.length_cons,Nat.add_mul,Nat.one_mul]
  omega
theorem within_more (hP:PartsOk K ae) (hR:RestOk K ai) (hk:k < ae.length) {n:Int} (h0:0<=n) (h1:n < jR (ae[k]!) ai):
 within (ae[k]!) (jT ai (ae[k]!) (-n))=true:=by
 rw [within_iff]
 intro q hq
 obtain ⟨hl,hb,_⟩:=hP k hk
 rw [Vz (by have:=hR.1;omega)]
 have a:=(take_get hP hR hk (show 0<=n+1 by omega) qf (q:=q) qf).1
 have d: -n * (ae[k]!)[q]! = -(n * (ae[k]!)[q]!):=Int.neg_mul ..
 have e: -(n+1) * (ae[k]!)[q]! = -((n+1) * (ae[k]!)[q]!):=Int.neg_mul ..
 have g:(n+1) * (ae[k]!)[q]! =n * (ae[k]!)[q]! +(ae[k]!)[q]! :=by rw [Int.add_mul,Int.one_mul]
 omega
theorem within_none (hP:PartsOk K ae) (hR:RestOk K ai) (hk:k < ae.length) (hb:jR (ae[k]!) ai < 1000):
 within (ae[k]!) (jT ai (ae[k]!) (-(jR (ae[k]!) ai)))=false:=by
 rw [Bool.eq_false_iff]
 intro hw
 rw [within_iff] at hw
 obtain ⟨hl,SB,_⟩:=hP k hk
 have C8:∀ j,j<=(ae[k]!).length->jR (ae[k]!) ai+1<=Qp (ae[k]!) ai j:=by
  intro j
  induction j with
  | zero=>intro _;rw [Qp];omega
  | succ j ih=>
   intro hj
   have hi:=ih qf
   rw [Qp]
   split
   ·next NM=>
    have h1:=hw j qf
    rw [Vz (by have:=hR.1;omega)] at h1
    have e: -(jR (ae[k]!) ai) * (ae[k]!)[j]! = -(jR (ae[k]!) ai * (ae[k]!)[j]!):=Int.neg_mul ..
    have g:(jR (ae[k]!) ai+1) * (ae[k]!)[j]! =jR (ae[k]!) ai * (ae[k]!)[j]! +(ae[k]!)[j]! :=by rw [Int.add_mul,Int.one_mul]
    have:=(Int.le_ediv_iff_mul_le NM).2 (show (jR (ae[k]!) ai+1) * (ae[k]!)[j]! <=ai[j]! by omega)
    omega
   ·exact hi
 have:=C8 _ (Nat.le_refl _)
 unfold jR at this
 omega
theorem within_less {m':yLI} (hl:l.length=K) (h:within l m=false) (IX:∀ q,q < K->m'[q]! <=m[q]!):within l m' =false:=by
 rw [Bool.eq_false_iff] at h ⊢
 intro hw
 rw [within_iff] at hw
 exact h (within_iff.2 fun q hq=>Int.le_trans (hw q hq) (IX q qf))
def Few (K:Nat) (ai:yLI):Prop:=∀ q,q < K->ai[q]! <=16
theorem Few.take (hF:Few K ai) (hP:PartsOk K ae) (hR:RestOk K ai) (hk:k < ae.length) {n:Int} (h0:0<=n) (h1:n<=jR (ae[k]!) ai):Few K (jT ai (ae[k]!) (-n)):=fun q hq=>by
 rw [Vz (by have:=hR.1;omega)]
 have:=take_get hP hR hk h0 h1 hq
 have:=hF q hq
 omega
theorem times_few (hF:Few K ai) (hP:PartsOk K ae) (hR:RestOk K ai) (hk:k < ae.length):jR (ae[k]!) ai<=16:=by
 obtain ⟨hl,hb,j,hj,NM⟩:=hP k hk
 have h1:=timesTo_le (l:=ae[k]!) (m:=ai) (k:=(ae[k]!).length) (j:=j) qf NM
 have h2:ai[j]! / (ae[k]!)[j]! <=16:=by
  exact Int.le_trans (Int.ediv_le_self _ (hR.2 j hj).1) (hF j hj)
 unfold jR
 omega
theorem packs_ne {K:Nat} {ae:yLL} (hP:PartsOk K ae):∀ (f k:Nat) (ai:yLI),k+f=ae.length->RestOk K ai->Few K ai->FullTo ae ai k->packs ae f k ai≠[]
 | 0,k,ai,hk,hR,hF,hT=>by
  rw [packs_full (fun i hi=>hT i qf)];simp
 | f+1,k,ai,hk,hR,hF,hT=>by
  have hb:=times_bd hP hR (k:=k) qf
  have GX:=times_few hF hP hR (k:=k) qf
  have h1:=packs_ne hP f (k+1) (jT ai (ae[k]!) (-(jR (ae[k]!) ai))) qf (hR.take hP qf hb.1 (Int.le_refl _)) (hF.take hP hR qf hb.1 (Int.le_refl _)) (by
   refine FullTo.succ (fun i hi=>?_) (within_none hP hR qf qf)
   refine within_less (K:=K) (hP i qf).1 (hT i hi) fun q hq=>?_
   rw [Vz (by have:=hR.1;omega)]
   exact (take_get hP hR qf hb.1 (Int.le_refl _) hq).2)
  obtain ⟨x,hx⟩:=List.exists_mem_of_ne_nil _ h1
  refine List.ne_nil_of_mem (a:=jR (ae[k]!) ai::x) ?_
  rw [packs,List.mem_flatMap]
  have e:(((jR (ae[k]!) ai).toNat:Nat):Int)=jR (ae[k]!) ai:=by omega
  refine ⟨(jR (ae[k]!) ai).toNat,List.mem_range.2 qf,List.mem_map.2 ⟨x,?_,by rw [e]⟩⟩
  rw [e];exact hx
theorem packs_few {K:Nat} {ae:yLL} (hP:PartsOk K ae):∀ (f k:Nat) (ai:yLI),k+(f+1)=ae.length->RestOk K ai->Few K ai->(packs ae (f+1) k ai).length<=17 ^ f
 | 0,k,ai,hk,hR,hF=>by
  rw [packs_succ,packsTo_succ,List.length_append,List.length_map]
  have h1:yA ae 0 k ai (jR (ae[k]!) ai).toNat=[]:=by
   rw [yA,List.flatMap_eq_nil_iff]
   intro n hn
   rw [List.mem_range] at hn
   rw [packs_none (fun h=>?_),List.map_nil]
   have h2:=within_more hP hR (k:=k) qf (n:=(n:Int)) qf qf
   rw [h k qf] at h2
   cases h2
  rw [h1,List.length_nil,Nat.zero_add,packs]
  split <;> simp
 | f+1,k,ai,hk,hR,hF=>by
  have hb:=times_bd hP hR (k:=k) qf
  have GX:=times_few hF hP hR (k:=k) qf
  rw [packs]
  refine Nat.le_trans (fmap_le (c:=17 ^ f) _ _ fun n hn=>?_) ?_
  ·rw [List.mem_range] at hn
   rw [List.length_map]
   exact packs_few hP f (k+1) _ qf (hR.take hP qf qf qf) (hF.take hP hR qf qf qf)
  ·rw [List.length_range,Nat.pow_succ,Nat.mul_comm]
   exact Nat.mul_le_mul_left _ qf
theorem sum_few (hR:RestOk K ai) (h:QS ai<=16):Few K ai:=by
 have C8:∀ n,n<=ai.length->0<=sumTo ai n/\∀ q,q < n->ai[q]! <=sumTo ai n:=by
  intro n
  induction n with
  | zero=>intro _;exact ⟨by simp [sumTo],fun q hq=>by omega⟩
  | succ n ih=>
   intro hn
   have hi:=ih qf
   have hr:=hR.2 n (by have:=hR.1;omega)
   rw [sumTo]
   refine ⟨by omega,fun q hq=>?_⟩
   by_cases e:q=n
   ·subst e;omega
   ·have:=hi.2 q qf;omega
 intro q hq
 have:=(C8 ai.length (Nat.le_refl _)).2 q (by have:=hR.1;omega)
 unfold QS at h
 omega
end
section
section
variable {α : Type}
def pickL (l:List α) (n:Nat) (is:yLN):List α:=(is.filterMap fun i=>l[i]?)++l.drop n
def pickI (len n:Nat) (is:yLN):yLN:=is++(List.range (len - n)).map (·+n)
theorem pickI_map (l:List α) (n:Nat) (is:yLN) (h:is.all (fun i=>Nat.blt i n)=true) (hn:n<=l.length):(pickI l.length n is).map (fun i=>l[i]?)=(pickL l n is).map some:=by
 unfold pickI pickL
 rw [List.map_append,List.map_append]
 congr 1
 ·refine pick_some l is ?_
  rw [List.all_eq_true] at h ⊢
  intro i hi
  have:=h i hi
  simp only [Nat.blt_eq] at this ⊢
  omega
 ·apply List.ext_getElem?
  intro i
  rcases Nat.lt_or_ge i (l.length - n) with h1 | h1
  ·simp [h1,Nat.add_comm]
  ·simp [h1]
theorem pickI_nodup (len n:Nat) (is:yLN) (h:is.all (fun i=>Nat.blt i n)=true) (hd:is.Nodup):(pickI len n is).Nodup:=by
 unfold pickI
 refine List.nodup_append.2 ⟨hd,?_,?_⟩
 ·exact List.Pairwise.map _ (fun a b (BT:a≠b)=>by omega) List.nodup_range
 ·intro a ha b hb
  rw [List.all_eq_true] at h
  have:=h a ha
  simp only [Nat.blt_eq] at this
  obtain ⟨c,_,rfl⟩:=List.mem_map.1 hb
  omega
end
section
variable {W0 w : World} {ps : List Prv} {Γ : List Fact}
theorem St.zU (H:St W0 w ps Γ) (n m:Nat) (is js:yLN) (hn:n<=ps.length) (hm:m<=Γ.length) (hi:is.all (fun i=>Nat.blt i n)=true:=by exact rfl) (hj:js.all (fun i=>Nat.blt i m)=true:=by exact rfl) (hd:is.Nodup:=by decide):
 St W0 w (pickL ps n is) (pickL Γ m js):=
 H.pick (pickI ps.length n is) (pickI Γ.length m js) (pickI_map ps n is hi hn) (pickI_map Γ m js hj hm) (pickI_nodup _ _ _ hi hd)
theorem St.yl {lv :List Prv} {Γ' :List Fact} (H:St W0 w ps Γ) (n m:Nat) (is js:yLN) (hn:n<=ps.length) (hm:m<=Γ.length)
 (hp:pickL ps n is=lv :=by simp only [pickL,List.filterMap_cons,List.filterMap_nil,List.getElem?_cons_zero,List.getElem?_cons_succ,List.drop_succ_cons,List.drop_zero,List.cons_append,List.nil_append];exact rfl)
 (hg:pickL Γ m js=Γ' :=by simp only [pickL,List.filterMap_cons,List.filterMap_nil,List.getElem?_cons_zero,List.getElem?_cons_succ,List.drop_succ_cons,List.drop_zero,List.cons_append,List.nil_append];exact rfl)
 (hi:is.all (fun i=>Nat.blt i n)=true:=by exact rfl) (hj:js.all (fun i=>Nat.blt i m)=true:=by exact rfl) (hd:is.Nodup:=by decide):St W0 w lv Γ' :=hp▸hg▸H.zU n m is js hn hm hi hj hd
theorem Fresh.zU {B:Nat} (N:Fresh B L) (n:Nat) (is:yLN) (hn:n<=L.length) (hi:is.all (fun i=>Nat.blt i n)=true:=by exact rfl) (hd:is.Nodup:=by decide):Fresh B (pickL L n is):=
 N.pick (pickI L.length n is) (pickI_map L n is hi hn) (pickI_nodup _ _ _ hi hd)
def Kept (Ns:List yLN) (Γ:List Fact):Prop:=∀ F∈Ns,∃ f∈Γ,f.F=F
theorem Kept.up (h:Kept Ns Γ) (f:Fact):Kept Ns (f::Γ):=fun F hF=>by
 obtain ⟨g,h1,h2⟩:=h F hF
 exact ⟨g,List.mem_cons_of_mem _ h1,h2⟩
theorem Kept.behind (h:Kept Ns Γ) (m:Nat) (e:Γ'.drop m=Γ):Kept Ns Γ' :=fun F hF=>by
 obtain ⟨g,h1,h2⟩:=h F hF
 exact ⟨g,List.mem_of_mem_drop (e▸h1),h2⟩
theorem Kept.nil (Γ:List Fact):Kept [] Γ:=fun F hF=>by cases hF
theorem Kept.cons (h:Kept Ns Γ) (i:Nat) {f:Fact} (hf:Γ[i]? =some f) (e:f.F=F):Kept (F::Ns) Γ:=fun G hG=>by
 rcases List.mem_cons.1 hG with rfl | hG
 ·exact ⟨f,List.mem_of_getElem? hf,e⟩
 ·exact h G hG
theorem St.ltK (H:St W0 w ps Γ) (h:Kept Ns Γ):∀ F∈Ns,∀ b∈F,b < w.heap.size:=fun F hF b hb=>by
 obtain ⟨f,h1,h2⟩:=h F hF
 exact ((H.facts f h1).2 b (h2▸hb)).1
theorem St.QG (H:St W0 w ps Γ) (h:Kept Ns Γ):∀ F∈Ns,∀ b∈F,∀ i,jP ps i≠some b:=fun F hF b hb=>by
 obtain ⟨f,h1,h2⟩:=h F hF
 exact ((H.facts f h1).2 b (h2▸hb)).2
theorem all_two {M:List yLN} {p:Nat->Prop} (h1:∀ F∈L,∀ b∈F,p b) (h2:∀ F∈M,∀ b∈F,p b):∀ F∈L++M,∀ b∈F,p b:=fun F hF b hb=>
 (List.mem_append.1 hF).elim (fun h=>h1 F h b hb) fun h=>h2 F h b hb
end
theorem QT [Dfr] {P:Program} {Q:Exit->Act->World->Prop} {l:List Oper} {id:Nat} (hm:P.follows .mixedOrders=true) (H:St W0 w ps Γ) (is js:yLN)
 (k:St W0 w.drew ps Γ->RW P l Q (fun w=>St W0 w (is.filterMap fun i=>ps[i]?) (js.filterMap fun i=>Γ[i]?)) n l.toArray.size (Array.replicate l.toArray.size false) ρ w.drew)
 (hi:is.all (fun i=>Nat.blt i ps.length)=true:=by simp) (hj:js.all (fun i=>Nat.blt i Γ.length)=true:=by simp) (hd:is.Nodup:=by decide):(Code.region id l.toArray true).wp P Q (mk n ρ) w:=by
 have H' :=H.ext (ext_drew _)
 exact c_draw (fun w=>St W0 w (is.filterMap fun i=>ps[i]?) (js.filterMap fun i=>Γ[i]?)) hm (H'.pick is js (pick_some ps is hi) (pick_some Γ js hj) hd) (k H')
theorem zL [Dfr] {P:Program} {Q:Exit->Act->World->Prop} {d:Nat} {ty:TypeId} {pos:String} {af:Array Edge} {K:Env->World->Prop} {x:Operand} {xs:Array Operand} {ts:Array TypeId} {f:FuncId} {fst lx:Array Value} {R:Value->World->Prop} (args:Array Value) (hv:ev n ρ x=.func (.func f) fst lx)
 (iT:fst.toList++xs.toList.map (ev n ρ)++lx.toList=args.toList) (hf:∀ args w,(callFunc f args).run P w=.ok (.enter f args) w)
 (hc:Calls P f args w fun e w' =>∃ v,e=.returned v/\R v w') (k:∀ v w',R v w' ->K (upd ρ d v) w'):OW P Q ⟨some d,.call ⟨.value x,xs,ts⟩,ty,pos,af,none⟩ n ρ w K:=
 zQ args hv iT hf (hc.mono fun _ w' ⟨v,he,hR⟩=>⟨v,he,k v w' hR⟩)
end
section
theorem l01Full_ok (w:World) (ai:yLI) (ae:yLL) {bj:yOA} {bk:Nat} {cY:yLN} (sH:zP w cY bj bk ai) (bK:zP w ax zO zK ae) (p0:Vs ae ai):Calls Tryz.prog 221 #[Sv bj ai.length bk,Sv zO ae.length zK] w (Ret (fun v w' =>v=Bv (dec (FullOk ae ai))) w):=by
 refine en func221 ntmps221 ?_
 have H:=((St.start w).arg bK).arg sH
 have mj:=qM bK
 clear sH bK
 have N:=Fresh.nil w.heap.size
 refine zcr (sp (Bv false) (zjcc (sp (yI 0) (zjn (qR (zl ((fun Z0 Z1=>fun m' ρ w1=>∃ (xE:Env) (i:Nat),ρ=upd (upd (upd xE 0 (Sv bj ai.length bk)) 1 (Sv zO ae.length zK)) 5 (yI i)/\((i:Int)<=ae.length)/\(FullTo ae ai i)/\m' =(ae.length - (i:Int)).toNat/\Fresh w.heap.size []/\St w w1 [] [Z0,Z1]) _ _) ((ae.length - (0:Int)).toNat) ⟨_,0,uE3,qf,qx,rfl,N,H⟩ ?_))))))
 clear H N
 rintro m' ρ w2 ⟨xE,i,rfl,i0,i1,rfl,N,H⟩
 refine zcc (sp (yI i) (sq 1 (oN rfl (sq 1 (zjn (cD rfl (fun h3=>?_) (fun h3=>?_)))))))
 ·refine qV (t_n (xQ (qR (zcr (sq 1 (sp (yI i) ?_))))))
  obtain ⟨b4,o5,rfl⟩:=H.addr 1 rfl qf
  obtain ⟨ae7,ce7,Fe7,H⟩:=H.zW 1 rfl i i qf qf qf
  refine oI rfl rfl (oL rfl (H.xP 1 rfl 0 rfl) (sq 1 ?_))
  obtain ⟨t1,t2⟩:=p0.times (k:=i) qf
  refine sw (oq (VJ _ (ae[i]!) ai (H.get 0 rfl).1 (H.get 2 rfl).1 qg) H fun w9 H=>zjn (zT _ rfl (fun aU=>?_) (fun aU=>?_)))
  ·refine zcr (sp (Bv false) (zjr (zr5 (rH1 (Bv false) H ?_))))
   rw [xh (fun h=>by have:=h i qf;simp_all)]
  refine qV (b_n (t_n (xJ (sp (yI i) (sw (zn i 1 rfl rfl qf (sq 1 (xO (qX (m' :=(ae.length - ((i+1):Int)).toNat) qf ⟨_,i+1,uE3,?_,?_,rfl,N,H.pick [] [2,3]⟩)))))))))
  ·omega
  ·exact i1.succ ‹_›
 refine zx4 (zcr (sp (Bv true) (zjr (rH1 (Bv true) H ?_))))
 rw [jH (show FullOk ae ai from fun j hj=>i1 j qf)]
def l01Pack_ok_S (f:Nat):Prop:=∀ {W0 w:World} {ps:List Prv} {Γ:List Fact} {Ns:List yLN} (ai:yLI) (ae:yLL) (jQ:yLI) (out:yLL) (bj:yOA) (bk:Nat) (cY:yLN) (zO:yOA) (zK:Nat) (ax:yLN) (eB:yOA) (eO:Nat) (jn:yLN) (nN:Nat) (cz:yOA) (ju:Nat) (cG:Nat) (cF:List Value) (aQ:yLN) (H:St W0 w ((.box nN [Sv cz ju cG] 29)::(rr cz ju cG 24 1 cF)::ps) ((sF false cY bj bk ai)::(sF false ax zO zK ae)::(sF false jn eB eO jQ)::(xy true aQ cF out)::Γ)) (N:Fresh W0.heap.size (aQ::Ns)) (K0:Kept Ns Γ) (p0:jQ.length+f=ae.length) (p1:Vs ae ai) (p2:out.length<=2000),Calls Tryz.prog 213 #[Sv bj ai.length bk,Sv zO ae.length zK,Sv eB jQ.length eO,pp nN 0] w (fun e w' =>∃ v,e=.returned v/\∃ (eK:yOA) (fa:Nat) (e6:Nat) (et:List Value) (eU:yLN),v=.tuple #[]/\Fresh W0.heap.size (eU::Ns)/\St W0 w' ((.box nN [Sv eK fa e6] 29)::(rr eK fa e6 24 1 et)::ps) ((sF false cY bj bk ai)::(sF false ax zO zK ae)::(sF false jn eB eO jQ)::(xy true eU et (gath out (begins jQ (packs ae (ae.length - jQ.length) jQ.length ai))))::Γ))
theorem l01Pack_ok_step (f:Nat) (IH:∀ k,k < f->l01Pack_ok_S k) (ai:yLI) (ae:yLL) (jQ:yLI) (out:yLL) (bj:yOA) (bk:Nat) (cY:yLN) (zO:yOA) (zK:Nat) (ax:yLN) (eB:yOA) (eO:Nat) (jn:yLN) (nN:Nat) (cz:yOA) (ju:Nat) (cG:Nat) (cF:List Value) (aQ:yLN) (H:St W0 w ((.box nN [Sv cz ju cG] 29)::(rr cz ju cG 24 1 cF)::ps) ((sF false cY bj bk ai)::(sF false ax zO zK ae)::(sF false jn eB eO jQ)::(xy true aQ cF out)::Γ)) (N:Fresh W0.heap.size (aQ::Ns)) (K0:Kept Ns Γ) (p0:jQ.length+f=ae.length) (p1:Vs ae ai) (p2:out.length<=2000):Calls Tryz.prog 213 #[Sv bj ai.length bk,Sv zO ae.length zK,Sv eB jQ.length eO,pp nN 0] w (fun e w' =>∃ v,e=.returned v/\∃ (eK:yOA) (fa:Nat) (e6:Nat) (et:List Value) (eU:yLN),v=.tuple #[]/\Fresh W0.heap.size (eU::Ns)/\St W0 w' ((.box nN [Sv eK fa e6] 29)::(rr eK fa e6 24 1 et)::ps) ((sF false cY bj bk ai)::(sF false ax zO zK ae)::(sF false jn eB eO jQ)::(xy true eU et (gath out (begins jQ (packs ae (ae.length - jQ.length) jQ.length ai))))::Γ)):=by
 refine en func213 ntmps213 ?_
 have mj:=qM (H.get 1 rfl).1
 have aee:=qM (H.get 2 rfl).1
 obtain rfl:=H.zg (α:=yLI) 1 rfl 3 rfl qj
 have p3:=p1.small
 refine zcr (sq 1 (oN rfl (sq 1 (zjcc (sq 2 (oN rfl (sq 1 (zjn (cE rfl (fun h1=>?_) (fun h1=>?_))))))))))
 ·refine zcc (sq 2 (sw (oq (l01Full_ok _ ai ae (H.get 0 rfl).1 (H.get 1 rfl).1 qg) H fun w3 H=>zjn (cP rfl (fun h5=>?_) (fun h5=>?_)))))
  ·refine VP (fun ρ nr=>∃ (xE:Env) (a6:yOA) (c7:Nat) (a8:yOA) (c9:Nat) (TL:yLN),ρ=xE/\Fresh W0.heap.size ((aQ++TL)::Ns)/\St W0 nr ((.box nN [Sv a6 (out.length+1) c7] 29)::(rr a6 (out.length+1) c7 24 1 (cF++[Sv a8 jQ.length c9]))::ps) ((xy true (aQ++TL) (cF++[Sv a8 jQ.length c9]) (out++[jQ]))::(sF true TL a8 c9 jQ)::(sF false cY bj bk ai)::(sF false ax zO zK ae)::(sF false jn eB eO jQ)::Γ)) ?_ ?_
   ·refine QT rfl H [] [0,1,2,3] fun H=>?_
    have S:=H.jm [] (zR 0 4)
    refine rtl 0 S ?_
    refine rtl 1 S ?_
    refine rtl 2 S ?_
    refine rtl 4 S ?_
    refine vK [3,5] qh qm (jb rfl ?_ (jb rfl ?_ vM))
    ·refine x9 (Sv cz out.length cG) isAgg29 rfl (H.cell 0 rfl rfl) (⟨H.pick [] (zR 0 4),(ro 5 rfl ?_)⟩)
     refine oc (QZ _ jQ (H.get 2 rfl).1 qg) ?_
     rintro v18 yb sv x17
     replace H:=H.zH x17 sv
     obtain ⟨a19,c20,rfl,arR,arw⟩:=H.jL 0 rfl
     refine ⟨H.pick [] (zR 0 4),(ro 6 rfl (zf H underlying29 ti24 [Sv a19 jQ.length c20] fun PV Bo H=>⟨H.pick [] (zR 0 4),(ro 7 rfl ?_)⟩))⟩
     obtain ⟨G28,N,atk,H⟩:=H.zN 1 rfl N (fun F hF b hb=>(List.mem_append.1 (show F∈[aQ]++Ns from hF)).elim (fun h=>(H.jA (L:=[aQ]) [3]) F h b hb) fun h=>H.QG (K0.behind 4 rfl) F h b hb)
     dsimp only [List.set] at H
     refine zo H 3 rfl 0 rfl underlying29 ti24 rfl qj rfl rfl rfl qw qp qf fun a25 c26 Ge H=>?_
     dsimp only [List.set] at H
     replace H:=H.yx 4 rfl 0 rfl
     replace N:Fresh W0.heap.size ((aQ++G28)::Ns):=(N.zU 2 [1,0] qo).join
     refine ⟨H.pick [] (zR 2 4),(rtl 8 (H.pick [] (zR 2 4)) ?_)⟩
     refine ro 9 rfl (xH H 2 [Sv a25 (out.length+1) c26] sizeOf29 fun AP H=>?_)
     dsimp only [List.set] at H
     refine ⟨H.pick [] (zR 2 4),(xw qh ((meet ⟨_,a25,c26,a19,c20,G28,(by exact rfl),N,H.zU 4 6 [2,3] (zR 0 5) qo qo⟩)))⟩
    refine oc (QZ _ jQ (H.get 2 rfl).1 qg) ?_
    rintro v36 Dg r36 x35
    replace H:=H.zH x35 r36
    obtain ⟨T2,TB,rfl,awF,ayl⟩:=H.jL 0 rfl
    refine ⟨H.pick [] (zR 0 4),(vK [3,6] qh qm (jb rfl ?_ (jb rfl ?_ vM)))⟩
    ·refine x9 (Sv cz out.length cG) isAgg29 rfl (H.cell 1 rfl rfl) (⟨H.pick [] (zR 0 4),(ro 6 rfl (zf H underlying29 ti24 [Sv T2 jQ.length TB] fun Bd wR H=>⟨H.pick [] (zR 0 4),(ro 7 rfl ?_)⟩))⟩)
     obtain ⟨G46,N,axm,H⟩:=H.zN 1 rfl N (fun F hF b hb=>(List.mem_append.1 (show F∈[aQ]++Ns from hF)).elim (fun h=>(H.jA (L:=[aQ]) [3]) F h b hb) fun h=>H.QG (K0.behind 4 rfl) F h b hb)
     dsimp only [List.set] at H
     refine zo H 3 rfl 0 rfl underlying29 ti24 rfl qj rfl rfl rfl qw qp qf fun Sh Yf Ou H=>?_
     dsimp only [List.set] at H
     replace H:=H.yx 4 rfl 0 rfl
     replace N:Fresh W0.heap.size ((aQ++G46)::Ns):=(N.zU 2 [1,0] qo).join
     refine ⟨H.pick [] (zR 2 4),(rtl 8 (H.pick [] (zR 2 4)) ?_)⟩
     refine ro 9 rfl (xH H 2 [Sv Sh (out.length+1) Yf] sizeOf29 fun Pc H=>?_)
     dsimp only [List.set] at H
     refine ⟨H.pick [] (zR 2 4),(xw qh ((meet ⟨_,Sh,Yf,T2,TB,G46,(by exact rfl),N,H.zU 4 6 [2,3] (zR 0 5) qo qo⟩)))⟩
    refine zf H underlying29 ti24 [Sv T2 jQ.length TB] fun Mb HC H=>⟨H.pick [] (zR 0 4),(ro 3 rfl (x9 (Sv cz out.length cG) isAgg29 rfl (H.cell 2 rfl rfl) (⟨H.pick [] (zR 0 4),(ro 7 rfl ?_)⟩)))⟩
    obtain ⟨SD,N,ajt,H⟩:=H.zN 1 rfl N (fun F hF b hb=>(List.mem_append.1 (show F∈[aQ]++Ns from hF)).elim (fun h=>(H.jA (L:=[aQ]) [3]) F h b hb) fun h=>H.QG (K0.behind 4 rfl) F h b hb)
    dsimp only [List.set] at H
    refine zo H 3 rfl 0 rfl underlying29 ti24 rfl qj rfl rfl rfl qw qp qf fun a51 c52 Hi H=>?_
    dsimp only [List.set] at H
    replace H:=H.yx 4 rfl 0 rfl
    replace N:Fresh W0.heap.size ((aQ++SD)::Ns):=(N.zU 2 [1,0] qo).join
    refine ⟨H.pick [] (zR 2 4),(rtl 8 (H.pick [] (zR 2 4)) ?_)⟩
    refine ro 9 rfl (xH H 2 [Sv a51 (out.length+1) c52] sizeOf29 fun L8 H=>?_)
    dsimp only [List.set] at H
    refine ⟨H.pick [] (zR 2 4),(xw qh ((meet ⟨_,a51,c52,T2,TB,SD,(by exact rfl),N,H.zU 4 6 [2,3] (zR 0 5) qo qo⟩)))⟩
   clear H N
   rintro ρ PZ ⟨xE,a6,c7,a8,c9,TL,rfl,N,H⟩
   refine t_n (c_ret (t_r (ret0' rfl ⟨_,rfl,?_⟩)))
   rw [pack_full qf ‹_› p2]
   exact ⟨a6,out.length+1,c7,cF++[Value.slice a8 jQ.length c9],(aQ++TL),rfl,N,H.zU 2 5 [0,1] [2,3,4,0] qo qo⟩
  refine qV (t_n (c_ret (t_r (ret0' rfl ⟨_,rfl,?_⟩))))
  rw [pack_none qf ‹_› p2]
  exact ⟨cz,out.length,cG,cF,aQ,rfl,N,H.zU 2 4 [0,1] (zR 0 4) qo qo⟩
 refine qV (t_n (zcr (sp (yI 0) (zjn (qR ?_)))))
 obtain ⟨t1,t2,t3,t4,t5,t6⟩:=p1.times (k:=jQ.length) qf
 refine zl ((fun Z0 Z1 Z2=>fun m' ρ Jp=>∃ (xE:Env) (n:Nat) (jB:yOA) (vC:Nat) (jw:Nat) (du:yLL) (bC:List Value) (QW:yLN),ρ=upd (upd (upd (upd (upd (upd xE 0 (Sv bj ai.length bk)) 1 (Sv zO ae.length zK)) 2 (Sv eB jQ.length eO)) 3 (pp nN 0)) 8 (yI jQ.length)) 9 (yI n)/\du=gath out (begins jQ (yA ae (f - 1) jQ.length ai n))/\((n:Int)<=jR (ae[jQ.length]!) ai+1)/\m' =(jR (ae[jQ.length]!) ai+1 - (n:Int)).toNat/\Fresh W0.heap.size (QW::Ns)/\St W0 Jp ((.box nN [Sv jB vC jw] 29)::(rr jB vC jw 24 1 bC)::ps) (Z0::Z1::Z2::(xy true QW bC du)::Γ)) _ _ _) ((jR (ae[jQ.length]!) ai+1 - (0:Int)).toNat) ⟨_,0,cz,out.length,cG,out,cF,aQ,uE6,(by exact pack_start p2),qf,rfl,N,H⟩ ?_
 clear H N
 rintro m' ρ Hj ⟨xE,n,jB,vC,jw,du,bC,QW,rfl,rfl,i0,rfl,N,H⟩
 have bR:=H.zg (α:=yLI) 1 rfl 3 rfl qj
 have gl:=gath_len out (begins jQ (yA ae (f - 1) jQ.length ai n))
 refine zcc (sp (yI n) (sq 2 ?_))
 obtain ⟨C4,HZ,rfl⟩:=H.addr 1 rfl qf
 obtain ⟨Il,JU,UA,H⟩:=H.zW 1 rfl jQ.length jQ.length qf qf qf
 refine oI rfl rfl (oL rfl (H.xP 1 rfl 0 rfl) (sq 1 ?_))
 obtain ⟨t1,t2,t3,t4,t5,t6⟩:=p1.times (k:=jQ.length) qf
 refine sw (oq (l01Times_ok _ (ae[jQ.length]!) ai (H.get 0 rfl).1 (H.get 2 rfl).1 qg qg qg) H fun Pm H=>sp (Bv (decide ((n:Int)<=(jR (ae[jQ.length]!) ai)))) (sp (Bv (decide ((n:Int)<=(jR (ae[jQ.length]!) ai)))) ?_))
 cases wq:(decide ((n:Int)<=(jR (ae[jQ.length]!) ai)))
 ·replace wq:=of_decide_eq_false wq
  refine xR (zR 37 5) (sp (Bv false) (zjn (cFr rfl (Qx (t_x (t_x (b_x (ret0 rfl ⟨_,rfl,?_⟩))))))))
  rw [pack_end p0 qf qf qf (by (left;omega))]
  exact ⟨jB,vC,jw,bC,QW,rfl,N,H.zU 2 6 [0,1] (zR 2 4) qo qo⟩
 replace wq:=of_decide_eq_true wq
 refine qJ 36 rfl rfl (sq 1 (qJ 36 rfl rfl (sq 1 (qJ 36 rfl rfl (oL rfl (H.cell 0 rfl rfl) (qJ 36 rfl rfl (oN rfl (qJ 36 rfl rfl (sp (Bv (decide ((vC:Int)<=2000))) (sp (Bv (decide ((vC:Int)<=2000))) (zjn (cD rfl (fun Ez=>?_) (fun Ez=>?_)))))))))))))
 ·refine qV (t_n (xQ (qR (xJ (sq 3 (oI rfl rfl (oL rfl (H.xP 1 rfl 0 rfl) (sp (yI n) (sw (o_neg n rfl qf ?_))))))))))
  obtain ⟨u1,u2,u3,u4⟩:=p1.plus (k:=jQ.length) qf (n:=(n:Int)) qf qf
  refine sw (oc (XB _ ai (ae[jQ.length]!) (-n) (H.get 2 rfl).1 (H.get 0 rfl).1 qg qg qg) ?_)
  rintro v74 HE r74 x73
  replace H:=H.zH x73 r74
  obtain ⟨a75,H9,rfl,axQ,arZ⟩:=H.jL 0 rfl
  refine sq 2 (sw (oc (QZ _ jQ (H.get 4 rfl).1 qg) ?_))
  rintro v84 w82 r84 x83
  replace H:=H.zH x83 r84
  obtain ⟨a85,c86,rfl,ask,azi⟩:=H.jL 0 rfl
  refine sp (yI n) (sw (zf H underlying24 ti2 [yI n] fun b89 I4 H=>sw (zo H 1 rfl 0 rfl underlying24 ti2 rfl qj rfl rfl rfl qw qp qf fun OZ On w93 H=>?_)))
  rw [snocI] at H
  dsimp only [List.set] at H
  refine sq 1 ?_
  obtain ⟨HL,N,awK,H⟩:=H.zN 2 rfl N (fun F hF b hb=>(List.mem_append.1 (show F∈[QW]++Ns from hF)).elim (fun h=>(H.jA (L:=[QW]) [5]) F h b hb) fun h=>H.QG (K0.behind 6 rfl) F h b hb)
  dsimp only [List.set] at H
  replace H:=H.unfreeI 0 rfl
  obtain ⟨Di,N,UZ,H⟩:=H.zN 1 rfl N (fun F hF b hb=>(List.mem_append.1 (show F∈[HL,QW]++Ns from hF)).elim (fun h=>(H.jA (L:=[HL,QW]) [0,7]) F h b hb) fun h=>H.QG (K0.behind 8 rfl) F h b hb)
  dsimp only [List.set] at H
  replace H:=H.unfreeI 0 rfl
  have ac6:=H.isLen 0 rfl
  have H1:St W0 w93 ((.box nN [Sv jB vC jw] 29)::(.row (Sv jB vC jw) 24 1 vC bC)::(.box b89 [yI n] 2)::(.row yN 0 1 0 [])::(.row yN 0 1 0 [])::ps) ((isF false HL (Sv a75 ((jT ai (ae[jQ.length]!) (-n)).length) H9) (jT ai (ae[jQ.length]!) (-n)))::(isF false ax (Sv (aa C4 HZ) ae.length zK) ae)::(isF false Di (Sv OZ ((jQ++[(n:Int)]).length) On) (jQ++[(n:Int)]))::(xy true QW bC (gath out (begins jQ (yA ae (f - 1) jQ.length ai n))))::(isF false Di (Sv OZ (jQ.length+1) On) (jQ++[(n:Int)]))::(isF true Di (Sv OZ (jQ.length+1) On) (jQ++[(n:Int)]))::(isF false HL (Sv a75 ((jT ai (ae[jQ.length]!) (-n)).length) H9) (jT ai (ae[jQ.length]!) (-n)))::(isF true HL (Sv a75 ((jT ai (ae[jQ.length]!) (-n)).length) H9) (jT ai (ae[jQ.length]!) (-n)))::(isF false UA (Sv Il ((ae[jQ.length]!).length) JU) (ae[jQ.length]!))::(atF C4 (HZ+(jQ.length:Int).toNat * 1) [Sv Il ((ae[jQ.length]!).length) JU])::(isF false cY (Sv bj ai.length bk) ai)::(isF false ax (Sv (aa C4 HZ) ae.length zK) ae)::(isF false jn (Sv eB jQ.length eO) jQ)::Γ):=by (rw [← ac6]);exact H.zU 5 10 [3,4,0,1,2] (2::7::0::9::zR 0 9) qo qo
  have N1:Fresh _ (QW::Di::HL::Ns):=(N.zU 3 [2,0,1] qo)
  have K1:Kept (Ns) ((isF false Di (Sv OZ (jQ.length+1) On) (jQ++[(n:Int)]))::(isF true Di (Sv OZ (jQ.length+1) On) (jQ++[(n:Int)]))::(sF false HL a75 H9 (jT ai (ae[jQ.length]!) (-n)))::(sF true HL a75 H9 (jT ai (ae[jQ.length]!) (-n)))::(sF false UA Il JU (ae[jQ.length]!))::(atF C4 (HZ+(jQ.length:Int).toNat * 1) [Sv Il ((ae[jQ.length]!).length) JU])::(sF false cY bj bk ai)::(sF false ax (aa C4 HZ) zK ae)::(sF false jn eB eO jQ)::Γ):=K0.behind 9 rfl
  replace K1:=K1.cons (F:=HL) 2 rfl rfl
  replace K1:=K1.cons (F:=Di) 0 rfl rfl
  refine sw (zL #[Sv a75 ((jT ai (ae[jQ.length]!) (-n)).length) H9,Sv (aa C4 HZ) ae.length zK,Sv OZ (jQ.length+1) On,pp nN 0] rfl rfl call213 (VG (by rw [ac6]) (IH (f - 1) qf (jT ai (ae[jQ.length]!) (-n)) ae (jQ++[(n:Int)]) (gath out (begins jQ (yA ae (f - 1) jQ.length ai n))) a75 H9 HL (aa C4 HZ) zK ax OZ On Di nN jB vC jw bC QW H1 N1 K1 (by simp only [List.length_append,List.length_cons,List.length_nil];omega) (by assumption) (by omega))) ?_)
  clear H H1 N1 K1
  rintro _ Zz ⟨aoq,abc,aoF,apJ,apC,rfl,N,H⟩
  obtain rfl:=H.zg (α:=yLI) 1 rfl 3 rfl qj
  refine xO (b_n (t_n (xJ (sp (yI n) (sw (zn n 1 rfl rfl qf (sq 1 (xO (qX (m' :=(jR (ae[jQ.length]!) ai+1 - ((n+1):Int)).toNat) qf ⟨_,n+1,_,_,_,_,_,_,uE6,?_,?_,rfl,(N.zU 3 [0] qo),H.zU 5 13 [0,1] [10,11,12,3] qo qo⟩)))))))))
  ·exact pack_step p0 qf qf
  ·omega
 refine Qx (t_x (t_x (b_x (ret0 rfl ⟨_,rfl,?_⟩))))
 rw [pack_end p0 qf qf qf (by (right;omega))]
 exact ⟨jB,vC,jw,bC,QW,rfl,N,H.zU 2 6 [0,1] (zR 2 4) qo qo⟩
theorem l01Pack_ok (f:Nat):l01Pack_ok_S f:=Nat.strongRecOn (motive:=l01Pack_ok_S) f fun f IH=>by unfold l01Pack_ok_S;intros;apply l01Pack_ok_step f IH <;> assumption
theorem l01All_ok (w:World) (b:yLI) (ae:yLL) (hb:zP w Fb ab cb b) (bK:zP w ax zO zK ae) (p0:Vs ae b):Calls Tryz.prog 190 #[Sv ab b.length cb,Sv zO ae.length zK] w (Ret (fun v w' =>∃ (kN:yOA) (kY:Nat) (kQ:Nat) (kZ:List Value) (kR:yLN),v=.tuple #[Sv kN kY kQ,yI ((yD b ae).2)]/\Fresh w.heap.size [kR]/\St w w' [rr kN kY kQ 24 1 kZ] [xy true kR kZ ((yD b ae).1)]) w):=by
 refine en func190 ntmps190 ?_
 have H:=((St.start w).arg bK).arg hb
 have mj:=qM bK
 clear hb bK
 have N:=Fresh.nil w.heap.size
 have p3:=p0.small
 have p4:=p0.smallB
 refine zcr (sq 1 (sp (yI 0) (zjcc (sq 1 (sw (oq (XY _ b (H.get 0 rfl).1 (by assumption)) H fun w1 H=>sp (Bv (decide ((QS b:Int) > 16))) (zjn (cD rfl (fun h3=>?_) (fun h3=>?_)))))))))
 ·refine zcr (sw (vW H underlying29 ti24 fun b4 w5 H=>sq 1 (sp (yI 3) (zjr (t_r ?_)))))
  replace H:=H.boxRow 0 rfl 1 0 rfl qj
  replace H:=H.jo (α:=yLI)
  refine ret2 (Sv (aa b4 0) 0 0) (yI 3) rfl rfl rfl ⟨_,rfl,?_,H.base⟩
  rw [all_a ql]
  exact ⟨(aa b4 0),0,0,[],[],rfl,N.emp,H.pick [0] [0]⟩
 refine qV (t_n (zcr (sw (vW H underlying29 ti24 fun b6 w7 H=>sw (xq H ti29 [yN] fun b8 w9 H=>sw (xH H 0 [Sv (aa b6 0) 0 0] sizeOf29 fun nq H=>zjc (sq 2 (sw (vW H underlying24 ti2 fun ls uE H=>?_)))))))))
 replace H:=H.Xv 0 [] 0
 obtain ⟨LS,N,ayz,H⟩:=H.zN 0 rfl N (H.jA [])
 replace H:=H.unfreeI 0 rfl
 have Ww:=H.isLen 0 rfl
 replace H:=H.boxRow 2 rfl 1 0 rfl qj
 replace H:=H.jo (α:=yLI)
 have H1:St w uE [.box b8 [Sv (aa b6 0) 0 0] 29,.row (Sv (aa b6 0) 0 0) 24 1 0 [],.row yN 0 1 0 []] [isF false Fb (Sv ab b.length cb) b,isF false ax (Sv zO ae.length zK) ae,isF false LS (Sv (aa ls 0) (([]:yLI).length) 0) ([]:yLI),xy true [] [] ([]:yLL),isF false LS (Sv (aa ls 0) 0 0) ([]:yLI),isF true LS (Sv (aa ls 0) 0 0) ([]:yLI),isF false Fb (Sv ab b.length cb) b,isF false ax (Sv zO ae.length zK) ae]:=by (rw [← Ww]);exact H.pick [1,2,0] [3,4,1,0,1,2,3,4]
 have N1:Fresh _ [[],LS]:=N.emp
 have K1:Kept [] [isF false LS (Sv (aa ls 0) 0 0) ([]:yLI),isF true LS (Sv (aa ls 0) 0 0) ([]:yLI),sF false Fb ab cb b,sF false ax zO zK ae]:=Kept.nil _
 replace K1:=K1.cons (F:=LS) 0 rfl rfl
 refine sw (zL #[Sv ab b.length cb,Sv zO ae.length zK,Sv (aa ls 0) 0 0,pp b8 0] rfl rfl call213 (VG (by rfl) (l01Pack_ok (ae.length - ([]:yLI).length) b ae ([]:yLI) ([]:yLL) ab cb Fb zO zK ax (aa ls 0) 0 LS b8 (aa b6 0) 0 0 [] [] H1 N1 K1 (by simp only [List.length_append,List.length_cons,List.length_nil];omega) (by assumption) (by (simp only [List.length_nil];omega)))) ?_)
 clear H H1 N1 K1
 rintro _ yb ⟨uo,aso,fo,afN,aeK,rfl,N,H⟩
 obtain rfl:=H.zg (α:=yLI) 1 rfl 3 rfl qj
 refine zjcc (oL rfl (H.cell 0 rfl rfl) (oN rfl (sp (Bv (decide (((gath ([]:yLL) (begins ([]:yLI) (packs ae (ae.length - ([]:yLI).length) ([]:yLI).length b))).length:Int) > 2000))) (zjn (cD rfl (fun dd=>?_) (fun dd=>?_))))))
 ·refine zcr (sw (vW H underlying29 ti24 fun kJ rO H=>sq 1 (sp (yI 3) (zjr (t_r ?_)))))
  replace H:=H.boxRow 0 rfl 1 0 rfl qj
  replace H:=H.jo (α:=yLI)
  refine ret2 (Sv (aa kJ 0) 0 0) (yI 3) rfl rfl rfl ⟨_,rfl,?_,H.base⟩
  rw [all_b ql ql]
  exact ⟨(aa kJ 0),0,0,[],[],rfl,(N.emp.pick [0]),H.pick [0] [0]⟩
 refine qV (t_n (zcr (oL rfl (H.cell 0 rfl rfl) (sq 1 (sp (yI 0) (zjr (ret2 (Sv uo ((gath ([]:yLL) (begins ([]:yLI) (packs ae (ae.length - ([]:yLI).length) ([]:yLI).length b))).length) fo) (yI 0) rfl rfl rfl ⟨_,rfl,?_,H.base⟩)))))))
 rw [all_0 ql ql]
 exact ⟨uo,(gath ([]:yLL) (begins ([]:yLI) (packs ae (ae.length - ([]:yLI).length) ([]:yLI).length b))).length,fo,afN,aeK,rfl,(N.pick [0]),H.pick [1] [3]⟩
end
section
def ahead (a b:yLI):Prop:=∃ i,i < a.length/\(∀ j,j < i->a[j]! =b[j]!)/\a[i]! < b[i]!
def SameTo (a b:yLI) (k:Nat):Prop:=∀ j,j < k->a[j]! =b[j]!
theorem SameTo.succ {b:yLI} (h:SameTo a b k) (h1:a[k]! =b[k]!):SameTo a b (k+1):=fun j hj=>by
 by_cases e:j=k
 ·subst e;exact h1
 ·exact h j qf
theorem ahead_yes {b:yLI} (h:SameTo a b k) (hk:k < a.length) (h1:a[k]! < b[k]!):ahead a b:=⟨k,hk,h,h1⟩
theorem ahead_no {b:yLI} (h:SameTo a b k) (h1:¬ a[k]! < b[k]!) (h2:a[k]! ≠b[k]!):¬ ahead a b:=by
 rintro ⟨i,hi,hs,hl⟩
 rcases Nat.lt_or_ge i k with Un | Un
 ·rw [h i Un] at hl;omega
 ·rcases Nat.lt_or_eq_of_le Un with SX | SX
  ·exact h2 (hs k SX)
  ·subst SX;exact h1 hl
theorem ahead_same {b:yLI} (h:SameTo a b a.length):¬ ahead a b:=by
 rintro ⟨i,hi,_,hl⟩
 rw [h i hi] at hl;omega
theorem ahead_irr (a:yLI):¬ ahead a a:=ahead_same fun _ _=>rfl
theorem ahead_trans {b c:yLI} (BT:a.length=b.length) (h1:ahead a b) (h2:ahead b c):ahead a c:=by
 obtain ⟨i,hi,hs,hl⟩:=h1
 obtain ⟨k,hk,ht,hm⟩:=h2
 rcases Nat.lt_or_ge i k with h | h
 ·exact ⟨i,hi,fun j hj=>(hs j hj).trans (ht j qf),by rw [← ht i h];exact hl⟩
 ·rcases Nat.lt_or_eq_of_le h with h' | h'
  ·exact ⟨k,by omega,fun j hj=>(hs j qf).trans (ht j hj),by rw [hs k h'];exact hm⟩
  ·subst h'
   exact ⟨k,hi,fun j hj=>(hs j hj).trans (ht j hj),by omega⟩
theorem ahead_tri {b:yLI} (hl:a.length=b.length) (h1:¬ ahead a b) (h2:¬ ahead b a):a=b:=by
 have C8:∀ k,k<=a.length->SameTo a b k:=by
  intro k
  induction k with
  | zero=>intro _ j hj;omega
  | succ k ih=>
   intro hk
   have hs:=ih qf
   refine hs.succ ?_
   apply Classical.byContradiction
   intro kS
   rcases Int.lt_or_gt_of_ne kS with h | h
   ·exact h1 ⟨k,by omega,hs,h⟩
   ·exact h2 ⟨k,by omega,fun j hj=>(hs j hj).symm,h⟩
 exact ext_get hl fun k hk=>C8 _ (Nat.le_refl _) k hk
def InOrder (l:yLL):Prop:=l.Pairwise fun a b=>¬ ahead b a
theorem order_one {n:Nat}:∀ {l m:yLL},(∀ x∈l,x.length=n)->l.Perm m->InOrder l->InOrder m->l=m
 | [],m,_,hp,_,_=>(List.Perm.nil_eq hp)
 | x::l,m,hn,hp,hl,hm=>by
  cases m with
  | nil=>exact absurd hp.length_eq qm
  | cons y m=>
   have KM :=List.pairwise_cons.1 hl
   have hm' :=List.pairwise_cons.1 hm
   have hy:y∈x::l:=hp.symm.subset (List.mem_cons_self ..)
   have hx:x∈y::m:=hp.subset (List.mem_cons_self ..)
   have e:x=y:=by
    rcases List.mem_cons.1 hx with h | h
    ·exact h
    ·rcases List.mem_cons.1 hy with h' | h'
     ·exact h'.symm
     ·exact ahead_tri ((hn x (List.mem_cons_self ..)).trans (hn y (List.mem_cons_of_mem _ h')).symm) (hm'.1 x h) (KM.1 y h')
   subst e
   rw [order_one (fun z hz=>hn z (List.mem_cons_of_mem _ hz)) (List.Perm.cons_inv hp) KM.2 hm'.2]
def swapAt (l:yLL) (k:Nat):yLL:=(l.set k (l[k - 1]!)).set (k - 1) (l[k]!)
def OrderTo (l:yLL) (k:Nat):Prop:=InOrder (l.take k)
theorem orderTo_iff {l:yLL} (hk:k<=l.length):OrderTo l k<->∀ i j,i < j->j < k->¬ ahead (l[j]!) (l[i]!):=by
 unfold OrderTo InOrder
 rw [List.pairwise_iff_getElem]
 constructor
 ·intro h i j He hj
  have:=h i j (by rw [List.length_take];omega) (by rw [List.length_take];omega) He
  rw [List.getElem_take,List.getElem_take] at this
  rwa [getElem!_pos l i qf,getElem!_pos l j qf]
 ·intro h i j hi hj He
  rw [List.length_take] at hi hj
  rw [List.getElem_take,List.getElem_take,← getElem!_pos l i qf,← getElem!_pos l j qf]
  exact h i j He qf
theorem swap_len (l:yLL) (k:Nat):(swapAt l k).length=l.length:=by simp [swapAt]
theorem swap_get {l:yLL} (hk:0 < k) (hl:k < l.length):(swapAt l k)[p]! =if p=k - 1 then l[k]! else if p=k then l[k - 1]! else l[p]! :=by
 unfold swapAt
 rw [getset (by rw [List.length_set];omega),getset hl]
theorem swap_perm {l:yLL} (hk:0 < k) (hl:k < l.length):(swapAt l k).Perm l:=by
 obtain ⟨j,rfl⟩:∃ j,k=j+1:=⟨k - 1,by omega⟩
 have e1:l=l.take j++(l[j]! :: l[j+1]! :: l.drop (j+2)):=by
  rw [getElem!_pos l j qf,getElem!_pos l (j+1) hl]
  conv=>lhs;rw [← List.take_append_drop j l]
  rw [List.drop_eq_getElem_cons (show j < l.length by omega),List.drop_eq_getElem_cons hl]
 have e2:swapAt l (j+1)=l.take j++(l[j+1]! :: l[j]! :: l.drop (j+2)):=by
  have mK:(l.take j).length=j:=List.length_take_of_le qf
  refine ext_get (by rw [swap_len];simp;omega) fun p hp=>?_
  rw [swap_len] at hp
  rw [swap_get hk hl]
  have hp' :p < (l.take j++(l[j+1]! :: l[j]! :: l.drop (j+2))).length:=by simp;omega
  rw [getElem!_pos (l.take j++(l[j+1]! :: l[j]! :: l.drop (j+2))) p hp']
  by_cases h1:p < j
  ·rw [if_neg qf,if_neg qf,List.getElem_append_left qf,List.getElem_take,getElem!_pos l p hp]
  ·rw [List.getElem_append_right qf]
   simp only [mK]
   by_cases h2:p=j
   ·subst h2;simp
   ·by_cases h3:p=j+1
    ·subst h3;simp
    ·rw [if_neg qf,if_neg qf]
     obtain ⟨q,rfl⟩:∃ q,p=j+2+q:=⟨p - (j+2),by omega⟩
     rw [getElem!_pos l _ hp]
     have:j+2+q - j=q+1+1:=by omega
     simp only [this,List.getElem_cons_succ,List.getElem_drop]
 rw [e2]
 conv=>rhs;rw [e1]
 exact List.Perm.append_left _ (List.Perm.swap ..)
def InsTo (l:yLL) (i k:Nat):Prop:=∀ a b,a < b->b<=i->b≠k->¬ ahead (l[b]!) (l[a]!)
theorem InsTo.start {l:yLL} (h:∀ a b,a < b->b < i->¬ ahead (l[b]!) (l[a]!)):InsTo l i i:=fun a b BT hb kS=>h a b BT qf
theorem InsTo.down {l:yLL} (h:InsTo l i k) (hn:∀ j,j < l.length->(l[j]!).length=n) (hk:0 < k) (SX:k<=i) (hi:i < l.length) (h1:ahead (l[k]!) (l[k - 1]!)):InsTo (swapAt l k) i (k - 1):=by
 intro a b BT hb kS
 have hlk:=hn k qf
 have avf:=hn (k - 1) qf
 rw [swap_get hk qf,swap_get hk qf,if_neg kS]
 by_cases wj:b=k
 ·subst wj
  rw [if_pos rfl]
  by_cases ha:a=b - 1
  ·rw [if_pos ha]
   intro h2
   exact ahead_irr _ (ahead_trans qf h1 h2)
  ·rw [if_neg ha,if_neg qf]
   exact h a (b - 1) qf qf qf
 ·rw [if_neg wj]
  by_cases ha:a=k - 1
  ·rw [if_pos ha];exact h k b qf hb wj
  ·rw [if_neg ha]
   by_cases hak:a=k
   ·rw [if_pos hak];exact h (k - 1) b qf hb wj
   ·rw [if_neg hak];exact h a b BT hb wj
theorem InsTo.stop {l:yLL} (h:InsTo l i k) (hn:∀ j,j < l.length->(l[j]!).length=n) (SX:k<=i) (hi:i < l.length) (h1:k=0\/¬ ahead (l[k]!) (l[k - 1]!)):∀ a b,a < b->b < i+1->¬ ahead (l[b]!) (l[a]!):=by
 intro a b BT hb
 by_cases wj:b=k
 ·subst wj
  have h1:¬ ahead (l[b]!) (l[b - 1]!):=h1.resolve_left qf
  by_cases ha:a=b - 1
  ·subst ha;exact h1
  ·intro h2
   have h3:=h a (b - 1) qf qf qf
   have hla:=hn a qf
   have hlb:=hn b qf
   have av5:=hn (b - 1) qf
   by_cases h4:ahead (l[a]!) (l[b - 1]!)
   ·exact h1 (ahead_trans qf h2 h4)
   ·have e:=ahead_tri qf h4 h3
    rw [e] at h2;exact h1 h2
 ·exact h a b BT qf wj
noncomputable def cellT (s:qC) (t:qH) (k c:Nat):yLI:=(applL s t k).filter fun x=>decide ((s.qB[x.toNat]!).qI=(c:Int))
theorem cellT_yes (h:Appl s t k) (hc:(s.qB[k]!).qI=(c:Int)):cellT s t k c++[(k:Int)]=cellT s t (k+1) c:=by
 unfold cellT;rw [← applL_yes h,List.filter_append,List.filter_cons_of_pos (by rw [Int.toNat_natCast];exact decide_eq_true hc),List.filter_nil]
theorem Xu (h:¬ Appl s t k):cellT s t k c=cellT s t (k+1) c:=by
 unfold cellT;rw [← applL_no h]
theorem Q4 (h:¬ (s.qB[k]!).qI=(c:Int)):cellT s t k c=cellT s t (k+1) c:=by
 by_cases ha:Appl s t k
 ·unfold cellT;rw [← applL_yes ha,List.filter_append,List.filter_cons_of_neg (by rw [Int.toNat_natCast];simpa only [decide_eq_true_eq] using h),List.filter_nil,List.append_nil]
 ·exact Xu ha
def jd (s:qC) (l:yLI):yLL:=l.map fun x=>(s.qB[x.toNat]!).zk
theorem Xp (s:qC) (l:yLI):(jd s l).length=l.length:=by simp [jd]
theorem needs_snoc (s:qC) (l:yLI) (x:Int):jd s l++[(s.qB[x.toNat]!).zk]=jd s (l++[x]):=by simp [jd]
theorem needs_yes (h:Appl s t k) (hc:(s.qB[k]!).qI=(c:Int)):jd s (cellT s t k c)++[(s.qB[k]!).zk]=jd s (cellT s t (k+1) c):=by
 rw [← cellT_yes h hc];exact needs_snoc s _ (k:Int)
theorem needs_take (h:k < l.length):jd s (l.take k)++[(s.qB[(l[k]!).toNat]!).zk]=jd s (l.take (k+1)):=by rw [needs_snoc,take_snoc h]
theorem needs_get (h:k < l.length):(jd s l)[k]! =(s.qB[(l[k]!).toNat]!).zk:=by
 rw [getElem!_pos (jd s l) k (by rw [Xp];exact h)];simp [jd,getElem!_pos l k h]
noncomputable def je (s:qC) (t:qH) (c:Nat):yLI:=cellT s t s.qB.length c
noncomputable def cellP (s:qC) (t:qH) (c:Nat):yLL×Int:=yD (t.qQ[c]!) (jd s (je s t c))
theorem mem_cellT {x:Int} (h:x∈cellT s t k c):0<=x/\x.toNat < k/\Appl s t x.toNat/\(s.qB[x.toNat]!).qI=(c:Int):=by
 unfold cellT at h
 obtain ⟨h1,h2⟩:=List.mem_filter.1 h
 obtain ⟨a,b,d⟩:=mem_applL.1 h1
 exact ⟨a,b,d,by simpa using h2⟩
theorem cellT_at (h:j < (cellT s t k c).length):0<=(cellT s t k c)[j]! /\((cellT s t k c)[j]!).toNat < k/\Appl s t ((cellT s t k c)[j]!).toNat/\(s.qB[((cellT s t k c)[j]!).toNat]!).qI=(c:Int):=
 mem_cellT (by rw [getElem!_pos _ j h];exact List.getElem_mem h)
theorem cellR_at (h:j < (je s t c).length):0<=(je s t c)[j]! /\((je s t c)[j]!).toNat < s.qB.length/\Appl s t ((je s t c)[j]!).toNat/\(s.qB[((je s t c)[j]!).toNat]!).qI=(c:Int):=cellT_at h
theorem ofCell_all {s:qC} (hs:ve s) (c:Int):∀ k,k<=s.qB.length->Vb s.qB c k<=8
 | 0,_=>by simp [Vb]
 | k+1,hk=>by
  have h:=ofCell_all hs c k qf
  by_cases e:(s.qB[k]!).qI=c
  ·have:=(hs.2.2 k qf).2;rw [e] at this;exact this
  ·rw [Vb,if_neg e];omega
theorem cellT_len {s:qC} {t:qH} {c:Nat}:∀ k,((cellT s t k c).length:Int)<=Vb s.qB (c:Int) k
 | 0=>by simp [cellT,applL,Vb]
 | k+1=>by
  have h:=cellT_len (s:=s) (t:=t) (c:=c) k
  rw [Vb]
  by_cases e:(s.qB[k]!).qI=(c:Int)
  ·rw [if_pos e]
   by_cases ha:Appl s t k
   ·rw [← cellT_yes ha e,List.length_append,List.length_singleton];omega
   ·rw [← Xu ha];omega
  ·rw [if_neg e,← Q4 e];omega
theorem cellT_le (s:qC) (t:qH) (k c:Nat):(cellT s t k c).length<=k:=Nat.le_trans (List.length_filter_le _ _) (applL_le s t k)
theorem cellR_len (hs:ve s) (c:Nat):(je s t c).length<=8:=by
 have:=cellT_len (s:=s) (t:=t) (c:=c) s.qB.length
 have:=ofCell_all hs (c:Int) s.qB.length (Nat.le_refl _)
 unfold je;omega
theorem cell_parts (hs:ve s) (c:Nat):PartsOk (zt s) (jd s (je s t c)):=by
 intro i hi
 rw [Xp] at hi
 obtain ⟨a1,a2,a3,a4⟩:=cellR_at hi
 rw [needs_get hi]
 have q:=hs.rule a2
 have b:=q.2.2.2.2.1
 have hl:=b.len
 have Fj:=q.2.2.2.2.2.2.2.2.2.1
 obtain ⟨j,hj,hp⟩:=sum_pos b.1 Fj
 exact ⟨hl,fun q' Hh =>b.get qf,j,by omega,hp⟩
theorem cell_rest (ht:xZ s t) (hc:c < t.qQ.length):RestOk (zt s) (t.qQ[c]!):=by
 have b:=(ht.2.2.2.2 c hc).1
 exact ⟨b.len,fun q hq=>b.get (by have:=b.len;omega)⟩
theorem cell_pack (hs:ve s) (ht:xZ s t) (hc:c < t.qQ.length):Vs (jd s (je s t c)) (t.qQ[c]!):=
 ⟨zt s,kinds_le hs,cell_parts hs c,cell_rest ht hc,by rw [Xp];exact cellR_len hs c⟩
theorem all_cases {b:yLI}:(yD b ae=([],3))\/(QS b<=16/\yD b ae=(packs ae ae.length 0 b,0)/\(packs ae ae.length 0 b).length<=2000):=by
 unfold yD
 split
 ·exact .inl rfl
 ·split
  ·exact .inl rfl
  ·exact .inr ⟨by omega,rfl,by omega⟩
theorem all_len (b:yLI) (ae:yLL):(yD b ae).1.length<=2000:=by
 rcases all_cases (b:=b) (ae:=ae) with h | ⟨_,h,h1⟩ <;> rw [h]
 ·simp
 ·exact h1
theorem all_at {b:yLI} (h:x < (yD b ae).1.length):((yD b ae).1[x]!).length=ae.length:=by
 rcases all_cases (b:=b) (ae:=ae) with h1 | ⟨_,h1,_⟩
 ·rw [h1] at h;simp at h
 ·rw [h1] at h ⊢
  exact packs_len (by rw [getElem!_pos _ x h];exact List.getElem_mem h)
theorem all_code {b:yLI} (h:(yD b ae).2≠0):(yD b ae).2=3:=by
 rcases all_cases (b:=b) (ae:=ae) with h1 | ⟨_,h1,_⟩
 ·rw [h1]
 ·rw [h1] at h;exact absurd rfl h
def FewTo (s:qC) (t:qH) (k:Nat):Prop:=∀ c,c < k->(je s t c).length=0\/¬ QS (t.qQ[c]!) > 16
theorem FewTo.succ (h:FewTo s t k) (h1:(je s t k).length=0\/¬ QS (t.qQ[k]!) > 16):FewTo s t (k+1):=fun j hj=>by
 by_cases e:j=k
 ·subst e;exact h1
 ·exact h j qf
def GoodP (s:qC) (t:qH) (k:Nat):Prop:=∀ c,c < k->(je s t c).length=0\/(cellP s t c).2=0
theorem GoodP.succ (h:GoodP s t k) (h1:(je s t k).length=0\/(cellP s t k).2=0):GoodP s t (k+1):=fun j hj=>by
 by_cases e:j=k
 ·subst e;exact h1
 ·exact h j qf
theorem bad_sum (hc:c < n) (h:¬ (je s t c).length=0) (h1:QS (t.qQ[c]!) > 16):¬ GoodP s t n:=fun hg=>by
 rcases hg c hc with h2 | h2
 ·exact h h2
 ·unfold cellP at h2;rw [all_a h1] at h2;simp at h2
theorem bad_code (hc:c < n) (h:¬ (je s t c).length=0) (h1:¬ (cellP s t c).2=0):¬ GoodP s t n:=fun hg=>(hg c hc).elim h h1
noncomputable def Vd (s:qC) (t:qH) (k:Nat):yLN:=(List.range k).filter fun c=>decide ((je s t c).length≠0)
noncomputable def xN (s:qC) (t:qH) (k:Nat):yLL:=(Vd s t k).map (je s t)
noncomputable def zu (s:qC) (t:qH) (k:Nat):List yLL:=(Vd s t k).map fun c=>(cellP s t c).1
theorem live_yes (h:¬ (je s t k).length=0):Vd s t (k+1)=Vd s t k++[k]:=by unfold Vd;rw [List.range_succ,List.filter_append,List.filter_cons_of_pos (a:=k) (by simpa only [decide_eq_true_eq] using h),List.filter_nil]
theorem live_no (h:(je s t k).length=0):Vd s t (k+1)=Vd s t k:=by unfold Vd;rw [List.range_succ,List.filter_append,List.filter_cons_of_neg (by simp only [decide_eq_true_eq];exact fun x=>x h),List.filter_nil,List.append_nil]
theorem rules_yes (h:¬ (je s t k).length=0):xN s t k++[je s t k]=xN s t (k+1):=by simp [xN,live_yes h]
theorem rules_no (h:(je s t k).length=0):xN s t k=xN s t (k+1):=by simp [xN,live_no h]
theorem packsL_yes (h:¬ (je s t k).length=0):zu s t k++[(cellP s t k).1]=zu s t (k+1):=by simp [zu,live_yes h]
theorem packsL_no (h:(je s t k).length=0):zu s t k=zu s t (k+1):=by simp [zu,live_no h]
theorem live_le (s:qC) (t:qH) (k:Nat):(Vd s t k).length<=k:=by
 have:=List.length_filter_le (fun c=>decide ((je s t c).length≠0)) (List.range k)
 simpa [Vd] using this
theorem rules_le (s:qC) (t:qH) (k:Nat):(xN s t k).length<=k:=by simpa [xN] using live_le s t k
theorem packsL_le (s:qC) (t:qH) (k:Nat):(zu s t k).length=(xN s t k).length:=by simp [zu,xN]
theorem live_at (h:i < (xN s t k).length):∃ c,c < k/\¬ (je s t c).length=0/\(xN s t k)[i]! =je s t c/\(zu s t k)[i]! =(cellP s t c).1:=by
 have hl:i < (Vd s t k).length:=by simpa [xN] using h
 have hm:=List.mem_filter.1 (show (Vd s t k)[i]∈Vd s t k from List.getElem_mem hl)
 refine ⟨(Vd s t k)[i],by simpa using hm.1,by simpa using hm.2,?_,?_⟩
 ·rw [getElem!_pos _ i h];simp [xN]
 ·rw [getElem!_pos _ i (by rw [packsL_le];exact h)];simp [zu]
def Xt (all:List yLL):Nat->Nat
 | 0=>1
 | k+1=>Xt all k * (all[k]!).length
theorem prod_mul (all:List yLL) (k:Nat):((Xt all k:Nat):Int) * ((all[k]!).length:Int)=((Xt all (k+1):Nat):Int):=by rw [Xt,Int.natCast_mul]
theorem prod_mono {all:List yLL} {n:Nat} (h:∀ j,j < n->all[j]! ≠[]):∀ {j i:Nat},i<=j->j<=n->Xt all i<=Xt all j
  | 0, i, hi, _ => by obtain rfl : i = 0 := by omega
                      exact Nat.le_refl _
  | j+1,i,hi,hj=>by
    by_cases e:i=j+1
    · subst e;exact Nat.le_refl _
    · have h1:=prod_mono h (show i<=j by omega) qf
      have h2:0 < (all[j]!).length:=List.length_pos_iff.2 (h j qf)
      rw [Xt]
      exact Nat.le_trans h1 (Nat.le_mul_of_pos_right _ h2)
theorem prod_pre {l:List yLL} {x:yLL}:∀ {k:Nat},k<=l.length->Xt (l++[x]) k=Xt l k
 | 0,_=>rfl
 | k+1,h=>by
  rw [Xt,Xt,prod_pre qf]
  congr 1
  rw [getElem!_pos (l++[x]) k qy,getElem!_pos l k qf,List.getElem_append_left]
theorem prod_snoc (l:List yLL) (x:yLL):Xt (l++[x]) (l++[x]).length=Xt l l.length * x.length:=by
 rw [List.length_append,List.length_singleton,Xt,prod_pre (Nat.le_refl _)]
 congr 1
 rw [getElem!_pos (l++[x]) l.length qm];simp
theorem cellP_ne (hs:ve s) (ht:xZ s t) (hc:c < t.qQ.length) (h:(cellP s t c).2=0):(cellP s t c).1≠[]:=by
 unfold cellP at h ⊢
 rcases all_cases (b:=t.qQ[c]!) (ae:=jd s (je s t c)) with h1 | ⟨h0,h1,_⟩
 ·rw [h1] at h;simp at h
 ·rw [h1]
  exact packs_ne (cell_parts hs c) _ 0 _ (Nat.zero_add _) (cell_rest ht hc) (sum_few (cell_rest ht hc) h0) fun i hi=>by omega
theorem cellP_few (hs:ve s) (ht:xZ s t) (hc:c < t.qQ.length) (hr:¬ (je s t c).length=0):(cellP s t c).1.length<=17 ^ ((je s t c).length - 1):=by
 unfold cellP
 rcases all_cases (b:=t.qQ[c]!) (ae:=jd s (je s t c)) with h1 | ⟨h0,h1,_⟩
 ·rw [h1];simp
 ·rw [h1]
  have:=packs_few (cell_parts (t:=t) hs c) ((je s t c).length - 1) 0 _ (by rw [Xp];omega) (cell_rest ht hc) (sum_few (cell_rest ht hc) h0)
  rw [Xp,show (je s t c).length=(je s t c).length - 1+1 by omega]
  exact this
noncomputable def sumR (s:qC) (t:qH):Nat->Nat
 | 0=>0
 | k+1=>sumR s t k+(je s t k).length
theorem filter_two (f:Int->Int) (k:Int):∀ (l:yLI),(l.filter fun x=>decide (f x < k+1)).length=(l.filter fun x=>decide (f x < k)).length+(l.filter fun x=>decide (f x=k)).length
 | []=>rfl
 | x::l=>by
  have h:=filter_two f k l
  simp only [List.filter_cons]
  by_cases h1:f x < k
  ·rw [if_pos qy,if_pos (by simpa using h1),if_neg qy];simp only [List.length_cons];omega
  ·by_cases h2:f x=k
   ·rw [if_pos qy,if_neg (by simpa using h1),if_pos (by simpa using h2)];simp only [List.length_cons];omega
   ·rw [if_neg qy,if_neg (by simpa using h1),if_neg (by simpa using h2)];exact h
theorem sumR_eq (s:qC) (t:qH):∀ k,sumR s t k<=((appls s t).filter fun x=>decide ((s.qB[x.toNat]!).qI < (k:Int))).length
 | 0=>Nat.zero_le _
 | k+1=>by
  have h:=sumR_eq s t k
  have h2:=filter_two (fun x=>(s.qB[x.toNat]!).qI) (k:Int) (appls s t)
  rw [sumR,show ((k+1:Nat):Int)=(k:Int)+1 by omega,h2]
  exact Nat.add_le_add h (Nat.le_refl _)
theorem sumR_le (hs:ve s) (k:Nat):sumR s t k<=16:=
 Nat.le_trans (sumR_eq s t k) (Nat.le_trans (List.length_filter_le _ _) (Nat.le_trans (applL_le s t _) hs.2.1))
theorem prod_few {s:qC} {t:qH} (hs:ve s) (ht:xZ s t):∀ k,k<=t.qQ.length->Xt (zu s t k) (zu s t k).length<=17 ^ (sumR s t k - 1)
 | 0,_=>by show Xt [] 0<=_;rw [Xt];exact Nat.one_le_pow _ _ qj
 | k+1,hk=>by
  have h:=prod_few hs ht k qf
  rw [sumR]
  by_cases e:(je s t k).length=0
  ·rw [← packsL_no e,e];exact h
  ·rw [← packsL_yes e,prod_snoc]
   refine Nat.le_trans (Nat.mul_le_mul h (cellP_few hs ht qf e)) ?_
   rw [← Nat.pow_add]
   exact Nat.pow_le_pow_right qj qf
theorem packsL_ne (hs:ve s) (ht:xZ s t) (hk:k<=t.qQ.length) (hg:GoodP s t k):∀ j,j < (zu s t k).length->(zu s t k)[j]! ≠[]:=fun j hj=>by
 obtain ⟨c,hc,hr,_,h2⟩:=live_at (s:=s) (t:=t) (k:=k) (i:=j) (by rw [← packsL_le];exact hj)
 rw [h2]
 exact cellP_ne hs ht qf ((hg c hc).resolve_left hr)
theorem prod_bd (hs:ve s) (ht:xZ s t) (hk:k<=t.qQ.length) (hg:GoodP s t k):∀ j,j<=(zu s t k).length->((Xt (zu s t k) j:Nat):Int)<=2862423051509815793:=fun j hj=>by
 have h1:=prod_mono (packsL_ne hs ht hk hg) hj (Nat.le_refl _)
 have h2:=prod_few hs ht k hk
 have h3:17 ^ (sumR s t k - 1)<=17 ^ 15:=Nat.pow_le_pow_right qj (by have:=sumR_le (t:=t) hs k;omega)
 omega
def setTo (o r x:yLI):Nat->yLI
 | 0=>o
 | k+1=>(setTo o r x k).set (r[k]!).toNat (x[k]!)
theorem setTo_len (o r x:yLI):∀ k,(setTo o r x k).length=o.length
 | 0=>rfl
 | k+1=>by rw [setTo,List.length_set,setTo_len o r x k]
def setAll (o r x:yLI):yLI:=setTo o r x r.length
theorem setAll_len (o r x:yLI):(setAll o r x).length=o.length:=setTo_len o r x _
def nextK (G:yLL) (r:yLI) (P:yLL) (k:Nat):yLL:=(G.take k).flatMap fun o=>P.map (setAll o r)
def nextX (G:yLL) (r:yLI) (P:yLL) (k x:Nat):yLL:=nextK G r P k++(P.take x).map (setAll (G[k]!) r)
theorem nextX_zero (G:yLL) (r:yLI) (P:yLL) (k:Nat):nextK G r P k=nextX G r P k 0:=by simp [nextX]
theorem nextX_succ {r:yLI} (h:x < P.length) (hv:v=setAll (G[k]!) r (P[x]!)):nextX G r P k x++[v]=nextX G r P k (x+1):=by
 subst hv;unfold nextX;rw [List.append_assoc,← take_snoc h,List.map_append];rfl
theorem nextX_end {r:yLI} (hk:k < G.length) (h:x=P.length):nextX G r P k x=nextK G r P (k+1):=by
 subst h;unfold nextX nextK;rw [List.take_length,← take_snoc hk,List.flatMap_append];simp
theorem nextK_len {G:yLL} {r:yLI} {P:yLL}:∀ {k:Nat},k<=G.length->(nextK G r P k).length=k * P.length
 | 0,_=>by simp [nextK]
 | k+1,h=>by
  rw [← nextX_end (show k < G.length by omega) rfl,nextX,List.length_append,nextK_len qf,List.take_length,List.length_map,Nat.add_mul,Nat.one_mul]
theorem nextX_len {r:yLI} (hk:k < G.length) (hx:x<=P.length):(nextX G r P k x).length=k * P.length+x:=by
 rw [nextX,List.length_append,nextK_len qf,List.length_map,List.length_take];omega
theorem nextX_le {r:yLI} (hk:k < G.length) (hx:x<=P.length):(nextX G r P k x).length<=G.length * P.length:=by
 rw [nextX_len hk hx]
 have:=Nat.mul_le_mul_right P.length (show k+1<=G.length from hk)
 rw [Nat.add_mul,Nat.one_mul] at this
 omega
def y7 (n:Nat) (rs:yLL) (all:List yLL):Nat->yLL
 | 0=>[List.replicate n 0]
 | i+1=>nextK (y7 n rs all i) (rs[i]!) (all[i]!) (y7 n rs all i).length
theorem Xo {n:Nat} {rs:yLL} {all:List yLL}:∀ i,(y7 n rs all i).length=Xt all i
 | 0=>rfl
 | i+1=>by rw [y7,nextK_len (Nat.le_refl _),Xo i,Xt]
theorem mem_at_L {l:yLL} (h:k < l.length):l[k]! ∈l:=by rw [getElem!_pos l k h];exact List.getElem_mem h
theorem prodG_row {n:Nat} {rs:yLL} {all:List yLL}:∀ i,∀ x∈y7 n rs all i,x.length=n
 | 0,x,h=>by obtain rfl:=List.mem_singleton.1 h;simp
 | i+1,x,h=>by
  rw [y7,nextK,List.mem_flatMap] at h
  obtain ⟨o,ho,h⟩:=h
  obtain ⟨y,_,rfl⟩:=List.mem_map.1 h
  rw [setAll_len]
  exact prodG_row i o (List.mem_of_mem_take ho)
theorem prodG_at (h:k < (y7 n rs all i).length):((y7 n rs all i)[k]!).length=n:=prodG_row i _ (mem_at_L h)
open Classical in
noncomputable def inOrder (l:yLL):yLL:=if h:∃ m,l.Perm m/\InOrder m then Classical.choose h else l
theorem inOrder_eq {l m:yLL} (hn:∀ x∈l,x.length=n) (hp:l.Perm m) (ho:InOrder m):inOrder l=m:=by
 have h:∃ m,l.Perm m/\InOrder m:=⟨m,hp,ho⟩
 unfold inOrder
 rw [dif_pos h]
 have hc:=Classical.choose_spec h
 exact order_one (n:=n) (fun x hx=>hn x (hc.1.symm.subset hx)) (hc.1.symm.trans hp) hc.2 ho
open Classical in
noncomputable def jf (s:qC) (t:qH):yLL×Int:=
 if ¬ GoodP s t s.qA.length then ([],3) else if Xt (zu s t s.qA.length) (zu s t s.qA.length).length > 300 then ([],3)
 else (inOrder (y7 s.qB.length (xN s t s.qA.length) (zu s t s.qA.length) (zu s t s.qA.length).length),0)
theorem cho_3 (h:¬ GoodP s t s.qA.length\/Xt (zu s t s.qA.length) (zu s t s.qA.length).length > 300):jf s t=([],3):=by
 unfold jf
 by_cases h1:GoodP s t s.qA.length
 ·rw [if_neg (by simpa using h1),if_pos (h.resolve_left (by simpa using h1))]
 ·rw [if_pos h1]
theorem cho_0 {m:yLL} (h:GoodP s t s.qA.length) (h1:¬ Xt (zu s t s.qA.length) (zu s t s.qA.length).length > 300)
 (hp:(y7 s.qB.length (xN s t s.qA.length) (zu s t s.qA.length) (zu s t s.qA.length).length).Perm m) (ho:InOrder m):jf s t=(m,0):=by
 unfold jf
 rw [if_neg (by simpa using h),if_neg h1,inOrder_eq (prodG_row _) hp ho]
theorem in_order {l:yLL} (hi:l.length<=i) (h:∀ a b,a < b->b < i->¬ ahead (l[b]!) (l[a]!)):InOrder l:=by
 have:=(orderTo_iff (l:=l) (k:=l.length) (Nat.le_refl _)).2 fun a b BT hb=>h a b BT qf
 unfold OrderTo at this
 rwa [List.take_length] at this
theorem cho_code {b:yLI} {p:yLL} (h:¬ GoodP s t s.qA.length) (h1:¬ (yD b p).2=0):jf s t=([],(yD b p).2):=by rw [cho_3 (.inl h),all_code h1]
theorem next_le (h:∀ j,j < all.length->all[j]! ≠[]) (h1:¬ Xt all all.length > 300) (hi:i < all.length) (hk:k < (y7 n rs all i).length) (hx:x<=(all[i]!).length):(nextX (y7 n rs all i) (rs[i]!) (all[i]!) k x).length<=300:=by
 have h2:=nextX_le (r:=rs[i]!) hk hx
 have h3:=prod_mono h (show i+1<=all.length from hi) (Nat.le_refl _)
 rw [Xt,← Xo (n:=n) (rs:=rs) i] at h3
 omega
theorem G_le (h:∀ j,j < all.length->all[j]! ≠[]) (h1:¬ Xt all all.length > 300) (hi:i<=all.length):(y7 n rs all i).length<=300:=by
 have h3:=prod_mono h hi (Nat.le_refl _)
 rw [Xo];omega
theorem cell_few (hs:ve s) (hi:i < (xN s t n).length):((xN s t n)[i]!).length<=8/\((zu s t n)[i]!).length<=2000:=by
 obtain ⟨c,_,_,e,e1⟩:=live_at hi
 rw [e,e1]
 exact ⟨cellR_len hs c,all_len _ _⟩
theorem choice_at {r:Nat} (hi:i < (xN s t n).length) (hr:r < ((xN s t n)[i]!).length):0<=((xN s t n)[i]!)[r]! /\(((xN s t n)[i]!)[r]!).toNat < s.qB.length:=by
 obtain ⟨c,_,_,e,_⟩:=live_at hi
 rw [e] at hr ⊢
 have:=cellR_at hr
 exact ⟨this.1,this.2.1⟩
theorem pack_at (hi:i < (xN s t n).length) (hx:x < ((zu s t n)[i]!).length):(((zu s t n)[i]!)[x]!).length=((xN s t n)[i]!).length:=by
 obtain ⟨c,_,_,e,e1⟩:=live_at hi
 rw [e1] at hx ⊢
 rw [e]
 exact (all_at hx).trans (Xp _ _)
theorem perm_rows {m:Nat} {l:yLL} (h:(y7 n rs all m).Perm l):∀ j,j < l.length->(l[j]!).length=n:=fun j hj=>prodG_row m _ (h.symm.subset (mem_at_L hj))
theorem perm_swap {l m:yLL} (h:l.Perm m) (hk:0 < k) (hl:k < m.length):l.Perm (swapAt m k):=h.trans (swap_perm hk hl).symm
theorem cho_len (s:qC) (t:qH):(jf s t).1.length<=300:=by
 unfold jf
 split
 ·simp
 ·split
  ·simp
  ·next h1 h2=>
   show (inOrder _).length<=300
   unfold inOrder
   split
   ·next h=>rw [← (Classical.choose_spec h).1.length_eq,Xo];omega
   ·rw [Xo];omega
end
section
section
variable {α : Type} [qW α]
theorem reps_perm (h1:qW.size α=1):∀ {z z' :List (Value×α)},z.Perm z' ->∀ {F:yLN},reps w F (z.map Prod.fst) (z.map Prod.snd)->∃ F',F'.Perm F/\reps w F' (z'.map Prod.fst) (z'.map Prod.snd):=by
 intro z z' hp
 have one:∀ {c:List Value} {G:yLN} {x:α},qW.rep w G c x->∃ v,c=[v]:=fun h=>List.length_eq_one_iff.1 ((qW.len h).trans h1)
 induction hp with
 | nil=>intro F h;exact ⟨F,.refl _,h⟩
 | cons x _ ih=>
  rintro F ⟨F1,F2,c1,c2,rfl,hv,hx,hr⟩
  obtain ⟨v,rfl⟩:=one hx
  obtain ⟨rfl,rfl⟩:=List.cons.inj hv
  obtain ⟨F',hF,Pj⟩:=ih hr
  exact ⟨F1++F',hF.append_left F1,F1,F',[x.1],_,rfl,rfl,hx,Pj⟩
 | swap x y l=>
  rintro F ⟨F1,F2,c1,c2,rfl,hv,hx,F3,F4,c3,c4,rfl,hv2,hy,hr⟩
  obtain ⟨v,rfl⟩:=one hx
  obtain ⟨u,rfl⟩:=one hy
  subst hv2
  obtain ⟨e1,e2⟩:=List.cons.inj hv
  obtain ⟨e3,e4⟩:=List.cons.inj e2
  subst e1 e3 e4
  refine ⟨F3++(F1++F4),?_,F3,F1++F4,[x.1],y.1::_,rfl,rfl,hy,F1,F4,[y.1],_,rfl,rfl,hx,hr⟩
  rw [← List.append_assoc,← List.append_assoc]
  exact List.perm_append_comm.append_right F4
 | trans _ _ ih1 ih2=>
  intro F h
  obtain ⟨F1,h1,h2⟩:=ih1 h
  obtain ⟨F2,h3,h4⟩:=ih2 h2
  exact ⟨F2,h3.trans h1,h4⟩
end
theorem swapZ {α:Type}:∀ {l:List α} {i:Nat} {a b:α},l[i]? =some a->l[i+1]? =some b->l.Perm ((l.set (i+1) a).set i b)
 | [],_,_,_,h,_=>by simp at h
 | x::l,0,a,b,h,h1=>by
  cases l with
  | nil=>simp at h1
  | cons y l=>
   simp only [List.getElem?_cons_zero,Option.some.injEq] at h
   simp only [List.getElem?_cons_succ,List.getElem?_cons_zero,Option.some.injEq,Nat.zero_add] at h1
   subst h h1
   exact List.Perm.swap ..
 | x::l,i+1,a,b,h,h1=>by
  simp only [List.getElem?_cons_succ] at h h1
  exact (swapZ h h1).cons x
theorem zip_at {α β:Type}:∀ {xs:List α} {l:List β} {i:Nat} {a:α} {b:β},xs[i]? =some a->l[i]? =some b->(xs.zip l)[i]? =some (a,b):=by
 intro xs l i a b h h1
 rw [List.getElem?_zip_eq_some]
 exact ⟨h,h1⟩
theorem zip_fst {α β:Type}:∀ {xs:List α} {l:List β},xs.length=l.length->(xs.zip l).map Prod.fst=xs:=by
 intro xs l h;exact List.map_fst_zip qf
theorem zip_snd {α β:Type}:∀ {xs:List α} {l:List β},xs.length=l.length->(xs.zip l).map Prod.snd=l:=by
 intro xs l h;exact List.map_snd_zip qf
section
variable {W0 w : World} {ps : List Prv} {Γ : List Fact}
theorem St.rowElemX {α:Type} [qW α] (H:St W0 w ps Γ) (k:Nat) {b:Nat} {e:TypeId} {nn:Nat} (hp:ps[k]? =some (.row (Sv (some ⟨b,0,none⟩) nn c) e 1 nn xs)) (j:Nat) {l:List (List α)}
 (hf:Γ[j]? =some (xy fr F xs l)) {iv:Int} (i:Nat) (h:iv.toNat=i) (h1:i < nn):
 ∃ (a:yOA) (c' :Nat) (G:yLN),(∀ x∈G,x∈F)/\w.cell? ⟨b,0+iv.toNat * 1,none⟩=some (Sv a (l[i]!).length c')/\xs[0+iv.toNat * 1]? =some (Sv a (l[i]!).length c')/\xs[iv.toNat]? =some (Sv a (l[i]!).length c')/\St W0 w ps (isF fr G (Sv a (l[i]!).length c') (l[i]!)::Γ):=by
 obtain ⟨cs,G,hc,hr,aT,ff,v1,v2,hx,hv⟩:=H.rowElem k hp j hf Nat.one_pos h h1
 obtain ⟨a,c',rfl,hx'⟩:=id hr
 have hxi:xs[i]? =some (Sv a (l[i]!).length c'):=by
  have JH:v1.length=i:=by rw [hv];exact Nat.mul_one _
  rw [hx,List.append_assoc,List.getElem?_append_right qf]
  simp [JH]
 exact ⟨a,c',G,aT,by simpa [qW.size] using hc 0 _ rfl,by rw [show 0+iv.toNat * 1=i by omega];exact hxi,by rw [h];exact hxi,H.yt j hf _ ⟨hr,ff⟩ aT⟩
theorem St.swapR (H:St W0 w ps Γ) (j:Nat) {l:yLL} (hf:Γ[j]? =some (xy fr F xs l)) (hk:0 < k) (hkl:k < l.length) (hi:i=k - 1) {v0 v1:Value} (h0:xs[i]? =some v0) (h1:xs[k]? =some v1):
 ∃ F',F'.Perm F/\St W0 w ps (xy fr F' ((xs.set k v0).set i v1) (swapAt l k)::Γ):=by
 obtain ⟨hr,ff⟩:=H.get j hf
 obtain ⟨i,rfl⟩:∃ i,k=i+1:=⟨k - 1,by omega⟩
 rw [show i+1 - 1=i from rfl] at hi
 subst hi
 have hl:xs.length=l.length:=by have:=Vx hr;simpa [qW.size] using this
 have e0:l[i]? =some (l[i]!):=by rw [getElem!_pos l i qf];exact List.getElem?_eq_getElem qf
 have e1:l[i+1]? =some (l[i+1]!):=by rw [getElem!_pos l (i+1) hkl];exact List.getElem?_eq_getElem hkl
 have hp:=swapZ (zip_at h0 e0) (zip_at h1 e1)
 have Pj :reps w F ((xs.zip l).map Prod.fst) ((xs.zip l).map Prod.snd):=by
  rw [zip_fst hl,zip_snd hl]
  exact hr
 obtain ⟨F',hF,h2⟩:=reps_perm rfl hp Pj
 refine ⟨F',hF,H.yt j hf _ ⟨?_,fun e x hx=>ff e x (hF.subset hx)⟩ fun x hx=>hF.subset hx⟩
 rw [List.map_set,List.map_set,List.map_set,List.map_set,zip_fst hl,zip_snd hl] at h2
 exact h2
theorem Fresh.perm {B:Nat} {F':yLN} (N:Fresh B (F::L)) (h:F'.Perm F):Fresh B (F'::L):=N.less (fun b hb=>h.subset hb) fun hn=>h.nodup_iff.2 hn
end
section
variable {P : Program} {n : Nat} {ρ : Env} {w : World}
theorem ret3 {fn:Func} {R:Ending->World->Prop} {t u z:Nat} (v x y:Value) (hr:fn.results=#[.tmp t,.tmp u,.tmp z]) (hv:ev n ρ (.tmp t)=v) (hx:ev n ρ (.tmp u)=x) (hy:ev n ρ (.tmp z)=y) (h:R (.returned (.tuple #[v,x,y])) w):bodyPost P fn R .ret (mk n ρ) w:=by
 refine bodyPost_ret (results_tmp3 hr _ _ _) rfl ?_
 have e:=congrFun (QA n ρ) (.tmp t)
 have e' :=congrFun (QA n ρ) (.tmp u)
 have Hk :=congrFun (QA n ρ) (.tmp z)
 simp only [Act.eval] at e e' Hk
 rw [e,hv,e',hx,Hk,hy]
 exact h
end
end
end Go.Proofs.YtdhklgjmiamiaaaGreat
