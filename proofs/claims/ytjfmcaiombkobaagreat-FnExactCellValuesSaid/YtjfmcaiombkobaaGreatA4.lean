/- Walks and laws, printed by program and by hand: what each function comes to, for all arguments, part 4. -/
import Derived.Test.YtjfmcaiombkobaaGreatA3
namespace Go.Proofs.YtjfmcaiombkobaaGreat
open Go.Proofs.Tryz
set_option linter.unusedVariables false
set_option linter.unusedSimpArgs false
set_option maxRecDepth 100000
set_option maxHeartbeats 4000000
open Go.RowKit
open Go.Proofs.Tryz
open Go.Proofs.YtjfmcaiombkobaaGreat.Tot (tot)
open Go.Proofs.YtjfmcaiombkobaaGreat.Mark (cnt mrk mkd mkd_mark cnt_mark)
variable {F Fb Fl Fm FpOrders Fparts vK xF zQ zo zu:yLN} {G P l parts rs:yLL} {K c cb f i j k m n x zH:Nat} {Ns:List yLN} {W0 w:World} {a b begin' r rest:yLI} {ab al am apOrders qM xX xe xg xq zL:yOA} {all:List yLL} {fr:Bool} {ps:List Prv} {s:qG} {t:qH} {xs:List Value} {Γ:List Fact}
section
variable {cpOrders cl cm bs os qL qX bt ot xn xM qZ : Nat}
theorem build_ok (p:zF) (aO:yOA) (cO:Nat) (FO:yLN) (mode:Int) (H:St W0 w (ps) ((sF false FO aO cO p.qB)::Γ)) (N:Fresh W0.heap.size (Ns)) (K0:Kept Ns Γ) (p0:yw p) (q0:PMode mode) (OL:∀ f∈(sF false FO aO cO p.qB::Γ),∀ b∈f.F,b < W0.heap.size):Calls Tryz.prog 68 #[.agg #[yI p.qA,Sv aO p.qB.length cO],yI mode] w (fun e w' =>∃ v,e=.returned v/\∃ (bk:Nat) (raR:yOA) (rnR:Nat) (rcR:Nat) (rxR:List Value) (rFR:yLN) (raF:yOA) (rnF:Nat) (rcF:Nat),v=pp bk 0/\Fresh W0.heap.size (rFR::Ns)/\St W0 w' ((.box bk [yI (qQ p mode),Sv raR rnR rcR,Sv raF rnF rcF] 111)::(rr raR rnR rcR 120 9 rxR)::(rr raF rnF rcF 2 1 ((Qh p mode p.qB.length).map (Value.int .i64)))::ps) ((sF false FO aO cO p.qB)::(xN true rFR rxR (jO p mode))::Γ)):=by
 refine en func68 ntmps68 ?_
 have nord:=qO (H.get 0 rfl).1
 have p1:=p0.1
 have p2:=p0.2.1
 have kg:=Qg p mode
 have kl:=yF p0 mode
 have q1:1<=mode/\mode<=3:=q0
 refine zcr (sw (zY H [yI p.qA,Sv aO p.qB.length cO] fun b1 w2 H=>sq 1 (zjc (sw (x8 [yI p.qA,Sv aO p.qB.length cO] isAgg26 sizeOf26 rfl (qF (H.cells 0 rfl) 0 2) (sq 1 (sw (oq (kinds_ok _ p mode (H.get 0 rfl).1 ql) H fun w4 H=>sw (vG [yI (qQ p mode),yN,yN] [(0,yI (qQ p mode))] (sw (zY H [yI (qQ p mode),yN,yN] fun b6 w7 H=>sq 1 (zjc ?_))))))))))))
 refine sq 2 (oF rfl (oL rfl (H.cell 0 rfl rfl) (sw (o_sub (qQ p mode) 1 rfl rfl (by (first | omega | exact up1 (ra3 _) | exact up1 (ra4 _) | exact up1 (ra5 _))) (sq 1 (zjcc (oF rfl (oL rfl (H.cell 1 rfl rfl) (oN rfl (sp (yI 0) (zjn (qV ?_))))))))))))
 replace H:=H.nilRow 120 9
 replace H:=H.vV (α:=zZ)
 replace H:=H.nilRowI 2
 refine zA ((fun Z0 Z1=>fun m' ρ w8=>∃ (xQ:Env) (i:Nat) (yK:yOA) (jH:Nat) (yH:Nat) (b_rules:List zZ) (yR:List Value) (jB:yLN) (a_b_first:yOA) (zD:Nat) (c_b_first:Nat) (b_first:yLI),ρ=upd (upd (upd (upd (upd (upd (upd xQ 1 (yI mode)) 2 (pp b1 0)) 5 (pp b6 0)) 6 (yI ((qQ p mode) - 1))) 22 (Sv aO p.qB.length cO)) 23 (yI p.qB.length)) 24 (yI i)/\b_rules=xk p mode i/\b_first=Qh p mode i/\((i:Int)<=p.qB.length)/\m' =(p.qB.length - (i:Int)).toNat/\Fresh W0.heap.size (jB::Ns)/\St W0 w8 ((rr a_b_first zD c_b_first 2 1 (b_first.map (Value.int .i64)))::(rr yK jH yH 120 9 yR)::(.box b6 [yI (qQ p mode),Sv yK jH yH,Sv a_b_first zD c_b_first] 111)::Z0::ps) ((xN true jB yR b_rules)::Z1::Γ)) _ _) ((p.qB.length - (0:Int)).toNat) ⟨_,0,none,0,0,([]:List zZ),[],[],none,0,0,[],uE7,(by rfl),(by rfl),qf,rfl,N.emp,H⟩ ?_
 clear H N
 rintro m' ρ w9 ⟨xQ,i,yK,jH,yH,b_rules,yR,jB,a_b_first,zD,c_b_first,b_first,rfl,rfl,rfl,i0,rfl,N,H⟩
 have hn_b_rules:=H.xB (α:=zZ) 1 rfl 0 rfl qj
 have hn_b_first:=H.yt 0 rfl
 have rl:=rulesTo_len p mode i
 have sl:=subsTo_le p i
 have ss:=subsTo_mono p (k:=i) (n:=p.qB.length)
 have fl:=firsts_len p mode i
 have po:=p0.2.2 i
 have s0:zg p (i:Int).toNat=zg p i:=by rw [Int.toNat_natCast]
 refine zcr (sq 1 (zjn (xU (cD rfl (fun h10=>?_) (fun h10=>?_)))))
 ·obtain ⟨o1,o2,o3,o4,o5⟩:=po qf
  refine qU (t_n (xU (qV (zcr (sp (yI i) ?_)))))
  obtain ⟨b11,o12,rfl⟩:=H.addr 1 rfl qf
  obtain ⟨_,H⟩:=H.Xb 1 rfl i i qf qf qf
  refine oI rfl rfl (sw (x8 [yI ((p.qB[i]!).fOp),yI ((p.qB[i]!).zn),yI ((p.qB[i]!).fTo),yI ((p.qB[i]!).zf)] isAgg109 sizeOf109 rfl (qF (H.get 0 rfl) 0 4) (sw (xH H ti109 [yI 0,yI 0,yI 0,yI 0] fun b15 w16 H=>sp (yI i) (sw (xY H 0 [yI ((p.qB[i]!).fOp),yI ((p.qB[i]!).zn),yI ((p.qB[i]!).fTo),yI ((p.qB[i]!).zf)] sizeOf109 fun w17 H=>?_))))))
  try dsimp only [List.set] at H
  refine zjn (xU (c_lateK rfl H [0,2,3,4] [0,1,2] fun H=>?_))
  dsimp only [Xw]
  have S:=H.jr [0,2,3,4] [0,1,2]
  refine rtl 0 S ?_
  refine rtl 1 S ?_
  refine rtl 2 S ?_
  refine tF 3 rfl rfl S ?_
  refine tL 4 rfl rfl (fun _ h=>h.cell 2 rfl rfl) S ?_
  refine rtl 5 S ?_
  refine rtl 6 S ?_
  refine tF 7 rfl rfl S ?_
  refine tL 8 rfl rfl (fun _ h=>h.cell 2 rfl rfl) S ?_
  refine ro 9 rfl ?_
  obtain ⟨G19,hn20,h21⟩:=H.XE (α:=zZ) 2 rfl 1 rfl qj
  refine oq (jo (by rw [← hn20]) (sizeRu_ok _ (xk p mode i) (hn20▸h21))) H fun w23 H=>⟨H.pick [0,2,3,4] [0,1,2],(ro 10 rfl (xx H underlying27 ti2 [yI ((xk p mode i).length:Int)] fun b25 w26 H=>⟨H.pick [1,3,4,5] [0,1,2],(ro 11 rfl (zG H 2 rfl 0 rfl underlying27 ti2 rfl qj rfl rfl rfl qw qp qf fun a27 c28 w29 H=>?_))⟩))⟩
  rw [snocI] at H
  try dsimp only [List.set] at H
  refine ⟨H.pick [1,3,4,5] [0,1,2],?_⟩
  have S:=H.jr [1,3,4,5] [0,1,2]
  refine rtl 12 S ?_
  refine tF 13 rfl rfl S ?_
  refine xA qh (late_end (zI H 4 [yI (qQ p mode),Sv yK jH yH,Sv a27 (zD+1) c28] sizeOf27 fun w30 H=>?_))
  try dsimp only [List.set] at H
  refine t_n (xU ?_)
  refine c_drawK2 rfl H [0,1,2,3,4,5] [0,1,2] fun H=>?_
  have S:=H.jr (zR 0 6) [0,1,2]
  refine rt 0 _ (yl (cs:=[yI p.qA,Sv (aa b11 o12) p.qB.length cO]) isAgg26 sizeOf26 rfl (fun _ h=>qF (h.cells 5 rfl) 0 2)) S ?_
  refine rtp 1 (yI i) S ?_
  refine tF 3 rfl rfl S ?_
  refine tL 4 rfl rfl (fun _ h=>h.cell 1 rfl rfl) S ?_
  refine ro 2 rfl (oq (Xn _ p i (H.get 2 rfl).1 qf qf) H fun w33 H=>⟨H.pick (zR 0 6) [0,1,2],?_⟩)
  have S:=H.jr (zR 0 6) [0,1,2]
  refine rtl 5 S ?_
  refine rtl 6 S ?_
  refine xA qh (t_n (qV (zcr (oF rfl (oL rfl (H.cell 1 rfl rfl) (sp (Bv (((p.qB[i]!).fOp:Int) == 1)) (sp (Bv (((p.qB[i]!).fOp:Int) == 1)) (zjn (cE rfl (fun h35=>?_) (fun h35=>?_))))))))))
  ·refine xU ?_
   refine c_lateC (fun ρ w45=>∃ (xQ:Env) (zV36:List zZ) (rx37:List Value) (b38:Nat) (o39:Nat) (c40:Nat) (bs41:Nat) (rc42:Nat) (F43:yLN) (rF44:yLN),ρ=upd (upd (upd (upd (upd (upd (upd (upd (upd (upd (upd (upd xQ 1 (yI mode)) 2 (pp b1 0)) 5 (pp b6 0)) 6 (yI ((qQ p mode) - 1))) 8 (pp b15 0)) 9 (yI (p.qA+i))) 10 (yI ((p.qB[i]!).zn))) 22 (Sv (aa b11 o12) p.qB.length cO)) 23 (yI p.qB.length)) 24 (yI i)) 66 (yI ((((zV36[(xk p mode i).length]!).vw)[(p.qA+((p.qB[i]!).fTo):Int).toNat]!)+1))) 67 (pp b38 (o39+(p.qA+((p.qB[i]!).fTo):Int).toNat * 1))/\(zV36=((xk p mode i)++[zM (qQ p mode).toNat 0 [p.qA+i] [] [] [((p.qB[i]!).zn)]]))/\(rx37[((xk p mode i).length) * 9+5]? =some (Sv (aa b38 o39) (((zV36[(xk p mode i).length]!).vw).length) c40))/\Fresh W0.heap.size (rF44::Ns)/\St W0 w45 ((.box b6 [yI (qQ p mode),Sv (aa bs41 0) zV36.length rc42,Sv a27 (zD+1) c28] 111)::(rr (aa bs41 0) zV36.length rc42 120 9 rx37)::(.box b25 [yI ((xk p mode i).length:Int)] 2)::(.box b15 [yI ((p.qB[i]!).fOp),yI ((p.qB[i]!).zn),yI ((p.qB[i]!).fTo),yI ((p.qB[i]!).zf)] 109)::(rr a27 (zD+1) c28 2 1 (((Qh p mode i)++[((xk p mode i).length:Int)]).map (Value.int .i64)))::(.box b1 [yI p.qA,Sv (aa b11 o12) p.qB.length cO] 26)::ps) ((sF true F43 (aa b38 o39) c40 ((zV36[(xk p mode i).length]!).vw))::(xN true rF44 rx37 zV36)::(atF b11 (o12+(i:Int).toNat * 4) [yI ((p.qB[i]!).fOp),yI ((p.qB[i]!).zn),yI ((p.qB[i]!).fTo),yI ((p.qB[i]!).zf)])::(sF false FO (aa b11 o12) cO p.qB)::Γ)) rfl H [0,1,2,5] [0,2] (fun H=>?_) ?_
   ·dsimp only [Xw]
    have S:=H.jr [0,1,2,5] [0,2]
    refine rtl 0 S ?_
    refine rtl 1 S ?_
    refine rtl 2 S ?_
    refine rt 8 _ (yl (cs:=[yI p.qA,Sv (aa b11 o12) p.qB.length cO]) isAgg26 sizeOf26 rfl (fun _ h=>qF (h.cells 3 rfl) 0 2)) S ?_
    refine tF 9 rfl rfl S ?_
    refine tL 10 rfl rfl (fun _ h=>h.cell 1 rfl rfl) S ?_
    refine ro 3 rfl (xx H underlying27 ti2 [yI (p.qA+i)] fun b47 w48 H=>⟨H.pick [1,2,3,6] [0,2],(ro 4 rfl ?_)⟩)
    replace H:=H.vI 0 [p.qA+i] 1
    try dsimp only [List.set] at H
    obtain ⟨G49,N,hn50,H⟩:=H.zh 0 rfl N (fun F hF b hb=>(List.mem_append.1 (show F∈[jB]++Ns from hF)).elim (fun h=>(H.vz (L:=[jB]) [1]) F h b hb) fun h=>H.XM (K0.behind 3 rfl) F h b hb)
    try dsimp only [List.set] at H
    replace H:=H.ja 0 rfl
    have hn51:=H.isLen 0 rfl
    have H1:St W0 w48 ((.box b6 [yI (qQ p mode),Sv yK jH yH,Sv a27 (zD+1) c28] 111)::(.row (Sv yK jH yH) 120 9 jH yR)::(.row yN 0 1 0 [])::(.box b25 [yI ((xk p mode i).length:Int)] 2)::(.box b15 [yI ((p.qB[i]!).fOp),yI ((p.qB[i]!).zn),yI ((p.qB[i]!).fTo),yI ((p.qB[i]!).zf)] 109)::(.row (Sv a27 (zD+1) c28) 2 1 (zD+1) (((Qh p mode i)++[((xk p mode i).length:Int)]).map (Value.int .i64)))::(.box b1 [yI p.qA,Sv (aa b11 o12) p.qB.length cO] 26)::ps) ((isF false G49 (Sv (aa b47 0) ([p.qA+i].length) 1) [p.qA+i])::(xN true jB yR (xk p mode i))::(isF false G49 (Sv (aa b47 0) 1 1) [p.qA+i])::(isF true G49 (Sv (aa b47 0) 1 1) [p.qA+i])::(atF b11 (o12+(i:Int).toNat * 4) [yI ((p.qB[i]!).fOp),yI ((p.qB[i]!).zn),yI ((p.qB[i]!).fTo),yI ((p.qB[i]!).zf)])::(isF false FO (Sv (aa b11 o12) p.qB.length cO) p.qB)::Γ):=by (try rw [← hn51]);exact H.vW 7 5 [5,4,0,1,2,3,6] [0,3,0,1,2,4] qo qo
    have N1:Fresh _ (jB::G49::Ns):=(N.vW 2 [1,0] qo)
    have K1:Kept (Ns) ((isF false G49 (Sv (aa b47 0) 1 1) [p.qA+i])::(isF true G49 (Sv (aa b47 0) 1 1) [p.qA+i])::(atF b11 (o12+(i:Int).toNat * 4) [yI ((p.qB[i]!).fOp),yI ((p.qB[i]!).zn),yI ((p.qB[i]!).fTo),yI ((p.qB[i]!).zf)])::(sF false FO (aa b11 o12) cO p.qB)::Γ):=K0.behind 4 rfl
    replace K1:=K1.cons (F:=G49) 0 rfl rfl
    refine jg #[pp b6 0,yI ((p.qB[i]!).zn),Sv (aa b47 0) 1 1] rfl rfl call118 (jo (by first | rfl | rw [hn51]) (bRule_ok (qQ p mode) (xk p mode i) b6 yK jH yH yR jB a27 (zD+1) c28 ((p.qB[i]!).zn) [p.qA+i] (aa b47 0) 1 G49 H1 N1 K1 qf (by first | exact vZ.nil _ | exact vZ.one qf | exact vZ.two qf qf) qf (by first | omega | (simp only [List.length_append,List.length_cons,List.length_nil];omega)))) ?_
    clear H H1 N1 K1
    rintro _ w52 ⟨bs54,rn55,rc56,rx57,rF58,rfl,N,H⟩
    obtain rfl:=H.xB (α:=zZ) 1 rfl 1 rfl qj
    obtain ⟨zV59,eL60⟩:∃ z,z=((xk p mode i)++[zM (qQ p mode).toNat 0 [p.qA+i] [] [] [((p.qB[i]!).zn)]]):=⟨_,rfl⟩
    rw [← eL60] at H
    try clear ra1 ra2 ra6 ra3 ra4 ra5
    obtain ⟨ra0,ra1,ra2,ra6,ra3,ra4,ra5⟩:=QL eL60
    refine ⟨H.pick (zR 3 4) [4,5],?_⟩
    have S:=H.jr (zR 3 4) [4,5]
    refine rtl 5 S ?_
    refine tF 6 rfl rfl S ?_
    refine jb [7,11] qh qm (jM rfl ?_ (jM rfl ?_ jd))
    ·obtain ⟨ae61Need,ce61Need,Fe61Need,ae61Have,ce61Have,Fe61Have,ae61Lack,ce61Lack,Fe61Lack,ae61Here,ce61Here,Fe61Here,ae61Out,ce61Out,Fe61Out,ae61Into,ce61Into,Fe61Into,hx62,H⟩:=H.part_RuleD Xg.refl 1 rfl 1 rfl rfl ((xk p mode i).length) qf
     refine zK (Sv ae61Here (((zV59[(xk p mode i).length]!).vw).length) ce61Here) isAgg27 rfl (H.deepGet 1 rfl (hx62 5 _ rfl) qf) (⟨H.pick (zR 3 4) [10,11],(ro 11 rfl (oq (Xn _ p ((p.qB[i]!).fTo) (H.get 11 rfl).1 qf qf) H fun w64 H=>⟨H.pick (zR 3 4) [10,11],?_⟩))⟩)
     obtain ⟨b66,o67,rfl⟩:=H.addr 3 rfl qf
     refine tI 12 rfl rfl rfl (H.pick (zR 3 4) [10,11]) ?_
     refine ro 13 rfl (zK (yI (((zV59[(xk p mode i).length]!).vw)[(p.qA+((p.qB[i]!).fTo):Int).toNat]!)) isAgg2 rfl (H.XX 3 rfl (p.qA+((p.qB[i]!).fTo)) qf qf) (⟨H.pick (zR 3 4) [10,11],?_⟩))
     have S:=H.jr (zR 3 4) [10,11]
     refine rt 14 _ (y_add (((zV59[(xk p mode i).length]!).vw)[(p.qA+((p.qB[i]!).fTo):Int).toNat]!) 1 rfl rfl (by (first | omega | exact up1 (ra3 _) | exact up1 (ra4 _) | exact up1 (ra5 _)))) S ?_
     refine tI 15 rfl rfl rfl S ?_
     refine xA qh ((meet ⟨_,zV59,rx57,b66,o67,ce61Here,bs54,rc56,Fe61Here,rF58,uE12,eL60,(hx62 5 _ rfl),(N.vW 2 [0] qo),H.vW 7 12 [0,1,3,4,5,6] [3,7,10,11] qo qo⟩))
    refine oq (Xn _ p ((p.qB[i]!).fTo) (H.get 5 rfl).1 qf qf) H fun w70 H=>⟨H.pick (zR 3 4) [4,5],(ro 7 rfl ?_)⟩
    obtain ⟨ae72Need,ce72Need,Fe72Need,ae72Have,ce72Have,Fe72Have,ae72Lack,ce72Lack,Fe72Lack,ae72Here,ce72Here,Fe72Here,ae72Out,ce72Out,Fe72Out,ae72Into,ce72Into,Fe72Into,hx73,H⟩:=H.part_RuleD Xg.refl 1 rfl 1 rfl rfl ((xk p mode i).length) qf
    refine zK (Sv ae72Here (((zV59[(xk p mode i).length]!).vw).length) ce72Here) isAgg27 rfl (H.deepGet 1 rfl (hx73 5 _ rfl) qf) (⟨H.pick (zR 3 4) [10,11],?_⟩)
    obtain ⟨b74,o75,rfl⟩:=H.addr 3 rfl qf
    refine tI 12 rfl rfl rfl (H.pick (zR 3 4) [10,11]) ?_
    refine ro 13 rfl (zK (yI (((zV59[(xk p mode i).length]!).vw)[(p.qA+((p.qB[i]!).fTo):Int).toNat]!)) isAgg2 rfl (H.XX 3 rfl (p.qA+((p.qB[i]!).fTo)) qf qf) (⟨H.pick (zR 3 4) [10,11],?_⟩))
    have S:=H.jr (zR 3 4) [10,11]
    refine rt 14 _ (y_add (((zV59[(xk p mode i).length]!).vw)[(p.qA+((p.qB[i]!).fTo):Int).toNat]!) 1 rfl rfl (by (first | omega | exact up1 (ra3 _) | exact up1 (ra4 _) | exact up1 (ra5 _)))) S ?_
    refine tI 15 rfl rfl rfl S ?_
    refine xA qh ((meet ⟨_,zV59,rx57,b74,o75,ce72Here,bs54,rc56,Fe72Here,rF58,uE12,eL60,(hx73 5 _ rfl),(N.vW 2 [0] qo),H.vW 7 12 [0,1,3,4,5,6] [3,7,10,11] qo qo⟩))
   clear H N
   rintro ρ w77 ⟨xQ,zV36,rx37,b38,o39,c40,bs41,rc42,F43,rF44,rfl,hx78,hx79,N,H⟩
   try clear ra1 ra2 ra6 ra3 ra4 ra5
   obtain ⟨ra0,ra1,ra2,ra6,ra3,ra4,ra5⟩:=QL hx78
   have N0:Fresh W0.heap.size (rF44::Ns):=N
   obtain ⟨zV82,eL83⟩:∃ z,z=(zV36.set ((xk p mode i).length) { (zV36[(xk p mode i).length]!) with vw:=(((zV36[(xk p mode i).length]!).vw).set ((p.qA+((p.qB[i]!).fTo):Int).toNat) ((((zV36[(xk p mode i).length]!).vw)[(p.qA+((p.qB[i]!).fTo):Int).toNat]!)+1))}):=⟨_,rfl⟩
   refine o_pokeInt part_Rule_Here H 1 rfl N0 ((sF false FO (aa b11 o12) cO p.qB)::Γ) (Xj (kept 3 rfl (old_away OL 0 rfl N0)) (keeps_old 4 rfl OL 1 rfl N0)) ((xk p mode i).length) qf rfl hx79 ((p.qA+((p.qB[i]!).fTo):Int).toNat) qf sizeOf2 rfl qf rfl eL83 fun w80 F81 N H=>?_
   replace eL83:zV82=((xk p mode i)++[zM (qQ p mode).toNat 0 [p.qA+i] [] [] [((p.qB[i]!).zn),(p.qA+((p.qB[i]!).fTo):Int)]]):=pokeE_here hx78 eL83
   have rl84:=last_len eL83
   refine t_n (zcr (oF rfl (oL rfl (H.cell 3 rfl rfl) (oF rfl (oL rfl (H.cell 3 rfl rfl) (sq 1 (zjn (zT _ rfl (fun h85=>?_) (fun h85=>?_)))))))))
   ·replace h85:=bne_iff_ne.1 h85
    refine c_lateC (fun ρ w95=>∃ (xQ:Env) (zV86:List zZ) (rx87:List Value) (b88:Nat) (o89:Nat) (c90:Nat) (bs91:Nat) (rc92:Nat) (F93:yLN) (rF94:yLN),ρ=upd (upd (upd (upd (upd (upd (upd (upd (upd xQ 1 (yI mode)) 2 (pp b1 0)) 5 (pp b6 0)) 6 (yI ((qQ p mode) - 1))) 22 (Sv (aa b11 o12) p.qB.length cO)) 23 (yI p.qB.length)) 24 (yI i)) 87 (yI ((((zV86[zV82.length]!).vw)[(p.qA+((p.qB[i]!).zf):Int).toNat]!)+1))) 88 (pp b88 (o89+(p.qA+((p.qB[i]!).zf):Int).toNat * 1))/\(zV86=(zV82++[zM (qQ p mode).toNat 0 [p.qA+i] [] [] [((p.qB[i]!).zn)]]))/\(rx87[zV82.length * 9+5]? =some (Sv (aa b88 o89) (((zV86[zV82.length]!).vw).length) c90))/\Fresh W0.heap.size (rF94::Ns)/\St W0 w95 ((.box b6 [yI (qQ p mode),Sv (aa bs91 0) zV86.length rc92,Sv a27 (zD+1) c28] 111)::(rr (aa bs91 0) zV86.length rc92 120 9 rx87)::(.box b25 [yI ((xk p mode i).length:Int)] 2)::(.box b15 [yI ((p.qB[i]!).fOp),yI ((p.qB[i]!).zn),yI ((p.qB[i]!).fTo),yI ((p.qB[i]!).zf)] 109)::(rr a27 (zD+1) c28 2 1 (((Qh p mode i)++[((xk p mode i).length:Int)]).map (Value.int .i64)))::(.box b1 [yI p.qA,Sv (aa b11 o12) p.qB.length cO] 26)::ps) ((sF true F93 (aa b88 o89) c90 ((zV86[zV82.length]!).vw))::(xN true rF94 rx87 zV86)::(sF false FO (aa b11 o12) cO p.qB)::Γ)) rfl H [2,3,4,5] [1] (fun H=>?_) ?_
    ·dsimp only [Xw]
     have S:=H.jr (zR 2 4) [1]
     refine rtl 0 S ?_
     refine rtl 1 S ?_
     refine rtl 2 S ?_
     refine rt 8 _ (yl (cs:=[yI p.qA,Sv (aa b11 o12) p.qB.length cO]) isAgg26 sizeOf26 rfl (fun _ h=>qF (h.cells 3 rfl) 0 2)) S ?_
     refine tF 9 rfl rfl S ?_
     refine tL 10 rfl rfl (fun _ h=>h.cell 1 rfl rfl) S ?_
     refine ro 3 rfl (xx H underlying27 ti2 [yI (p.qA+i)] fun b97 w98 H=>⟨H.pick (zR 3 4) [1],(ro 4 rfl ?_)⟩)
     replace H:=H.vI 0 [p.qA+i] 1
     try dsimp only [List.set] at H
     obtain ⟨G99,N,hn100,H⟩:=H.zh 0 rfl N (fun F hF b hb=>(List.mem_append.1 (show F∈[F81]++Ns from hF)).elim (fun h=>(H.vz (L:=[F81]) [0]) F h b hb) fun h=>H.XM (K0.behind 2 rfl) F h b hb)
     try dsimp only [List.set] at H
     replace H:=H.ja 0 rfl
     have hn101:=H.isLen 0 rfl
     have H1:St W0 w98 ((.box b6 [yI (qQ p mode),Sv (aa bs41 0) zV36.length rc42,Sv a27 (zD+1) c28] 111)::(.row (Sv (aa bs41 0) zV36.length rc42) 120 9 zV36.length rx37)::(.row yN 0 1 0 [])::(.box b25 [yI ((xk p mode i).length:Int)] 2)::(.box b15 [yI ((p.qB[i]!).fOp),yI ((p.qB[i]!).zn),yI ((p.qB[i]!).fTo),yI ((p.qB[i]!).zf)] 109)::(.row (Sv a27 (zD+1) c28) 2 1 (zD+1) (((Qh p mode i)++[((xk p mode i).length:Int)]).map (Value.int .i64)))::(.box b1 [yI p.qA,Sv (aa b11 o12) p.qB.length cO] 26)::ps) ((isF false G99 (Sv (aa b97 0) ([p.qA+i].length) 1) [p.qA+i])::(xN true F81 rx37 zV82)::(isF false G99 (Sv (aa b97 0) 1 1) [p.qA+i])::(isF true G99 (Sv (aa b97 0) 1 1) [p.qA+i])::(isF false FO (Sv (aa b11 o12) p.qB.length cO) p.qB)::Γ):=by (try rw [← hn101]);exact H.vW 7 4 [1,2,0,3,4,5,6] [0,2,0,1,3] qo qo
     have N1:Fresh _ (F81::G99::Ns):=(N.vW 2 [1,0] qo)
     have K1:Kept (Ns) ((isF false G99 (Sv (aa b97 0) 1 1) [p.qA+i])::(isF true G99 (Sv (aa b97 0) 1 1) [p.qA+i])::(sF false FO (aa b11 o12) cO p.qB)::Γ):=K0.behind 3 rfl
     replace K1:=K1.cons (F:=G99) 0 rfl rfl
     refine jg #[pp b6 0,yI ((p.qB[i]!).zn),Sv (aa b97 0) 1 1] rfl rfl call118 (jo (by first | rfl | rw [hn101]) (bRule_ok (qQ p mode) zV82 b6 (aa bs41 0) zV36.length rc42 rx37 F81 a27 (zD+1) c28 ((p.qB[i]!).zn) [p.qA+i] (aa b97 0) 1 G99 H1 N1 K1 qf (by first | exact vZ.nil _ | exact vZ.one qf | exact vZ.two qf qf) qf (by first | omega | (simp only [List.length_append,List.length_cons,List.length_nil];omega)))) ?_
     clear H H1 N1 K1
     rintro _ w102 ⟨bs104,rn105,rc106,rx107,rF108,rfl,N,H⟩
     obtain rfl:=H.xB (α:=zZ) 1 rfl 1 rfl qj
     obtain ⟨zV109,eL110⟩:∃ z,z=(zV82++[zM (qQ p mode).toNat 0 [p.qA+i] [] [] [((p.qB[i]!).zn)]]):=⟨_,rfl⟩
     rw [← eL110] at H
     try clear ra1 ra2 ra6 ra3 ra4 ra5
     obtain ⟨ra0,ra1,ra2,ra6,ra3,ra4,ra5⟩:=QL eL110
     refine ⟨H.pick (zR 3 4) [4],?_⟩
     have S:=H.jr (zR 3 4) [4]
     refine rtl 5 S ?_
     refine tF 6 rfl rfl S ?_
     refine jb [7,11] qh qm (jM rfl ?_ (jM rfl ?_ jd))
     ·obtain ⟨ae111Need,ce111Need,Fe111Need,ae111Have,ce111Have,Fe111Have,ae111Lack,ce111Lack,Fe111Lack,ae111Here,ce111Here,Fe111Here,ae111Out,ce111Out,Fe111Out,ae111Into,ce111Into,Fe111Into,hx112,H⟩:=H.part_RuleD Xg.refl 1 rfl 1 rfl rfl zV82.length qf
      refine zK (Sv ae111Here (((zV109[zV82.length]!).vw).length) ce111Here) isAgg27 rfl (H.deepGet 1 rfl (hx112 5 _ rfl) qf) (⟨H.pick (zR 3 4) [10],(ro 11 rfl (oq (Xn _ p ((p.qB[i]!).zf) (H.get 10 rfl).1 qf qf) H fun w114 H=>⟨H.pick (zR 3 4) [10],?_⟩))⟩)
      obtain ⟨b116,o117,rfl⟩:=H.addr 3 rfl qf
      refine tI 12 rfl rfl rfl (H.pick (zR 3 4) [10]) ?_
      refine ro 13 rfl (zK (yI (((zV109[zV82.length]!).vw)[(p.qA+((p.qB[i]!).zf):Int).toNat]!)) isAgg2 rfl (H.XX 3 rfl (p.qA+((p.qB[i]!).zf)) qf qf) (⟨H.pick (zR 3 4) [10],?_⟩))
      have S:=H.jr (zR 3 4) [10]
      refine rt 14 _ (y_add (((zV109[zV82.length]!).vw)[(p.qA+((p.qB[i]!).zf):Int).toNat]!) 1 rfl rfl (by (first | omega | exact up1 (ra3 _) | exact up1 (ra4 _) | exact up1 (ra5 _)))) S ?_
      refine tI 15 rfl rfl rfl S ?_
      refine xA qh ((meet ⟨_,zV109,rx107,b116,o117,ce111Here,bs104,rc106,Fe111Here,rF108,uE9,eL110,(hx112 5 _ rfl),(N.vW 2 [0] qo),H.vW 7 11 [0,1,3,4,5,6] [3,7,10] qo qo⟩))
     refine oq (Xn _ p ((p.qB[i]!).zf) (H.get 4 rfl).1 qf qf) H fun w120 H=>⟨H.pick (zR 3 4) [4],(ro 7 rfl ?_)⟩
     obtain ⟨ae122Need,ce122Need,Fe122Need,ae122Have,ce122Have,Fe122Have,ae122Lack,ce122Lack,Fe122Lack,ae122Here,ce122Here,Fe122Here,ae122Out,ce122Out,Fe122Out,ae122Into,ce122Into,Fe122Into,hx123,H⟩:=H.part_RuleD Xg.refl 1 rfl 1 rfl rfl zV82.length qf
     refine zK (Sv ae122Here (((zV109[zV82.length]!).vw).length) ce122Here) isAgg27 rfl (H.deepGet 1 rfl (hx123 5 _ rfl) qf) (⟨H.pick (zR 3 4) [10],?_⟩)
     obtain ⟨b124,o125,rfl⟩:=H.addr 3 rfl qf
     refine tI 12 rfl rfl rfl (H.pick (zR 3 4) [10]) ?_
     refine ro 13 rfl (zK (yI (((zV109[zV82.length]!).vw)[(p.qA+((p.qB[i]!).zf):Int).toNat]!)) isAgg2 rfl (H.XX 3 rfl (p.qA+((p.qB[i]!).zf)) qf qf) (⟨H.pick (zR 3 4) [10],?_⟩))
     have S:=H.jr (zR 3 4) [10]
     refine rt 14 _ (y_add (((zV109[zV82.length]!).vw)[(p.qA+((p.qB[i]!).zf):Int).toNat]!) 1 rfl rfl (by (first | omega | exact up1 (ra3 _) | exact up1 (ra4 _) | exact up1 (ra5 _)))) S ?_
     refine tI 15 rfl rfl rfl S ?_
     refine xA qh ((meet ⟨_,zV109,rx107,b124,o125,ce122Here,bs104,rc106,Fe122Here,rF108,uE9,eL110,(hx123 5 _ rfl),(N.vW 2 [0] qo),H.vW 7 11 [0,1,3,4,5,6] [3,7,10] qo qo⟩))
    clear H N
    rintro ρ w127 ⟨xQ,zV86,rx87,b88,o89,c90,bs91,rc92,F93,rF94,rfl,hx128,hx129,N,H⟩
    try clear ra1 ra2 ra6 ra3 ra4 ra5
    obtain ⟨ra0,ra1,ra2,ra6,ra3,ra4,ra5⟩:=QL hx128
    have N0:Fresh W0.heap.size (rF94::Ns):=N
    obtain ⟨zV132,eL133⟩:∃ z,z=(zV86.set zV82.length { zV86[zV82.length]! with vw:=(((zV86[zV82.length]!).vw).set ((p.qA+((p.qB[i]!).zf):Int).toNat) ((((zV86[zV82.length]!).vw)[(p.qA+((p.qB[i]!).zf):Int).toNat]!)+1))}):=⟨_,rfl⟩
    refine o_pokeInt part_Rule_Here H 1 rfl N0 ((sF false FO (aa b11 o12) cO p.qB)::Γ) (Xj (kept 2 rfl (old_away OL 0 rfl N0)) (keeps_old 3 rfl OL 1 rfl N0)) zV82.length qf rfl hx129 ((p.qA+((p.qB[i]!).zf):Int).toNat) qf sizeOf2 rfl qf rfl eL133 fun w130 F131 N H=>?_
    replace eL133:zV132=(zV82++[zM (qQ p mode).toNat 0 [p.qA+i] [] [] [((p.qB[i]!).zn),(p.qA+((p.qB[i]!).zf):Int)]]):=pokeE_here hx128 eL133
    have rl134:=last_len eL133
    refine b_n (b_n (t_n (xK (sw (zi i 1 rfl rfl (by (first | omega | exact up1 (ra3 _) | exact up1 (ra4 _) | exact up1 (ra5 _))) (sq 1 (xP (qW (m' :=(p.qB.length - ((i+1):Int)).toNat) qf ⟨_,i+1,_,_,_,_,_,_,_,_,_,_,uE7,?_,?_,?_,rfl,N,H.vW 6 2 [4,1,0,5] [0,1] qo qo⟩))))))))
    ·subst eL133;subst hx128;subst eL83;subst hx78;first | exact QD qf qf | exact QU qf qf | exact QT qf qf | exact QB qf qf | exact QC qf qf | exact QA qf qf qf
    ·exact firsts_succ p mode i
    ·omega
   replace h85:=xu h85
   refine qU (b_n (b_n (t_n (xK (sw (zi i 1 rfl rfl (by (first | omega | exact up1 (ra3 _) | exact up1 (ra4 _) | exact up1 (ra5 _))) (sq 1 (xP (qW (m' :=(p.qB.length - ((i+1):Int)).toNat) qf ⟨_,i+1,_,_,_,_,_,_,_,_,_,_,uE7,?_,?_,?_,rfl,N,H.vW 6 2 [4,1,0,5] [0,1] qo qo⟩)))))))))
   ·subst eL83;subst hx78;first | exact QD qf qf | exact QU qf qf | exact QT qf qf | exact QB qf qf | exact QC qf qf | exact QA qf qf qf
   ·exact firsts_succ p mode i
   ·omega
  refine zcr (oF rfl (oL rfl (H.cell 1 rfl rfl) (sp (Bv (((p.qB[i]!).fOp:Int) == 2)) (sp (Bv (((p.qB[i]!).fOp:Int) == 2)) ?_))))
  cases h135:(((p.qB[i]!).fOp:Int) == 2)
  ·replace h135:=ne_of_beq_false h135
   refine xR [94,95] (sp (Bv false) (sp (Bv false) (zjn (cFr rfl (zcr (oF rfl (oL rfl (H.cell 1 rfl rfl) (sp (Bv (((p.qB[i]!).fOp:Int) == 2)) (sp (Bv (((p.qB[i]!).fOp:Int) == 2)) ?_)))))))))
   cases h136:(((p.qB[i]!).fOp:Int) == 2)
   ·replace h136:=ne_of_beq_false h136
    refine xR [121,122] (sp (Bv false) (sp (Bv false) (zjn (cFr rfl (zcr (oF rfl (oL rfl (H.cell 1 rfl rfl) (sp (Bv (((p.qB[i]!).fOp:Int) == 2)) (sp (Bv (((p.qB[i]!).fOp:Int) == 2)) (zjn (zT (((p.qB[i]!).fOp:Int) == 2) rfl (fun h=>absurd (eq_of_beq h) h135) (fun h137=>?_))))))))))))
    replace h137:=ne_of_beq_false h137
    refine qU (b_n (b_n (t_n (xK (sw (zi i 1 rfl rfl (by (first | omega | exact up1 (ra3 _) | exact up1 (ra4 _) | exact up1 (ra5 _))) (sq 1 (xP (qW (m' :=(p.qB.length - ((i+1):Int)).toNat) qf ⟨_,i+1,_,_,_,_,_,_,_,_,_,_,uE7,?_,?_,?_,rfl,N,H.vW 6 3 (zR 2 4) [1,2] qo qo⟩)))))))))
    ·first | exact QD qf qf | exact QU qf qf | exact QT qf qf | exact QB qf qf | exact QC qf qf | exact QA qf qf qf
    ·exact firsts_succ p mode i
    ·omega
   ·exact absurd (eq_of_beq h136) h135
  replace h135:=eq_of_beq h135
  refine qJ 93 rfl rfl (sq 1 (qJ 93 rfl rfl (sp (Bv ((mode:Int) == 1)) (sp (Bv ((mode:Int) == 1)) (sp (Bv ((mode:Int) == 1)) (zjn (cE rfl (fun h138=>?_) (fun h138=>?_))))))))
  ·refine zcr (sq 1 (sw (x8 [yI p.qA,Sv (aa b11 o12) p.qB.length cO] isAgg26 sizeOf26 rfl (qF (H.cells 5 rfl) 0 2) (oF rfl (oL rfl (H.cell 1 rfl rfl) (sw (oq (Xn _ p ((p.qB[i]!).fTo) (H.get 2 rfl).1 qf qf) H fun w140 H=>sq 2 (sw (o_buildF H underlying27 ti2 [yI (p.qA+i),yI ((p.qB[i]!).zn)] rfl (by simp [Value.cells]) rfl qj qj fun b142 w143 H=>?_)))))))))
   replace H:=H.vI 0 [p.qA+i,(p.qB[i]!).zn] 2
   try dsimp only [List.set] at H
   obtain ⟨G144,N,hn145,H⟩:=H.zh 0 rfl N (fun F hF b hb=>(List.mem_append.1 (show F∈[jB]++Ns from hF)).elim (fun h=>(H.vz (L:=[jB]) [1]) F h b hb) fun h=>H.XM (K0.behind 3 rfl) F h b hb)
   try dsimp only [List.set] at H
   replace H:=H.ja 0 rfl
   have hn146:=H.isLen 0 rfl
   have H1:St W0 w143 ((.box b6 [yI (qQ p mode),Sv yK jH yH,Sv a27 (zD+1) c28] 111)::(.row (Sv yK jH yH) 120 9 jH yR)::(.row yN 0 1 0 [])::(.box b25 [yI ((xk p mode i).length:Int)] 2)::(.box b15 [yI ((p.qB[i]!).fOp),yI ((p.qB[i]!).zn),yI ((p.qB[i]!).fTo),yI ((p.qB[i]!).zf)] 109)::(.row (Sv a27 (zD+1) c28) 2 1 (zD+1) (((Qh p mode i)++[((xk p mode i).length:Int)]).map (Value.int .i64)))::(.box b1 [yI p.qA,Sv (aa b11 o12) p.qB.length cO] 26)::ps) ((isF false G144 (Sv (aa b142 0) (([p.qA+i,(p.qB[i]!).zn]).length) 2) ([p.qA+i,(p.qB[i]!).zn]))::(xN true jB yR (xk p mode i))::(isF false G144 (Sv (aa b142 0) 2 2) ([p.qA+i,(p.qB[i]!).zn]))::(isF true G144 (Sv (aa b142 0) 2 2) ([p.qA+i,(p.qB[i]!).zn]))::(atF b11 (o12+(i:Int).toNat * 4) [yI ((p.qB[i]!).fOp),yI ((p.qB[i]!).zn),yI ((p.qB[i]!).fTo),yI ((p.qB[i]!).zf)])::(isF false FO (Sv (aa b11 o12) p.qB.length cO) p.qB)::Γ):=by (try rw [← hn146]);exact H.vW 7 5 [5,4,0,1,2,3,6] [0,3,0,1,2,4] qo qo
   have N1:Fresh _ (jB::G144::Ns):=(N.vW 2 [1,0] qo)
   have K1:Kept (Ns) ((isF false G144 (Sv (aa b142 0) 2 2) ([p.qA+i,(p.qB[i]!).zn]))::(isF true G144 (Sv (aa b142 0) 2 2) ([p.qA+i,(p.qB[i]!).zn]))::(atF b11 (o12+(i:Int).toNat * 4) [yI ((p.qB[i]!).fOp),yI ((p.qB[i]!).zn),yI ((p.qB[i]!).fTo),yI ((p.qB[i]!).zf)])::(sF false FO (aa b11 o12) cO p.qB)::Γ):=K0.behind 4 rfl
   replace K1:=K1.cons (F:=G144) 0 rfl rfl
   refine sw (jg #[pp b6 0,yI (p.qA+((p.qB[i]!).fTo)),Sv (aa b142 0) 2 2] rfl rfl call118 (jo (by first | rfl | rw [hn146]) (bRule_ok (qQ p mode) (xk p mode i) b6 yK jH yH yR jB a27 (zD+1) c28 (p.qA+((p.qB[i]!).fTo)) ([p.qA+i,(p.qB[i]!).zn]) (aa b142 0) 2 G144 H1 N1 K1 qf (by first | exact vZ.nil _ | exact vZ.one qf | exact vZ.two qf qf) qf (by first | omega | (simp only [List.length_append,List.length_cons,List.length_nil];omega)))) ?_)
   clear H H1 N1 K1
   rintro _ w147 ⟨bs149,rn150,rc151,rx152,rF153,rfl,N,H⟩
   obtain rfl:=H.xB (α:=zZ) 1 rfl 1 rfl qj
   obtain ⟨zV154,eL155⟩:∃ z,z=((xk p mode i)++[zM (qQ p mode).toNat 0 ([p.qA+i,(p.qB[i]!).zn]) [] [] [(p.qA+((p.qB[i]!).fTo))]]):=⟨_,rfl⟩
   rw [← eL155] at H
   try clear ra1 ra2 ra6 ra3 ra4 ra5
   obtain ⟨ra0,ra1,ra2,ra6,ra3,ra4,ra5⟩:=QL eL155
   refine sq 1 (oF rfl ?_)
   obtain ⟨zV160,eL161⟩:∃ z,z=(zV154.set ((xk p mode i).length) { (zV154[(xk p mode i).length]!) with jR:=1 }):=⟨_,rfl⟩
   refine sw (o_putInt part_Rule_Rank H 1 rfl 1 rfl sizeOf2 rfl rfl rfl ((xk p mode i).length) qf qf eL161 fun w156 xs157 F158 hs159 H=>?_)
   replace N:Fresh W0.heap.size (F158::G144::Ns):=(N.emp.vW 3 [1,0,2] qo).repl hs159
   replace eL161:zV160=((xk p mode i)++[zM (qQ p mode).toNat 1 ([p.qA+i,(p.qB[i]!).zn]) [] [] [(p.qA+((p.qB[i]!).fTo))]]):=pokeE_rank eL155 eL161
   have rl162:=last_len eL161
   refine zjn (xK (sq 1 (sw (x8 [yI p.qA,Sv (aa b11 o12) p.qB.length cO] isAgg26 sizeOf26 rfl (qF (H.cells 6 rfl) 0 2) (oF rfl (oL rfl (H.cell 4 rfl rfl) (sw (oq (Xn _ p ((p.qB[i]!).zf) (H.get 6 rfl).1 qf qf) H fun w164 H=>sq 1 (sw (xx H underlying27 ti2 [yI (p.qA+i)] fun b166 w167 H=>?_))))))))))
   replace H:=H.vI 0 [p.qA+i] 1
   try dsimp only [List.set] at H
   obtain ⟨G168,N,hn169,H⟩:=H.zh 0 rfl N (fun F hF b hb=>(List.mem_append.1 (show F∈[F158,G144]++Ns from hF)).elim (fun h=>(H.vz (L:=[F158,G144]) [0,1]) F h b hb) fun h=>H.XM (K0.behind 7 rfl) F h b hb)
   try dsimp only [List.set] at H
   replace H:=H.ja 0 rfl
   have hn170:=H.isLen 0 rfl
   have H1:St W0 w167 ((.box b6 [yI (qQ p mode),Sv (aa bs149 0) zV154.length rc151,Sv a27 (zD+1) c28] 111)::(.row (Sv (aa bs149 0) zV154.length rc151) 120 9 zV154.length xs157)::(.row yN 0 1 0 [])::(.row yN 0 1 0 [])::(.box b25 [yI ((xk p mode i).length:Int)] 2)::(.box b15 [yI ((p.qB[i]!).fOp),yI ((p.qB[i]!).zn),yI ((p.qB[i]!).fTo),yI ((p.qB[i]!).zf)] 109)::(.row (Sv a27 (zD+1) c28) 2 1 (zD+1) (((Qh p mode i)++[((xk p mode i).length:Int)]).map (Value.int .i64)))::(.box b1 [yI p.qA,Sv (aa b11 o12) p.qB.length cO] 26)::ps) ((isF false G168 (Sv (aa b166 0) ([p.qA+i].length) 1) [p.qA+i])::(xN true F158 xs157 zV160)::(isF false G168 (Sv (aa b166 0) 1 1) [p.qA+i])::(isF true G168 (Sv (aa b166 0) 1 1) [p.qA+i])::(isF false G144 (Sv (aa b142 0) (([p.qA+i,(p.qB[i]!).zn]).length) 2) ([p.qA+i,(p.qB[i]!).zn]))::(xN true rF153 rx152 zV154)::(isF false G144 (Sv (aa b142 0) 2 2) ([p.qA+i,(p.qB[i]!).zn]))::(isF true G144 (Sv (aa b142 0) 2 2) ([p.qA+i,(p.qB[i]!).zn]))::(atF b11 (o12+(i:Int).toNat * 4) [yI ((p.qB[i]!).fOp),yI ((p.qB[i]!).zn),yI ((p.qB[i]!).fTo),yI ((p.qB[i]!).zf)])::(isF false FO (Sv (aa b11 o12) p.qB.length cO) p.qB)::Γ):=by (try rw [← hn170]);exact H.vW 8 9 [1,2,0,3,4,5,6,7] (0::2::0::1::zR 3 6) qo qo
   have N1:Fresh _ (F158::G168::G144::Ns):=(N.vW 3 [1,0,2] qo)
   have K1:Kept (Ns) ((isF false G168 (Sv (aa b166 0) 1 1) [p.qA+i])::(isF true G168 (Sv (aa b166 0) 1 1) [p.qA+i])::(sF false G144 (aa b142 0) 2 ([p.qA+i,(p.qB[i]!).zn]))::(xN true rF153 rx152 zV154)::(isF false G144 (Sv (aa b142 0) 2 2) ([p.qA+i,(p.qB[i]!).zn]))::(isF true G144 (Sv (aa b142 0) 2 2) ([p.qA+i,(p.qB[i]!).zn]))::(atF b11 (o12+(i:Int).toNat * 4) [yI ((p.qB[i]!).fOp),yI ((p.qB[i]!).zn),yI ((p.qB[i]!).fTo),yI ((p.qB[i]!).zf)])::(sF false FO (aa b11 o12) cO p.qB)::Γ):=K0.behind 8 rfl
   replace K1:=K1.cons (F:=G144) 2 rfl rfl
   replace K1:=K1.cons (F:=G168) 0 rfl rfl
   refine sw (jg #[pp b6 0,yI (p.qA+((p.qB[i]!).zf)),Sv (aa b166 0) 1 1] rfl rfl call118 (jo (by first | rfl | rw [hn170]) (bRule_ok (qQ p mode) zV160 b6 (aa bs149 0) zV154.length rc151 xs157 F158 a27 (zD+1) c28 (p.qA+((p.qB[i]!).zf)) [p.qA+i] (aa b166 0) 1 G168 H1 N1 K1 qf (by first | exact vZ.nil _ | exact vZ.one qf | exact vZ.two qf qf) qf (by first | omega | (simp only [List.length_append,List.length_cons,List.length_nil];omega)))) ?_)
   clear H H1 N1 K1
   rintro _ w171 ⟨bs173,rn174,rc175,rx176,rF177,rfl,N,H⟩
   obtain rfl:=H.xB (α:=zZ) 1 rfl 1 rfl qj
   obtain ⟨zV178,eL179⟩:∃ z,z=(zV160++[zM (qQ p mode).toNat 0 [p.qA+i] [] [] [(p.qA+((p.qB[i]!).zf))]]):=⟨_,rfl⟩
   rw [← eL179] at H
   try clear ra1 ra2 ra6 ra3 ra4 ra5
   obtain ⟨ra0,ra1,ra2,ra6,ra3,ra4,ra5⟩:=QL eL179
   refine xP (b_n (b_n (t_n (xK (sw (zi i 1 rfl rfl (by (first | omega | exact up1 (ra3 _) | exact up1 (ra4 _) | exact up1 (ra5 _))) (sq 1 (xP (qW (m' :=(p.qB.length - ((i+1):Int)).toNat) qf ⟨_,i+1,_,_,_,_,_,_,_,_,_,_,uE7,?_,?_,?_,rfl,(N.vW 3 [0] qo),H.vW 8 10 [6,1,0,7] [1,9] qo qo⟩)))))))))
   ·subst eL179;subst eL161;subst eL155;first | exact QD qf qf | exact QU qf qf | exact QT qf qf | exact QB qf qf | exact QC qf qf | exact QA qf qf qf
   ·exact firsts_succ p mode i
   ·omega
  refine zcr (oF rfl (oL rfl (H.cell 1 rfl rfl) (sp (Bv (((p.qB[i]!).fOp:Int) == 2)) (sp (Bv (((p.qB[i]!).fOp:Int) == 2)) ?_))))
  cases h180:(((p.qB[i]!).fOp:Int) == 2)
  ·exact absurd h135 (ne_of_beq_false h180)
  replace h180:=eq_of_beq h180
  refine qJ 120 rfl rfl (sq 1 (qJ 120 rfl rfl (sp (Bv ((mode:Int) == 2)) (sp (Bv ((mode:Int) == 2)) (sp (Bv ((mode:Int) == 2)) (zjn (cE rfl (fun h181=>?_) (fun h181=>?_))))))))
  ·refine zcr (sq 1 (sw (x8 [yI p.qA,Sv (aa b11 o12) p.qB.length cO] isAgg26 sizeOf26 rfl (qF (H.cells 5 rfl) 0 2) (oF rfl (oL rfl (H.cell 1 rfl rfl) (sw (oq (Xn _ p ((p.qB[i]!).fTo) (H.get 2 rfl).1 qf qf) H fun w183 H=>sq 2 (sw (o_buildF H underlying27 ti2 [yI (p.qA+i),yI ((p.qB[i]!).zn)] rfl (by simp [Value.cells]) rfl qj qj fun b185 w186 H=>?_)))))))))
   replace H:=H.vI 0 [p.qA+i,(p.qB[i]!).zn] 2
   try dsimp only [List.set] at H
   obtain ⟨G187,N,hn188,H⟩:=H.zh 0 rfl N (fun F hF b hb=>(List.mem_append.1 (show F∈[jB]++Ns from hF)).elim (fun h=>(H.vz (L:=[jB]) [1]) F h b hb) fun h=>H.XM (K0.behind 3 rfl) F h b hb)
   try dsimp only [List.set] at H
   replace H:=H.ja 0 rfl
   have hn189:=H.isLen 0 rfl
   have H1:St W0 w186 ((.box b6 [yI (qQ p mode),Sv yK jH yH,Sv a27 (zD+1) c28] 111)::(.row (Sv yK jH yH) 120 9 jH yR)::(.row yN 0 1 0 [])::(.box b25 [yI ((xk p mode i).length:Int)] 2)::(.box b15 [yI ((p.qB[i]!).fOp),yI ((p.qB[i]!).zn),yI ((p.qB[i]!).fTo),yI ((p.qB[i]!).zf)] 109)::(.row (Sv a27 (zD+1) c28) 2 1 (zD+1) (((Qh p mode i)++[((xk p mode i).length:Int)]).map (Value.int .i64)))::(.box b1 [yI p.qA,Sv (aa b11 o12) p.qB.length cO] 26)::ps) ((isF false G187 (Sv (aa b185 0) (([p.qA+i,(p.qB[i]!).zn]).length) 2) ([p.qA+i,(p.qB[i]!).zn]))::(xN true jB yR (xk p mode i))::(isF false G187 (Sv (aa b185 0) 2 2) ([p.qA+i,(p.qB[i]!).zn]))::(isF true G187 (Sv (aa b185 0) 2 2) ([p.qA+i,(p.qB[i]!).zn]))::(atF b11 (o12+(i:Int).toNat * 4) [yI ((p.qB[i]!).fOp),yI ((p.qB[i]!).zn),yI ((p.qB[i]!).fTo),yI ((p.qB[i]!).zf)])::(isF false FO (Sv (aa b11 o12) p.qB.length cO) p.qB)::Γ):=by (try rw [← hn189]);exact H.vW 7 5 [5,4,0,1,2,3,6] [0,3,0,1,2,4] qo qo
   have N1:Fresh _ (jB::G187::Ns):=(N.vW 2 [1,0] qo)
   have K1:Kept (Ns) ((isF false G187 (Sv (aa b185 0) 2 2) ([p.qA+i,(p.qB[i]!).zn]))::(isF true G187 (Sv (aa b185 0) 2 2) ([p.qA+i,(p.qB[i]!).zn]))::(atF b11 (o12+(i:Int).toNat * 4) [yI ((p.qB[i]!).fOp),yI ((p.qB[i]!).zn),yI ((p.qB[i]!).fTo),yI ((p.qB[i]!).zf)])::(sF false FO (aa b11 o12) cO p.qB)::Γ):=K0.behind 4 rfl
   replace K1:=K1.cons (F:=G187) 0 rfl rfl
   refine sw (jg #[pp b6 0,yI (p.qA+((p.qB[i]!).fTo)),Sv (aa b185 0) 2 2] rfl rfl call118 (jo (by first | rfl | rw [hn189]) (bRule_ok (qQ p mode) (xk p mode i) b6 yK jH yH yR jB a27 (zD+1) c28 (p.qA+((p.qB[i]!).fTo)) ([p.qA+i,(p.qB[i]!).zn]) (aa b185 0) 2 G187 H1 N1 K1 qf (by first | exact vZ.nil _ | exact vZ.one qf | exact vZ.two qf qf) qf (by first | omega | (simp only [List.length_append,List.length_cons,List.length_nil];omega)))) ?_)
   clear H H1 N1 K1
   rintro _ w190 ⟨bs192,rn193,rc194,rx195,rF196,rfl,N,H⟩
   obtain rfl:=H.xB (α:=zZ) 1 rfl 1 rfl qj
   obtain ⟨zV197,eL198⟩:∃ z,z=((xk p mode i)++[zM (qQ p mode).toNat 0 ([p.qA+i,(p.qB[i]!).zn]) [] [] [(p.qA+((p.qB[i]!).fTo))]]):=⟨_,rfl⟩
   rw [← eL198] at H
   try clear ra1 ra2 ra6 ra3 ra4 ra5
   obtain ⟨ra0,ra1,ra2,ra6,ra3,ra4,ra5⟩:=QL eL198
   refine zjn (xK (sq 1 (sw (x8 [yI p.qA,Sv (aa b11 o12) p.qB.length cO] isAgg26 sizeOf26 rfl (qF (H.cells 6 rfl) 0 2) (oF rfl (oL rfl (H.cell 4 rfl rfl) (sw (oq (Xn _ p ((p.qB[i]!).zf) (H.get 5 rfl).1 qf qf) H fun w200 H=>sq 1 (sw (xx H underlying27 ti2 [yI (p.qA+i)] fun b202 w203 H=>?_))))))))))
   replace H:=H.vI 0 [p.qA+i] 1
   try dsimp only [List.set] at H
   obtain ⟨G204,N,hn205,H⟩:=H.zh 0 rfl N (fun F hF b hb=>(List.mem_append.1 (show F∈[rF196,G187]++Ns from hF)).elim (fun h=>(H.vz (L:=[rF196,G187]) [1,0]) F h b hb) fun h=>H.XM (K0.behind 6 rfl) F h b hb)
   try dsimp only [List.set] at H
   replace H:=H.ja 0 rfl
   have hn206:=H.isLen 0 rfl
   have H1:St W0 w203 ((.box b6 [yI (qQ p mode),Sv (aa bs192 0) zV197.length rc194,Sv a27 (zD+1) c28] 111)::(.row (Sv (aa bs192 0) zV197.length rc194) 120 9 zV197.length rx195)::(.row yN 0 1 0 [])::(.row yN 0 1 0 [])::(.box b25 [yI ((xk p mode i).length:Int)] 2)::(.box b15 [yI ((p.qB[i]!).fOp),yI ((p.qB[i]!).zn),yI ((p.qB[i]!).fTo),yI ((p.qB[i]!).zf)] 109)::(.row (Sv a27 (zD+1) c28) 2 1 (zD+1) (((Qh p mode i)++[((xk p mode i).length:Int)]).map (Value.int .i64)))::(.box b1 [yI p.qA,Sv (aa b11 o12) p.qB.length cO] 26)::ps) ((isF false G204 (Sv (aa b202 0) ([p.qA+i].length) 1) [p.qA+i])::(xN true rF196 rx195 zV197)::(isF false G204 (Sv (aa b202 0) 1 1) [p.qA+i])::(isF true G204 (Sv (aa b202 0) 1 1) [p.qA+i])::(isF false G187 (Sv (aa b185 0) (([p.qA+i,(p.qB[i]!).zn]).length) 2) ([p.qA+i,(p.qB[i]!).zn]))::(isF false G187 (Sv (aa b185 0) 2 2) ([p.qA+i,(p.qB[i]!).zn]))::(isF true G187 (Sv (aa b185 0) 2 2) ([p.qA+i,(p.qB[i]!).zn]))::(atF b11 (o12+(i:Int).toNat * 4) [yI ((p.qB[i]!).fOp),yI ((p.qB[i]!).zn),yI ((p.qB[i]!).fTo),yI ((p.qB[i]!).zf)])::(isF false FO (Sv (aa b11 o12) p.qB.length cO) p.qB)::Γ):=by (try rw [← hn206]);exact H.vW 8 8 [1,2,0,3,4,5,6,7] [0,3,0,1,2,4,5,6,7] qo qo
   have N1:Fresh _ (rF196::G204::G187::Ns):=(N.vW 3 [1,0,2] qo)
   have K1:Kept (Ns) ((isF false G204 (Sv (aa b202 0) 1 1) [p.qA+i])::(isF true G204 (Sv (aa b202 0) 1 1) [p.qA+i])::(sF false G187 (aa b185 0) 2 ([p.qA+i,(p.qB[i]!).zn]))::(isF false G187 (Sv (aa b185 0) 2 2) ([p.qA+i,(p.qB[i]!).zn]))::(isF true G187 (Sv (aa b185 0) 2 2) ([p.qA+i,(p.qB[i]!).zn]))::(atF b11 (o12+(i:Int).toNat * 4) [yI ((p.qB[i]!).fOp),yI ((p.qB[i]!).zn),yI ((p.qB[i]!).fTo),yI ((p.qB[i]!).zf)])::(sF false FO (aa b11 o12) cO p.qB)::Γ):=K0.behind 7 rfl
   replace K1:=K1.cons (F:=G187) 2 rfl rfl
   replace K1:=K1.cons (F:=G204) 0 rfl rfl
   refine sw (jg #[pp b6 0,yI (p.qA+((p.qB[i]!).zf)),Sv (aa b202 0) 1 1] rfl rfl call118 (jo (by first | rfl | rw [hn206]) (bRule_ok (qQ p mode) zV197 b6 (aa bs192 0) zV197.length rc194 rx195 rF196 a27 (zD+1) c28 (p.qA+((p.qB[i]!).zf)) [p.qA+i] (aa b202 0) 1 G204 H1 N1 K1 qf (by first | exact vZ.nil _ | exact vZ.one qf | exact vZ.two qf qf) qf (by first | omega | (simp only [List.length_append,List.length_cons,List.length_nil];omega)))) ?_)
   clear H H1 N1 K1
   rintro _ w207 ⟨bs209,rn210,rc211,rx212,rF213,rfl,N,H⟩
   obtain rfl:=H.xB (α:=zZ) 1 rfl 1 rfl qj
   obtain ⟨zV214,eL215⟩:∃ z,z=(zV197++[zM (qQ p mode).toNat 0 [p.qA+i] [] [] [(p.qA+((p.qB[i]!).zf))]]):=⟨_,rfl⟩
   rw [← eL215] at H
   try clear ra1 ra2 ra6 ra3 ra4 ra5
   obtain ⟨ra0,ra1,ra2,ra6,ra3,ra4,ra5⟩:=QL eL215
   refine sq 1 (oF rfl ?_)
   obtain ⟨ae216Need,ce216Need,Fe216Need,ae216Have,ce216Have,Fe216Have,ae216Lack,ce216Lack,Fe216Lack,ae216Here,ce216Here,Fe216Here,ae216Out,ce216Out,Fe216Out,ae216Into,ce216Into,Fe216Into,hx217,H⟩:=H.part_RuleD Xg.refl 1 rfl 1 rfl rfl zV197.length qf
   refine oL rfl (H.deepGet 1 rfl (hx217 4 _ rfl) qf) (sq 1 ?_)
   obtain ⟨b218,o219,rfl⟩:=H.addr 2 rfl qf
   refine oI rfl rfl (oL rfl (H.XX 2 rfl ((p.qB[i]!).zn) qf qf) (sw (zi (((zV214[zV197.length]!).vY)[((p.qB[i]!).zn:Int).toNat]!) 1 rfl rfl (by (first | omega | exact up1 (ra3 _) | exact up1 (ra4 _) | exact up1 (ra5 _))) (oI rfl rfl ?_))))
   have N0:Fresh W0.heap.size (rF213::G204::G187::Ns):=N
   obtain ⟨zV223,eL224⟩:∃ z,z=(zV214.set zV197.length { zV214[zV197.length]! with vY:=(((zV214[zV197.length]!).vY).set (((p.qB[i]!).zn:Int).toNat) ((((zV214[zV197.length]!).vY)[((p.qB[i]!).zn:Int).toNat]!)+1))}):=⟨_,rfl⟩
   refine sw (o_pokeInt part_Rule_Lack H 7 rfl N0 ((sF false G204 (aa b202 0) 1 [p.qA+i])::(isF false G204 (Sv (aa b202 0) 1 1) [p.qA+i])::(isF true G204 (Sv (aa b202 0) 1 1) [p.qA+i])::(sF false G187 (aa b185 0) 2 ([p.qA+i,(p.qB[i]!).zn]))::(isF false G187 (Sv (aa b185 0) 2 2) ([p.qA+i,(p.qB[i]!).zn]))::(isF true G187 (Sv (aa b185 0) 2 2) ([p.qA+i,(p.qB[i]!).zn]))::(sF false FO (aa b11 o12) cO p.qB)::Γ) (Xj (kept 6 rfl (away_new N0 0 rfl)) (Xj (kept 8 rfl (away_new N0 0 rfl)) (Xj (kept 9 rfl (away_new N0 0 rfl)) (Xj (kept 10 rfl (away_new N0 1 rfl)) (Xj (kept 11 rfl (away_new N0 1 rfl)) (Xj (kept 12 rfl (away_new N0 1 rfl)) (Xj (kept 14 rfl (old_away OL 0 rfl N0)) (keeps_old 15 rfl OL 1 rfl N0)))))))) zV197.length qf rfl (hx217 4 _ rfl) (((p.qB[i]!).zn:Int).toNat) qf sizeOf2 rfl qf rfl eL224 fun w221 F222 N H=>?_)
   replace eL224:zV223=(zV197++[zM (qQ p mode).toNat 0 [p.qA+i] [] [((p.qB[i]!).zn:Int)] [(p.qA+((p.qB[i]!).zf))]]):=pokeE_lack eL215 eL224
   have rl225:=last_len eL224
   refine xP (b_n (b_n (t_n (xK (sw (zi i 1 rfl rfl (by (first | omega | exact up1 (ra3 _) | exact up1 (ra4 _) | exact up1 (ra5 _))) (sq 1 (xP (qW (m' :=(p.qB.length - ((i+1):Int)).toNat) qf ⟨_,i+1,_,_,_,_,_,_,_,_,_,_,uE7,?_,?_,?_,rfl,(N.vW 3 [0] qo),H.vW 8 8 [6,1,0,7] [0,7] qo qo⟩)))))))))
   ·subst eL224;subst eL215;subst eL198;first | exact QD qf qf | exact QU qf qf | exact QT qf qf | exact QB qf qf | exact QC qf qf | exact QA qf qf qf
   ·exact firsts_succ p mode i
   ·omega
  refine zcr (oF rfl (oL rfl (H.cell 1 rfl rfl) (sp (Bv (((p.qB[i]!).fOp:Int) == 2)) (sp (Bv (((p.qB[i]!).fOp:Int) == 2)) (zjn (zT (((p.qB[i]!).fOp:Int) == 2) rfl (fun h226=>?_) (fun h=>absurd h135 (ne_of_beq_false h))))))))
  replace h226:=eq_of_beq h226
  have kt:=kinds_trap (p:=p) (mode:=mode) qf
  have s1:=subs_yes (p:=p) (k:=i) qf
  have s2:=subsTo_mono p (k:=i+1) (n:=p.qB.length) qf
  refine zcr (sq 1 (sw (x8 [yI p.qA,Sv (aa b11 o12) p.qB.length cO] isAgg26 sizeOf26 rfl (qF (H.cells 5 rfl) 0 2) (oF rfl (oL rfl (H.cell 1 rfl rfl) (sw (oq (Xn _ p ((p.qB[i]!).fTo) (H.get 2 rfl).1 qf qf) H fun w228 H=>sq 2 (sw (o_buildF H underlying27 ti2 [yI (p.qA+i),yI ((p.qB[i]!).zn)] rfl (by simp [Value.cells]) rfl qj qj fun b230 w231 H=>?_)))))))))
  replace H:=H.vI 0 [p.qA+i,(p.qB[i]!).zn] 2
  try dsimp only [List.set] at H
  obtain ⟨G232,N,hn233,H⟩:=H.zh 0 rfl N (fun F hF b hb=>(List.mem_append.1 (show F∈[jB]++Ns from hF)).elim (fun h=>(H.vz (L:=[jB]) [1]) F h b hb) fun h=>H.XM (K0.behind 3 rfl) F h b hb)
  try dsimp only [List.set] at H
  replace H:=H.ja 0 rfl
  have hn234:=H.isLen 0 rfl
  have H1:St W0 w231 ((.box b6 [yI (qQ p mode),Sv yK jH yH,Sv a27 (zD+1) c28] 111)::(.row (Sv yK jH yH) 120 9 jH yR)::(.row yN 0 1 0 [])::(.box b25 [yI ((xk p mode i).length:Int)] 2)::(.box b15 [yI ((p.qB[i]!).fOp),yI ((p.qB[i]!).zn),yI ((p.qB[i]!).fTo),yI ((p.qB[i]!).zf)] 109)::(.row (Sv a27 (zD+1) c28) 2 1 (zD+1) (((Qh p mode i)++[((xk p mode i).length:Int)]).map (Value.int .i64)))::(.box b1 [yI p.qA,Sv (aa b11 o12) p.qB.length cO] 26)::ps) ((isF false G232 (Sv (aa b230 0) (([p.qA+i,(p.qB[i]!).zn]).length) 2) ([p.qA+i,(p.qB[i]!).zn]))::(xN true jB yR (xk p mode i))::(isF false G232 (Sv (aa b230 0) 2 2) ([p.qA+i,(p.qB[i]!).zn]))::(isF true G232 (Sv (aa b230 0) 2 2) ([p.qA+i,(p.qB[i]!).zn]))::(atF b11 (o12+(i:Int).toNat * 4) [yI ((p.qB[i]!).fOp),yI ((p.qB[i]!).zn),yI ((p.qB[i]!).fTo),yI ((p.qB[i]!).zf)])::(isF false FO (Sv (aa b11 o12) p.qB.length cO) p.qB)::Γ):=by (try rw [← hn234]);exact H.vW 7 5 [5,4,0,1,2,3,6] [0,3,0,1,2,4] qo qo
  have N1:Fresh _ (jB::G232::Ns):=(N.vW 2 [1,0] qo)
  have K1:Kept (Ns) ((isF false G232 (Sv (aa b230 0) 2 2) ([p.qA+i,(p.qB[i]!).zn]))::(isF true G232 (Sv (aa b230 0) 2 2) ([p.qA+i,(p.qB[i]!).zn]))::(atF b11 (o12+(i:Int).toNat * 4) [yI ((p.qB[i]!).fOp),yI ((p.qB[i]!).zn),yI ((p.qB[i]!).fTo),yI ((p.qB[i]!).zf)])::(sF false FO (aa b11 o12) cO p.qB)::Γ):=K0.behind 4 rfl
  replace K1:=K1.cons (F:=G232) 0 rfl rfl
  refine sw (jg #[pp b6 0,yI (p.qA+((p.qB[i]!).fTo)),Sv (aa b230 0) 2 2] rfl rfl call118 (jo (by first | rfl | rw [hn234]) (bRule_ok (qQ p mode) (xk p mode i) b6 yK jH yH yR jB a27 (zD+1) c28 (p.qA+((p.qB[i]!).fTo)) ([p.qA+i,(p.qB[i]!).zn]) (aa b230 0) 2 G232 H1 N1 K1 qf (by first | exact vZ.nil _ | exact vZ.one qf | exact vZ.two qf qf) qf (by first | omega | (simp only [List.length_append,List.length_cons,List.length_nil];omega)))) ?_)
  clear H H1 N1 K1
  rintro _ w235 ⟨bs237,rn238,rc239,rx240,rF241,rfl,N,H⟩
  obtain rfl:=H.xB (α:=zZ) 1 rfl 1 rfl qj
  obtain ⟨zV242,eL243⟩:∃ z,z=((xk p mode i)++[zM (qQ p mode).toNat 0 ([p.qA+i,(p.qB[i]!).zn]) [] [] [(p.qA+((p.qB[i]!).fTo))]]):=⟨_,rfl⟩
  rw [← eL243] at H
  try clear ra1 ra2 ra6 ra3 ra4 ra5
  obtain ⟨ra0,ra1,ra2,ra6,ra3,ra4,ra5⟩:=QL eL243
  refine zjc (sq 1 (sw (x8 [yI p.qA,Sv (aa b11 o12) p.qB.length cO] isAgg26 sizeOf26 rfl (qF (H.cells 6 rfl) 0 2) (sp (yI i) (sw (oq (wait_ok _ p i (H.get 5 rfl).1 ql qf) H fun w245 H=>sq 1 (sw (xx H underlying27 ti2 [yI (p.qA+i)] fun b247 w248 H=>?_))))))))
  replace H:=H.vI 0 [p.qA+i] 1
  try dsimp only [List.set] at H
  obtain ⟨G249,N,hn250,H⟩:=H.zh 0 rfl N (fun F hF b hb=>(List.mem_append.1 (show F∈[rF241,G232]++Ns from hF)).elim (fun h=>(H.vz (L:=[rF241,G232]) [1,0]) F h b hb) fun h=>H.XM (K0.behind 6 rfl) F h b hb)
  try dsimp only [List.set] at H
  replace H:=H.ja 0 rfl
  have hn251:=H.isLen 0 rfl
  have H1:St W0 w248 ((.box b6 [yI (qQ p mode),Sv (aa bs237 0) zV242.length rc239,Sv a27 (zD+1) c28] 111)::(.row (Sv (aa bs237 0) zV242.length rc239) 120 9 zV242.length rx240)::(.row yN 0 1 0 [])::(.row yN 0 1 0 [])::(.box b25 [yI ((xk p mode i).length:Int)] 2)::(.box b15 [yI ((p.qB[i]!).fOp),yI ((p.qB[i]!).zn),yI ((p.qB[i]!).fTo),yI ((p.qB[i]!).zf)] 109)::(.row (Sv a27 (zD+1) c28) 2 1 (zD+1) (((Qh p mode i)++[((xk p mode i).length:Int)]).map (Value.int .i64)))::(.box b1 [yI p.qA,Sv (aa b11 o12) p.qB.length cO] 26)::ps) ((isF false G249 (Sv (aa b247 0) ([p.qA+i].length) 1) [p.qA+i])::(xN true rF241 rx240 zV242)::(isF false G249 (Sv (aa b247 0) 1 1) [p.qA+i])::(isF true G249 (Sv (aa b247 0) 1 1) [p.qA+i])::(isF false G232 (Sv (aa b230 0) (([p.qA+i,(p.qB[i]!).zn]).length) 2) ([p.qA+i,(p.qB[i]!).zn]))::(isF false G232 (Sv (aa b230 0) 2 2) ([p.qA+i,(p.qB[i]!).zn]))::(isF true G232 (Sv (aa b230 0) 2 2) ([p.qA+i,(p.qB[i]!).zn]))::(atF b11 (o12+(i:Int).toNat * 4) [yI ((p.qB[i]!).fOp),yI ((p.qB[i]!).zn),yI ((p.qB[i]!).fTo),yI ((p.qB[i]!).zf)])::(isF false FO (Sv (aa b11 o12) p.qB.length cO) p.qB)::Γ):=by (try rw [← hn251]);exact H.vW 8 8 [1,2,0,3,4,5,6,7] [0,3,0,1,2,4,5,6,7] qo qo
  have N1:Fresh _ (rF241::G249::G232::Ns):=(N.vW 3 [1,0,2] qo)
  have K1:Kept (Ns) ((isF false G249 (Sv (aa b247 0) 1 1) [p.qA+i])::(isF true G249 (Sv (aa b247 0) 1 1) [p.qA+i])::(sF false G232 (aa b230 0) 2 ([p.qA+i,(p.qB[i]!).zn]))::(isF false G232 (Sv (aa b230 0) 2 2) ([p.qA+i,(p.qB[i]!).zn]))::(isF true G232 (Sv (aa b230 0) 2 2) ([p.qA+i,(p.qB[i]!).zn]))::(atF b11 (o12+(i:Int).toNat * 4) [yI ((p.qB[i]!).fOp),yI ((p.qB[i]!).zn),yI ((p.qB[i]!).fTo),yI ((p.qB[i]!).zf)])::(sF false FO (aa b11 o12) cO p.qB)::Γ):=K0.behind 7 rfl
  replace K1:=K1.cons (F:=G232) 2 rfl rfl
  replace K1:=K1.cons (F:=G249) 0 rfl rfl
  refine sw (jg #[pp b6 0,yI (p.qA+p.qB.length+1+zg p (i:Int).toNat),Sv (aa b247 0) 1 1] rfl rfl call118 (jo (by first | rfl | rw [hn251]) (bRule_ok (qQ p mode) zV242 b6 (aa bs237 0) zV242.length rc239 rx240 rF241 a27 (zD+1) c28 (p.qA+p.qB.length+1+zg p (i:Int).toNat) [p.qA+i] (aa b247 0) 1 G249 H1 N1 K1 qf (by first | exact vZ.nil _ | exact vZ.one qf | exact vZ.two qf qf) qf (by first | omega | (simp only [List.length_append,List.length_cons,List.length_nil];omega)))) ?_)
  clear H H1 N1 K1
  rintro _ w252 ⟨bs254,rn255,rc256,rx257,rF258,rfl,N,H⟩
  obtain rfl:=H.xB (α:=zZ) 1 rfl 1 rfl qj
  obtain ⟨zV259,eL260⟩:∃ z,z=(zV242++[zM (qQ p mode).toNat 0 [p.qA+i] [] [] [(p.qA+p.qB.length+1+zg p (i:Int).toNat)]]):=⟨_,rfl⟩
  rw [← eL260] at H
  try clear ra1 ra2 ra6 ra3 ra4 ra5
  obtain ⟨ra0,ra1,ra2,ra6,ra3,ra4,ra5⟩:=QL eL260
  refine zjn (xU (c_lateK rfl H [0,1,2,3,4,5,6,7] [0,1,2,3,4,5,6,7,8] fun H=>?_))
  dsimp only [Xw]
  have S:=H.jr (zR 0 8) (zR 0 9)
  refine rtl 0 S ?_
  refine rt 1 _ (yl (cs:=[yI p.qA,Sv (aa b11 o12) p.qB.length cO]) isAgg26 sizeOf26 rfl (fun _ h=>qF (h.cells 7 rfl) 0 2)) S ?_
  refine tF 2 rfl rfl S ?_
  refine tL 3 rfl rfl (fun _ h=>h.cell 5 rfl rfl) S ?_
  refine rt 5 _ (yl (cs:=[yI p.qA,Sv (aa b11 o12) p.qB.length cO]) isAgg26 sizeOf26 rfl (fun _ h=>qF (h.cells 7 rfl) 0 2)) S ?_
  refine rtp 6 (yI i) S ?_
  refine ro 4 rfl (oq (Xn _ p ((p.qB[i]!).zf) (H.get 8 rfl).1 qf qf) H fun w263 H=>⟨H.pick (zR 0 8) (zR 0 9),(ro 7 rfl (oq (wait_ok _ p i (H.get 8 rfl).1 ql qf) H fun w266 H=>⟨H.pick (zR 0 8) (zR 0 9),(ro 8 rfl (xx H underlying27 ti2 [yI (p.qA+p.qB.length+1+zg p (i:Int).toNat)] fun b268 w269 H=>⟨H.pick (zR 1 8) (zR 0 9),(xA qh (late_end ?_))⟩))⟩))⟩)
  replace H:=H.vI 0 [p.qA+p.qB.length+1+zg p (i:Int).toNat] 1
  try dsimp only [List.set] at H
  obtain ⟨G270,N,hn271,H⟩:=H.zh 0 rfl N (fun F hF b hb=>(List.mem_append.1 (show F∈[rF258,G249,G232]++Ns from hF)).elim (fun h=>(H.vz (L:=[rF258,G249,G232]) [1,0,4]) F h b hb) fun h=>H.XM (K0.behind 9 rfl) F h b hb)
  try dsimp only [List.set] at H
  replace H:=H.ja 0 rfl
  have hn272:=H.isLen 0 rfl
  have H1:St W0 w269 ((.box b6 [yI (qQ p mode),Sv (aa bs254 0) zV259.length rc256,Sv a27 (zD+1) c28] 111)::(.row (Sv (aa bs254 0) zV259.length rc256) 120 9 zV259.length rx257)::(.row yN 0 1 0 [])::(.row yN 0 1 0 [])::(.row yN 0 1 0 [])::(.box b25 [yI ((xk p mode i).length:Int)] 2)::(.box b15 [yI ((p.qB[i]!).fOp),yI ((p.qB[i]!).zn),yI ((p.qB[i]!).fTo),yI ((p.qB[i]!).zf)] 109)::(.row (Sv a27 (zD+1) c28) 2 1 (zD+1) (((Qh p mode i)++[((xk p mode i).length:Int)]).map (Value.int .i64)))::(.box b1 [yI p.qA,Sv (aa b11 o12) p.qB.length cO] 26)::ps) ((isF false G270 (Sv (aa b268 0) ([p.qA+p.qB.length+1+zg p (i:Int).toNat].length) 1) [p.qA+p.qB.length+1+zg p (i:Int).toNat])::(xN true rF258 rx257 zV259)::(isF false G270 (Sv (aa b268 0) 1 1) [p.qA+p.qB.length+1+zg p (i:Int).toNat])::(isF true G270 (Sv (aa b268 0) 1 1) [p.qA+p.qB.length+1+zg p (i:Int).toNat])::(isF false G249 (Sv (aa b247 0) ([p.qA+i].length) 1) [p.qA+i])::(isF false G249 (Sv (aa b247 0) 1 1) [p.qA+i])::(isF true G249 (Sv (aa b247 0) 1 1) [p.qA+i])::(isF false G232 (Sv (aa b230 0) (([p.qA+i,(p.qB[i]!).zn]).length) 2) ([p.qA+i,(p.qB[i]!).zn]))::(isF false G232 (Sv (aa b230 0) 2 2) ([p.qA+i,(p.qB[i]!).zn]))::(isF true G232 (Sv (aa b230 0) 2 2) ([p.qA+i,(p.qB[i]!).zn]))::(atF b11 (o12+(i:Int).toNat * 4) [yI ((p.qB[i]!).fOp),yI ((p.qB[i]!).zn),yI ((p.qB[i]!).fTo),yI ((p.qB[i]!).zf)])::(isF false FO (Sv (aa b11 o12) p.qB.length cO) p.qB)::Γ):=by (try rw [← hn272]);exact H.vW 9 11 (1::2::0::zR 3 6) (0::3::0::1::2::zR 4 7) qo qo
  have N1:Fresh _ (rF258::G270::G249::G232::Ns):=(N.vW 4 [1,0,2,3] qo)
  have K1:Kept (Ns) ((isF false G270 (Sv (aa b268 0) 1 1) [p.qA+p.qB.length+1+zg p (i:Int).toNat])::(isF true G270 (Sv (aa b268 0) 1 1) [p.qA+p.qB.length+1+zg p (i:Int).toNat])::(sF false G249 (aa b247 0) 1 [p.qA+i])::(isF false G249 (Sv (aa b247 0) 1 1) [p.qA+i])::(isF true G249 (Sv (aa b247 0) 1 1) [p.qA+i])::(sF false G232 (aa b230 0) 2 ([p.qA+i,(p.qB[i]!).zn]))::(isF false G232 (Sv (aa b230 0) 2 2) ([p.qA+i,(p.qB[i]!).zn]))::(isF true G232 (Sv (aa b230 0) 2 2) ([p.qA+i,(p.qB[i]!).zn]))::(atF b11 (o12+(i:Int).toNat * 4) [yI ((p.qB[i]!).fOp),yI ((p.qB[i]!).zn),yI ((p.qB[i]!).fTo),yI ((p.qB[i]!).zf)])::(sF false FO (aa b11 o12) cO p.qB)::Γ):=K0.behind 10 rfl
  replace K1:=K1.cons (F:=G232) 5 rfl rfl
  replace K1:=K1.cons (F:=G249) 2 rfl rfl
  replace K1:=K1.cons (F:=G270) 0 rfl rfl
  refine jg #[pp b6 0,yI (p.qA+((p.qB[i]!).zf)),Sv (aa b268 0) 1 1] rfl rfl call118 (jo (by first | rfl | rw [hn272]) (bRule_ok (qQ p mode) zV259 b6 (aa bs254 0) zV259.length rc256 rx257 rF258 a27 (zD+1) c28 (p.qA+((p.qB[i]!).zf)) [p.qA+p.qB.length+1+zg p (i:Int).toNat] (aa b268 0) 1 G270 H1 N1 K1 qf (by first | exact vZ.nil _ | exact vZ.one qf | exact vZ.two qf qf) qf (by first | omega | (simp only [List.length_append,List.length_cons,List.length_nil];omega)))) ?_
  clear H H1 N1 K1
  rintro _ w273 ⟨bs275,rn276,rc277,rx278,rF279,rfl,N,H⟩
  obtain rfl:=H.xB (α:=zZ) 1 rfl 1 rfl qj
  obtain ⟨zV280,eL281⟩:∃ z,z=(zV259++[zM (qQ p mode).toNat 0 [p.qA+p.qB.length+1+zg p (i:Int).toNat] [] [] [(p.qA+((p.qB[i]!).zf))]]):=⟨_,rfl⟩
  rw [← eL281] at H
  try clear ra1 ra2 ra6 ra3 ra4 ra5
  obtain ⟨ra0,ra1,ra2,ra6,ra3,ra4,ra5⟩:=QL eL281
  refine t_n ?_
  refine c_lateC (fun ρ w291=>∃ (xQ:Env) (zV282:List zZ) (rx283:List Value) (b284:Nat) (o285:Nat) (c286:Nat) (bs287:Nat) (rc288:Nat) (F289:yLN) (rF290:yLN),ρ=upd (upd (upd (upd (upd (upd (upd (upd (upd (upd (upd (upd (upd xQ 1 (yI mode)) 2 (pp b1 0)) 5 (pp b6 0)) 6 (yI ((qQ p mode) - 1))) 22 (Sv (aa b11 o12) p.qB.length cO)) 23 (yI p.qB.length)) 24 (yI i)) 94 (yI mode)) 95 (Bv ((mode:Int) == 1))) 121 (yI mode)) 122 (Bv ((mode:Int) == 2))) 192 (yI ((((zV282[zV280.length]!).vJ)[(p.qA+p.qB.length+1+zg p (i:Int).toNat:Int).toNat]!)+1))) 193 (pp b284 (o285+(p.qA+p.qB.length+1+zg p (i:Int).toNat:Int).toNat * 1))/\(zV282=(zV280++[zM (qQ p mode).toNat 0 ([(p.qB[i]!).zn]) [] [] [((qQ p mode) - 1)]]))/\(rx283[zV280.length * 9+3]? =some (Sv (aa b284 o285) (((zV282[zV280.length]!).vJ).length) c286))/\Fresh W0.heap.size (rF290::Ns)/\St W0 w291 ((.box b6 [yI (qQ p mode),Sv (aa bs287 0) zV282.length rc288,Sv a27 (zD+1) c28] 111)::(rr (aa bs287 0) zV282.length rc288 120 9 rx283)::(rr none 0 0 0 1 [])::(rr none 0 0 0 1 [])::(rr none 0 0 0 1 [])::(.box b25 [yI ((xk p mode i).length:Int)] 2)::(.box b15 [yI ((p.qB[i]!).fOp),yI ((p.qB[i]!).zn),yI ((p.qB[i]!).fTo),yI ((p.qB[i]!).zf)] 109)::(rr a27 (zD+1) c28 2 1 (((Qh p mode i)++[((xk p mode i).length:Int)]).map (Value.int .i64)))::(.box b1 [yI p.qA,Sv (aa b11 o12) p.qB.length cO] 26)::ps) ((sF true F289 (aa b284 o285) c286 ((zV282[zV280.length]!).vJ))::(xN true rF290 rx283 zV282)::(atF b11 (o12+(i:Int).toNat * 4) [yI ((p.qB[i]!).fOp),yI ((p.qB[i]!).zn),yI ((p.qB[i]!).fTo),yI ((p.qB[i]!).zf)])::(sF false FO (aa b11 o12) cO p.qB)::Γ)) rfl H [2,3,4,5,6,7,8] [0,2,3,4,5,6,7,8,9,10,11] (fun H=>?_) ?_
  ·dsimp only [Xw]
   have S:=H.jr (zR 2 7) (0::zR 2 10)
   refine rtl 0 S ?_
   refine rtl 1 S ?_
   refine rtl 2 S ?_
   refine rt 8 _ (yl (cs:=[yI p.qA,Sv (aa b11 o12) p.qB.length cO]) isAgg26 sizeOf26 rfl (fun _ h=>qF (h.cells 6 rfl) 0 2)) S ?_
   refine rtp 9 (yI i) S ?_
   refine ro 3 rfl (xx H underlying27 ti2 [yI ((p.qB[i]!).zn)] fun b293 w294 H=>⟨H.pick (zR 3 7) (0::zR 2 10),(ro 4 rfl ?_)⟩)
   replace H:=H.vI 0 [(p.qB[i]!).zn] 1
   try dsimp only [List.set] at H
   obtain ⟨G295,N,hn296,H⟩:=H.zh 0 rfl N (fun F hF b hb=>(List.mem_append.1 (show F∈[rF279,G270,G249,G232]++Ns from hF)).elim (fun h=>(H.vz (L:=[rF279,G270,G249,G232]) [1,0,4,7]) F h b hb) fun h=>H.XM (K0.behind 12 rfl) F h b hb)
   try dsimp only [List.set] at H
   replace H:=H.ja 0 rfl
   have hn297:=H.isLen 0 rfl
   have H1:St W0 w294 ((.box b6 [yI (qQ p mode),Sv (aa bs275 0) zV280.length rc277,Sv a27 (zD+1) c28] 111)::(.row (Sv (aa bs275 0) zV280.length rc277) 120 9 zV280.length rx278)::(.row yN 0 1 0 [])::(.row yN 0 1 0 [])::(.row yN 0 1 0 [])::(.row yN 0 1 0 [])::(.box b25 [yI ((xk p mode i).length:Int)] 2)::(.box b15 [yI ((p.qB[i]!).fOp),yI ((p.qB[i]!).zn),yI ((p.qB[i]!).fTo),yI ((p.qB[i]!).zf)] 109)::(.row (Sv a27 (zD+1) c28) 2 1 (zD+1) (((Qh p mode i)++[((xk p mode i).length:Int)]).map (Value.int .i64)))::(.box b1 [yI p.qA,Sv (aa b11 o12) p.qB.length cO] 26)::ps) ((isF false G295 (Sv (aa b293 0) (([(p.qB[i]!).zn]).length) 1) ([(p.qB[i]!).zn]))::(xN true rF279 rx278 zV280)::(isF false G295 (Sv (aa b293 0) 1 1) ([(p.qB[i]!).zn]))::(isF true G295 (Sv (aa b293 0) 1 1) ([(p.qB[i]!).zn]))::(isF false G270 (Sv (aa b268 0) ([p.qA+p.qB.length+1+zg p (i:Int).toNat].length) 1) [p.qA+p.qB.length+1+zg p (i:Int).toNat])::(isF false G270 (Sv (aa b268 0) 1 1) [p.qA+p.qB.length+1+zg p (i:Int).toNat])::(isF true G270 (Sv (aa b268 0) 1 1) [p.qA+p.qB.length+1+zg p (i:Int).toNat])::(isF false G249 (Sv (aa b247 0) ([p.qA+i].length) 1) [p.qA+i])::(isF false G249 (Sv (aa b247 0) 1 1) [p.qA+i])::(isF true G249 (Sv (aa b247 0) 1 1) [p.qA+i])::(isF false G232 (Sv (aa b230 0) (([p.qA+i,(p.qB[i]!).zn]).length) 2) ([p.qA+i,(p.qB[i]!).zn]))::(isF false G232 (Sv (aa b230 0) 2 2) ([p.qA+i,(p.qB[i]!).zn]))::(isF true G232 (Sv (aa b230 0) 2 2) ([p.qA+i,(p.qB[i]!).zn]))::(atF b11 (o12+(i:Int).toNat * 4) [yI ((p.qB[i]!).fOp),yI ((p.qB[i]!).zn),yI ((p.qB[i]!).fTo),yI ((p.qB[i]!).zf)])::(isF false FO (Sv (aa b11 o12) p.qB.length cO) p.qB)::Γ):=by (try rw [← hn297]);exact H.vW 10 14 (1::2::0::zR 3 7) (0::3::0::1::2::zR 4 10) qo qo
   have N1:Fresh _ (rF279::G295::G270::G249::G232::Ns):=(N.vW 5 [1,0,2,3,4] qo)
   have K1:Kept (Ns) ((isF false G295 (Sv (aa b293 0) 1 1) ([(p.qB[i]!).zn]))::(isF true G295 (Sv (aa b293 0) 1 1) ([(p.qB[i]!).zn]))::(sF false G270 (aa b268 0) 1 [p.qA+p.qB.length+1+zg p (i:Int).toNat])::(isF false G270 (Sv (aa b268 0) 1 1) [p.qA+p.qB.length+1+zg p (i:Int).toNat])::(isF true G270 (Sv (aa b268 0) 1 1) [p.qA+p.qB.length+1+zg p (i:Int).toNat])::(sF false G249 (aa b247 0) 1 [p.qA+i])::(isF false G249 (Sv (aa b247 0) 1 1) [p.qA+i])::(isF true G249 (Sv (aa b247 0) 1 1) [p.qA+i])::(sF false G232 (aa b230 0) 2 ([p.qA+i,(p.qB[i]!).zn]))::(isF false G232 (Sv (aa b230 0) 2 2) ([p.qA+i,(p.qB[i]!).zn]))::(isF true G232 (Sv (aa b230 0) 2 2) ([p.qA+i,(p.qB[i]!).zn]))::(atF b11 (o12+(i:Int).toNat * 4) [yI ((p.qB[i]!).fOp),yI ((p.qB[i]!).zn),yI ((p.qB[i]!).fTo),yI ((p.qB[i]!).zf)])::(sF false FO (aa b11 o12) cO p.qB)::Γ):=K0.behind 13 rfl
   replace K1:=K1.cons (F:=G232) 8 rfl rfl
   replace K1:=K1.cons (F:=G249) 5 rfl rfl
   replace K1:=K1.cons (F:=G270) 2 rfl rfl
   replace K1:=K1.cons (F:=G295) 0 rfl rfl
   refine jg #[pp b6 0,yI ((qQ p mode) - 1),Sv (aa b293 0) 1 1] rfl rfl call118 (jo (by first | rfl | rw [hn297]) (bRule_ok (qQ p mode) zV280 b6 (aa bs275 0) zV280.length rc277 rx278 rF279 a27 (zD+1) c28 ((qQ p mode) - 1) ([(p.qB[i]!).zn]) (aa b293 0) 1 G295 H1 N1 K1 qf (by first | exact vZ.nil _ | exact vZ.one qf | exact vZ.two qf qf) qf (by first | omega | (simp only [List.length_append,List.length_cons,List.length_nil];omega)))) ?_
   clear H H1 N1 K1
   rintro _ w298 ⟨bs300,rn301,rc302,rx303,rF304,rfl,N,H⟩
   obtain rfl:=H.xB (α:=zZ) 1 rfl 1 rfl qj
   obtain ⟨zV305,eL306⟩:∃ z,z=(zV280++[zM (qQ p mode).toNat 0 ([(p.qB[i]!).zn]) [] [] [((qQ p mode) - 1)]]):=⟨_,rfl⟩
   rw [← eL306] at H
   try clear ra1 ra2 ra6 ra3 ra4 ra5
   obtain ⟨ra0,ra1,ra2,ra6,ra3,ra4,ra5⟩:=QL eL306
   refine ⟨H.pick (zR 3 7) (zR 4 11),?_⟩
   have S:=H.jr (zR 3 7) (zR 4 11)
   refine rtl 5 S ?_
   refine tF 6 rfl rfl S ?_
   refine jb [7,10] qh qm (jM rfl ?_ (jM rfl ?_ jd))
   ·obtain ⟨ae307Need,ce307Need,Fe307Need,ae307Have,ce307Have,Fe307Have,ae307Lack,ce307Lack,Fe307Lack,ae307Here,ce307Here,Fe307Here,ae307Out,ce307Out,Fe307Out,ae307Into,ce307Into,Fe307Into,hx308,H⟩:=H.part_RuleD Xg.refl 1 rfl 1 rfl rfl zV280.length qf
    refine zK (Sv ae307Have (((zV305[zV280.length]!).vJ).length) ce307Have) isAgg27 rfl (H.deepGet 1 rfl (hx308 3 _ rfl) qf) (⟨H.pick (zR 3 7) (zR 10 11),(ro 10 rfl (oq (wait_ok _ p i (H.get 20 rfl).1 ql qf) H fun w310 H=>⟨H.pick (zR 3 7) (zR 10 11),?_⟩))⟩)
    obtain ⟨b312,o313,rfl⟩:=H.addr 1 rfl qf
    refine tI 11 rfl rfl rfl (H.pick (zR 3 7) (zR 10 11)) ?_
    refine ro 12 rfl (zK (yI (((zV305[zV280.length]!).vJ)[(p.qA+p.qB.length+1+zg p (i:Int).toNat:Int).toNat]!)) isAgg2 rfl (H.XX 1 rfl (p.qA+p.qB.length+1+zg p (i:Int).toNat) qf qf) (⟨H.pick (zR 3 7) (zR 10 11),?_⟩))
    have S:=H.jr (zR 3 7) (zR 10 11)
    refine rt 13 _ (y_add (((zV305[zV280.length]!).vJ)[(p.qA+p.qB.length+1+zg p (i:Int).toNat:Int).toNat]!) 1 rfl rfl (by (first | omega | exact up1 (ra3 _) | exact up1 (ra4 _) | exact up1 (ra5 _)))) S ?_
    refine tI 14 rfl rfl rfl S ?_
    refine xA qh ((meet ⟨_,zV305,rx303,b312,o313,ce307Have,bs300,rc302,Fe307Have,rF304,uE13,eL306,(hx308 3 _ rfl),(N.vW 5 [0] qo),H.vW 10 21 [0,1,2,3,4,6,7,8,9] [1,7,19,20] qo qo⟩))
   refine oq (wait_ok _ p i (H.get 14 rfl).1 ql qf) H fun w316 H=>⟨H.pick (zR 3 7) (zR 4 11),(ro 7 rfl ?_)⟩
   obtain ⟨ae318Need,ce318Need,Fe318Need,ae318Have,ce318Have,Fe318Have,ae318Lack,ce318Lack,Fe318Lack,ae318Here,ce318Here,Fe318Here,ae318Out,ce318Out,Fe318Out,ae318Into,ce318Into,Fe318Into,hx319,H⟩:=H.part_RuleD Xg.refl 1 rfl 1 rfl rfl zV280.length qf
   refine zK (Sv ae318Have (((zV305[zV280.length]!).vJ).length) ce318Have) isAgg27 rfl (H.deepGet 1 rfl (hx319 3 _ rfl) qf) (⟨H.pick (zR 3 7) (zR 10 11),?_⟩)
   obtain ⟨b320,o321,rfl⟩:=H.addr 1 rfl qf
   refine tI 11 rfl rfl rfl (H.pick (zR 3 7) (zR 10 11)) ?_
   refine ro 12 rfl (zK (yI (((zV305[zV280.length]!).vJ)[(p.qA+p.qB.length+1+zg p (i:Int).toNat:Int).toNat]!)) isAgg2 rfl (H.XX 1 rfl (p.qA+p.qB.length+1+zg p (i:Int).toNat) qf qf) (⟨H.pick (zR 3 7) (zR 10 11),?_⟩))
   have S:=H.jr (zR 3 7) (zR 10 11)
   refine rt 13 _ (y_add (((zV305[zV280.length]!).vJ)[(p.qA+p.qB.length+1+zg p (i:Int).toNat:Int).toNat]!) 1 rfl rfl (by (first | omega | exact up1 (ra3 _) | exact up1 (ra4 _) | exact up1 (ra5 _)))) S ?_
   refine tI 14 rfl rfl rfl S ?_
   refine xA qh ((meet ⟨_,zV305,rx303,b320,o321,ce318Have,bs300,rc302,Fe318Have,rF304,uE13,eL306,(hx319 3 _ rfl),(N.vW 5 [0] qo),H.vW 10 21 [0,1,2,3,4,6,7,8,9] [1,7,19,20] qo qo⟩))
  clear H N
  rintro ρ w323 ⟨xQ,zV282,rx283,b284,o285,c286,bs287,rc288,F289,rF290,rfl,hx324,hx325,N,H⟩
  try clear ra1 ra2 ra6 ra3 ra4 ra5
  obtain ⟨ra0,ra1,ra2,ra6,ra3,ra4,ra5⟩:=QL hx324
  have N0:Fresh W0.heap.size (rF290::Ns):=N
  obtain ⟨zV328,eL329⟩:∃ z,z=(zV282.set zV280.length { zV282[zV280.length]! with vJ:=(((zV282[zV280.length]!).vJ).set ((p.qA+p.qB.length+1+zg p (i:Int).toNat:Int).toNat) ((((zV282[zV280.length]!).vJ)[(p.qA+p.qB.length+1+zg p (i:Int).toNat:Int).toNat]!)+1))}):=⟨_,rfl⟩
  refine o_pokeInt part_Rule_Have H 1 rfl N0 ((sF false FO (aa b11 o12) cO p.qB)::Γ) (Xj (kept 3 rfl (old_away OL 0 rfl N0)) (keeps_old 4 rfl OL 1 rfl N0)) zV280.length qf rfl hx325 ((p.qA+p.qB.length+1+zg p (i:Int).toNat:Int).toNat) qf sizeOf2 rfl qf rfl eL329 fun w326 F327 N H=>?_
  replace eL329:zV328=(zV280++[zM (qQ p mode).toNat 0 ([(p.qB[i]!).zn]) [(p.qA+p.qB.length+1+zg p (i:Int).toNat:Int)] [] [((qQ p mode) - 1)]]):=pokeE_have hx324 eL329
  have rl330:=last_len eL329
  refine b_n (b_n (t_n (xK (sw (zi i 1 rfl rfl (by (first | omega | exact up1 (ra3 _) | exact up1 (ra4 _) | exact up1 (ra5 _))) (sq 1 (xP (qW (m' :=(p.qB.length - ((i+1):Int)).toNat) qf ⟨_,i+1,_,_,_,_,_,_,_,_,_,_,uE7,?_,?_,?_,rfl,N,H.vW 9 2 [7,1,0,8] [0,1] qo qo⟩))))))))
  ·subst eL329;subst hx324;subst eL281;subst eL260;subst eL243;first | exact QD qf qf | exact QU qf qf | exact QT qf qf | exact QB qf qf | exact QC qf qf | exact QA qf qf qf
  ·exact firsts_succ p mode i
  ·omega
 refine zx4 (zcc (sq 1 (sp (Bv ((mode:Int) == 3)) (zjn (cE rfl (fun h331=>?_) (fun h331=>?_))))))
 ·refine xK (sq 3 (sw (xx H underlying27 ti2 [yI ((qQ p mode) - 1)] fun b332 w333 H=>?_)))
  replace H:=H.vI 0 [(qQ p mode) - 1] 1
  try dsimp only [List.set] at H
  obtain ⟨G334,N,hn335,H⟩:=H.zh 0 rfl N (fun F hF b hb=>(List.mem_append.1 (show F∈[jB]++Ns from hF)).elim (fun h=>(H.vz (L:=[jB]) [0]) F h b hb) fun h=>H.XM (K0.behind 2 rfl) F h b hb)
  try dsimp only [List.set] at H
  replace H:=H.ja 0 rfl
  have hn336:=H.isLen 0 rfl
  have H1:St W0 w333 ((.box b6 [yI (qQ p mode),Sv yK jH yH,Sv a_b_first zD c_b_first] 111)::(.row (Sv yK jH yH) 120 9 jH yR)::(.row yN 0 1 0 [])::(.row (Sv a_b_first zD c_b_first) 2 1 zD ((Qh p mode i).map (Value.int .i64)))::(.box b1 [yI p.qA,Sv aO p.qB.length cO] 26)::ps) ((isF false G334 (Sv (aa b332 0) ([(qQ p mode) - 1].length) 1) [(qQ p mode) - 1])::(xN true jB yR (xk p mode i))::(isF false G334 (Sv (aa b332 0) 1 1) [(qQ p mode) - 1])::(isF true G334 (Sv (aa b332 0) 1 1) [(qQ p mode) - 1])::(isF false FO (Sv aO p.qB.length cO) p.qB)::Γ):=by (try rw [← hn336]);exact H.vW 5 4 [3,2,0,1,4] [0,2,0,1,3] qo qo
  have N1:Fresh _ (jB::G334::Ns):=(N.vW 2 [1,0] qo)
  have K1:Kept (Ns) ((isF false G334 (Sv (aa b332 0) 1 1) [(qQ p mode) - 1])::(isF true G334 (Sv (aa b332 0) 1 1) [(qQ p mode) - 1])::(sF false FO aO cO p.qB)::Γ):=K0.behind 3 rfl
  replace K1:=K1.cons (F:=G334) 0 rfl rfl
  refine sw (jg #[pp b6 0,yI ((qQ p mode) - 1),Sv (aa b332 0) 1 1] rfl rfl call118 (jo (by first | rfl | rw [hn336]) (bRule_ok (qQ p mode) (xk p mode i) b6 yK jH yH yR jB a_b_first zD c_b_first ((qQ p mode) - 1) [(qQ p mode) - 1] (aa b332 0) 1 G334 H1 N1 K1 qf (by first | exact vZ.nil _ | exact vZ.one qf | exact vZ.two qf qf) qf (by first | omega | (simp only [List.length_append,List.length_cons,List.length_nil];omega)))) ?_)
  clear H H1 N1 K1
  rintro _ w337 ⟨bs339,rn340,rc341,rx342,rF343,rfl,N,H⟩
  obtain rfl:=H.xB (α:=zZ) 1 rfl 1 rfl qj
  obtain ⟨zV344,eL345⟩:∃ z,z=((xk p mode i)++[zM (qQ p mode).toNat 0 [(qQ p mode) - 1] [] [] [((qQ p mode) - 1)]]):=⟨_,rfl⟩
  rw [← eL345] at H
  try clear ra1 ra2 ra6 ra3 ra4 ra5
  obtain ⟨ra0,ra1,ra2,ra6,ra3,ra4,ra5⟩:=QL eL345
  refine zjc (sq 2 (zjr (ret1 (pp b6 0) rfl rfl ⟨_,rfl,?_⟩)))
  obtain rfl:i=p.qB.length:=by omega
  rw [show jO p mode=zV344 from by rw [eL345];exact (prules_trap ql).symm]
  exact ⟨b6,(aa bs339 0),zV344.length,rc341,rx342,rF343,a_b_first,zD,c_b_first,rfl,(N.vW 2 [0] qo),H.vW 5 5 [0,1,3] [4,1] qo qo⟩
 refine qU (t_n (zcr (sq 2 (zjr (ret1 (pp b6 0) rfl rfl ⟨_,rfl,?_⟩)))))
 obtain rfl:i=p.qB.length:=by omega
 rw [prules_else ql] at H
 exact ⟨b6,yK,jH,yH,yR,jB,a_b_first,zD,c_b_first,rfl,N,H.vW 4 2 [2,1,0] [1,0] qo qo⟩
theorem system_ok (w:World) (p:zF) (mode:Int) (hpOrders:zP w FpOrders apOrders cpOrders p.qB) (p0:yw p) (q0:PMode mode):Calls Tryz.prog 43 #[.agg #[yI p.qA,Sv apOrders p.qB.length cpOrders],yI mode] w (Ret (fun v w' =>∃ (raParents:yOA) (rnParents:Nat) (rcParents:Nat) (raRules:yOA) (rnRules:Nat) (rcRules:Nat) (rxRules:List Value) (rFRules:yLN),v=.agg #[yI ((zC p mode).xO),Sv raParents rnParents rcParents,Sv raRules rnRules rcRules]/\Fresh w.heap.size [rFRules]/\St w w' [rr raParents rnParents rcParents 2 1 (((zC p mode).qC).map (Value.int .i64)),rr raRules rnRules rcRules 120 9 rxRules] [xN true rFRules rxRules ((zC p mode).qE)]) w):=by
 refine en func43 ntmps43 ?_
 have H:=(St.start w).arg hpOrders
 have nhpOrders:=qO hpOrders
 clear hpOrders
 have N:=Fresh.nil w.heap.size
 have A:=H.ltN (L:=[FpOrders]) [0]
 have p1:=p0.1
 have p2:=p0.2.1
 have kg:=Qg p mode
 have kl:=yF p0 mode
 refine zcr (sw (zY H [yI p.qA,Sv apOrders p.qB.length cpOrders] fun b1 w2 H=>sw (xH H ti37 [yI 0,yN,yN] fun b3 w4 H=>zjc (sw (x8 [yI p.qA,Sv apOrders p.qB.length cpOrders] isAgg26 sizeOf26 rfl (qF (H.cells 1 rfl) 0 2) (sq 1 ?_))))))
 have H1:St w w4 [.box b3 [yI 0,yN,yN] 37,.box b1 [yI p.qA,Sv apOrders p.qB.length cpOrders] 26] [sF false FpOrders apOrders cpOrders p.qB]:=H.pick [0,1] [0]
 have N1:Fresh _ []:=N
 have K1:Kept [] []:=Kept.nil _
 refine sw (jg #[.agg #[yI p.qA,Sv apOrders p.qB.length cpOrders],yI mode] rfl rfl call68 (build_ok p apOrders cpOrders FpOrders mode H1 N1 K1 ql ql (olds_one (A _ (List.mem_of_getElem? (i:=0) rfl)) olds_none)) ?_)
 clear H H1 N1 K1
 rintro _ w5 ⟨bk7,ra8,rn9,rc10,rx11,rF12,ra13,rn14,rc15,rfl,N,H⟩
 obtain rfl:=H.xB (α:=zZ) 1 rfl 1 rfl qj
 obtain rfl:=H.yt 2 rfl
 refine sq 1 (zjn (xU (c_lateK rfl H [0,1,2,3,4] [0,1] fun H=>?_)))
 dsimp only [Xw]
 refine rtl 0 H ?_
 refine rtl 1 H ?_
 refine tF 2 rfl rfl H ?_
 refine tL 3 rfl rfl (fun _ h=>h.cell 0 rfl rfl) H ?_
 refine rtl 5 H ?_
 refine rtl 6 H ?_
 refine tF 7 rfl rfl H ?_
 refine tL 8 rfl rfl (fun _ h=>h.cell 0 rfl rfl) H ?_
 refine ro 4 rfl (xx H underlying27 ti2 [yI (-1)] fun b17 w18 H=>⟨H.pick (zR 1 5) [0,1],(ro 9 rfl (vG [yI (qQ p mode),Sv (aa b17 0) 1 1,Sv ra8 ((jO p mode).length) rc10] [(0,yI (qQ p mode)),(1,Sv (aa b17 0) 1 1),(2,Sv ra8 ((jO p mode).length) rc10)] (⟨H.pick (zR 1 5) [0,1],(xA qh (late_end (xY H 4 [yI (qQ p mode),Sv (aa b17 0) 1 1,Sv ra8 ((jO p mode).length) rc10] sizeOf37 fun w19 H=>t_n (c_ret ?_))))⟩)))⟩)
 replace H:=H.vI 0 [(-1)] 1
 refine retC H 4 rfl rfl isAgg37 sizeOf37 rfl ⟨_,rfl,(⟨(aa b17 0),1,1,ra8,(jO p mode).length,rc10,rx11,rF12,rfl,N,H.pick [0,2] [1]⟩),H.base⟩
theorem state_ok (w:World) (p:zF) (mode:Int) (c:vS) {acRegs:yOA} {ccRegs:Nat} {FcRegs:yLN} (hpOrders:zP w FpOrders apOrders cpOrders p.qB) (hcRegs:zP w FcRegs acRegs ccRegs c.XW) (p0:yw p) (q0:vk p.qA c.XW) (q1:0<=c.fAt/\c.fAt<=(p.qB.length:Int)):Calls Tryz.prog 44 #[.agg #[yI p.qA,Sv apOrders p.qB.length cpOrders],yI mode,.agg #[yI c.fAt,Sv acRegs c.XW.length ccRegs]] w (Ret (fun v w' =>∃ (raAlive:yOA) (rnAlive:Nat) (rcAlive:Nat) (raBags:yOA) (rnBags:Nat) (rcBags:Nat) (rxBags:List Value) (rFBags:yLN) (raAround:yOA) (rnAround:Nat) (rcAround:Nat),v=.agg #[Sv raAlive rnAlive rcAlive,Sv raBags rnBags rcBags,Sv raAround rnAround rcAround]/\Fresh w.heap.size [rFBags]/\St w w' [rr raAlive rnAlive rcAlive 4 1 (((zq p mode c).qI).map (Value.bool)),rr raBags rnBags rcBags 27 1 rxBags,rr raAround rnAround rcAround 2 1 (((zq p mode c).qN).map (Value.int .i64))] [xN true rFBags rxBags ((zq p mode c).qP)]) w):=by
 refine en func44 ntmps44 ?_
 have H:=((St.start w).arg hcRegs).arg hpOrders
 have nhpOrders:=qO hpOrders
 have nhcRegs:=qO hcRegs
 clear hpOrders hcRegs
 have N:=Fresh.nil w.heap.size
 have p1:=p0.1
 have p2:=p0.2.1
 have kg:=Qg p mode
 have kl:=yF p0 mode
 have q2:=q0.2
 have q3:=stP_len (p:=p) (mode:=mode) (l:=c.XW) qf
 refine zcr (sw (zY H [yI p.qA,Sv apOrders p.qB.length cpOrders] fun b1 w2 H=>sw (zY H [yI c.fAt,Sv acRegs c.XW.length ccRegs] fun b3 w4 H=>sw (xH H ti43 [yN,yN,yN] fun b5 w6 H=>zjc (sw (x8 [yI p.qA,Sv apOrders p.qB.length cpOrders] isAgg26 sizeOf26 rfl (qF (H.cells 2 rfl) 0 2) (sq 1 (sw (oq (kinds_ok _ p mode (H.get 0 rfl).1 ql) H fun w8 H=>sw (Qr H underlying27 ti2 ((qQ p mode).toNat) rfl rfl qf qf qf fun b10 w11 H=>?_))))))))))
 refine sq 1 (zjc (sq 1 (oF rfl (oL rfl (H.cell 2 rfl rfl) (sw (o_copyI H 0 rfl 1 rfl underlying27 ti2 rfl rfl qf fun w12 H=>zjc (sq 1 (sw (x8 [yI p.qA,Sv apOrders p.qB.length cpOrders] isAgg26 sizeOf26 rfl (qF (H.cells 3 rfl) 0 2) (oF rfl (oL rfl (H.cell 2 rfl rfl) ?_)))))))))))
 refine sw (oq (Xn _ p c.fAt (H.get 0 rfl).1 qf qf) H fun w14 H=>oI rfl rfl (sw (XB H 0 rfl 1 sizeOf2 rfl rfl (i:=((p.qA+c.fAt).toNat)) qf qf fun w16 H=>zjc (sw (xx H underlying40 ti4 [Bv true] fun b17 w18 H=>sq 1 (sw (xx H underlying41 ti27 [Sv (aa b10 0) ((qQ p mode).toNat) ((qQ p mode).toNat)] fun b19 w20 H=>sq 1 (oN rfl ?_))))))))
 refine sw (Qr H underlying27 ti2 ((qQ p mode).toNat) rfl rfl qf qf qf fun b21 w22 H=>sw (vG [Sv (aa b17 0) 1 1,Sv (aa b19 0) 1 1,Sv (aa b21 0) ((qQ p mode).toNat) ((qQ p mode).toNat)] [(0,Sv (aa b17 0) 1 1),(1,Sv (aa b19 0) 1 1),(2,Sv (aa b21 0) ((qQ p mode).toNat) ((qQ p mode).toNat))] (sw (xY H 4 [Sv (aa b17 0) 1 1,Sv (aa b19 0) 1 1,Sv (aa b21 0) ((qQ p mode).toNat) ((qQ p mode).toNat)] sizeOf43 fun w23 H=>zjr ?_))))
 replace H:=H.boxRowB 2 [true] 1
 replace H:=H.boxRow 1 rfl 1 1 rfl qj
 replace H:=H.vV (α:=yLI)
 obtain ⟨G24,N,hn25,H⟩:=H.zh 3 rfl N (H.vz [])
 replace H:=H.Xl true 0 rfl 1 rfl qm
 replace N:Fresh w.heap.size [(G24++[])]:=(N.emp.pick [1,0]).join
 refine retC H 4 rfl rfl isAgg43 sizeOf43 rfl ⟨_,rfl,?_,H.base⟩
 rw [stP_eq]
 exact ⟨(aa b17 0),1,1,(aa b19 0),1,1,[Sv (aa b10 0) ((qQ p mode).toNat) ((qQ p mode).toNat)],(G24++[]),(aa b21 0),(qQ p mode).toNat,(qQ p mode).toNat,rfl,N,H.pick [2,1,0] [0]⟩
theorem l00Max_ok (w:World) (a:Int) (b:Int):Calls Tryz.prog 218 #[yI a,yI b] w (Ret (fun v w' =>v=yI (max a b)) w):=by
 refine en func218 ntmps218 ?_
 have H:=St.start w
 have N:=Fresh.nil w.heap.size
 refine zcr (sp (yI 0) (zjcc (sp (yI a) (sp (yI b) (sq 1 (zjn (cD rfl (fun h1=>?_) (fun h1=>?_))))))))
 ·refine zcr (sp (yI a) (sp (yI a) (zjr (t_r (rH1 (yI a) H (congrArg (Value.int .i64) ?_))))))
  omega
 refine qU (t_n (zcr (sp (yI b) (sp (yI b) (zjr (rH1 (yI b) H (congrArg (Value.int .i64) ?_)))))))
 omega
theorem l01Within_ok (w:World) (l:yLI) (m:yLI) (hl:zP w Fl al cl l) (hm:zP w Fm am cm m) (p0:l.length<=m.length):Calls Tryz.prog 237 #[Sv al l.length cl,Sv am m.length cm] w (Ret (fun v w' =>v=Bv (within l m)) w):=by
 refine en func237 ntmps237 ?_
 have H:=((St.start w).arg hm).arg hl
 have nhl:=qO hl
 have nhm:=qO hm
 clear hl hm
 have N:=Fresh.nil w.heap.size
 refine zcr (sp (Bv false) (zjcc (sp (yI 0) (zjn (qV ?_)))))
 refine zA ((fun Z0 Z1=>fun m' ρ w1=>∃ (xQ:Env) (i:Nat),ρ=upd (upd (upd xQ 0 (Sv al l.length cl)) 1 (Sv am m.length cm)) 5 (yI i)/\((i:Int)<=l.length)/\(withinTo l m i)/\m' =(l.length - (i:Int)).toNat/\Fresh w.heap.size []/\St w w1 [] [Z0,Z1]) _ _) ((l.length - (0:Int)).toNat) ⟨_,0,uE3,qf,(by exact withinTo_zero l m),rfl,N,H⟩ ?_
 clear H N
 rintro m' ρ w2 ⟨xQ,i,rfl,i0,i1,rfl,N,H⟩
 refine zcc (sp (yI i) (sq 1 (oN rfl (sq 1 (zjn (cD rfl (fun h3=>?_) (fun h3=>?_)))))))
 ·refine qU (t_n (xU (qV (xU ?_))))
  refine jw rfl H fun H=>rtl 0 H ?_
  refine rtp 1 (yI i) H ?_
  obtain ⟨b5,o6,rfl⟩:=H.addr 0 rfl qf
  refine tI 2 rfl rfl rfl H ?_
  refine tL 3 rfl rfl (fun _ h=>h.zB 0 rfl i qf) H ?_
  refine rtl 4 H ?_
  refine rtp 5 (yI i) H ?_
  obtain ⟨b8,o9,rfl⟩:=H.addr 1 rfl qf
  refine tI 6 rfl rfl rfl H ?_
  refine tL 7 rfl rfl (fun _ h=>h.zB 1 rfl i qf) H ?_
  refine rtl 8 H ?_
  refine xA qh (t_n (cD rfl (fun h11=>?_) (fun h11=>?_)))
  ·refine zcr (sp (Bv false) (zjr (zr5 (rH1 (Bv false) H ?_))))
   rw [within_no (k:=i) ‹_› qf]
  refine qU (b_n (t_n (xK (sp (yI i) (sw (zi i 1 rfl rfl qf (sq 1 (xP (qW (m' :=(l.length - ((i+1):Int)).toNat) qf ⟨_,i+1,uE3,?_,?_,rfl,N,H⟩)))))))))
  ·omega
  ·exact withinTo_succ ‹_› qf
 refine zx4 (zcr (sp (Bv true) (zjr (rH1 (Bv true) H ?_))))
 rw [within_yes ‹_› qf]
theorem l01Times_ok (w:World) (l:yLI) (m:yLI) (hl:zP w Fl al cl l) (hm:zP w Fm am cm m) (p0:l.length<=m.length) (p2:∀ k,k < l.length->0<=m[k]! /\m[k]! <=1000) (p3:∃ j,j < l.length/\0 < l[j]!):Calls Tryz.prog 260 #[Sv al l.length cl,Sv am m.length cm] w (Ret (fun v w' =>v=yI (jF l m)) w):=by
 refine en func260 ntmps260 ?_
 have H:=((St.start w).arg hm).arg hl
 have nhl:=qO hl
 have nhm:=qO hm
 clear hl hm
 have N:=Fresh.nil w.heap.size
 refine zcr (sp (yI 0) (zjc (sq 1 (zjcc (sp (yI 0) (zjn (qV ?_)))))))
 refine zA ((fun Z0 Z1=>fun m' ρ w1=>∃ (xQ:Env) (best:Int) (i:Nat),ρ=upd (upd (upd (upd xQ 0 (Sv al l.length cl)) 1 (Sv am m.length cm)) 5 (yI best)) 6 (yI i)/\((i:Int)<=l.length)/\(QS l m i best)/\m' =(l.length - (i:Int)).toNat/\Fresh w.heap.size []/\St w w1 [] [Z0,Z1]) _ _) ((l.length - (0:Int)).toNat) ⟨_,(-1),0,uE4,qf,(by exact QS.zero l m),rfl,N,H⟩ ?_
 clear H N
 rintro m' ρ w2 ⟨xQ,best,i,rfl,i0,i1,rfl,N,H⟩
 refine zcc (sp (yI i) (sq 1 (oN rfl (sq 1 (zjn (cD rfl (fun h3=>?_) (fun h3=>?_)))))))
 ·refine qU (t_n (xU (qV (xU ?_))))
  refine jw rfl H fun H=>rtl 0 H ?_
  refine rtp 1 (yI i) H ?_
  obtain ⟨b5,o6,rfl⟩:=H.addr 0 rfl qf
  refine tI 2 rfl rfl rfl H ?_
  refine tL 3 rfl rfl (fun _ h=>h.zB 0 rfl i qf) H ?_
  refine rtp 4 (Bv (decide ((l[i]! :Int) > 0))) H ?_
  refine rtp 5 (Bv (decide ((l[i]! :Int) > 0))) H ?_
  cases h8:(decide ((l[i]! :Int) > 0))
  ·replace h8:=of_decide_eq_false h8
   refine zS (zR 6 15) 15 (H) (rtp 21 (Bv false) H ?_)
   refine xA qh (t_n (cFr rfl (qU (b_n (t_n (xK (sp (yI i) (sw (zi i 1 rfl rfl (by (have:=p2 i qf;omega)) (sq 1 (xP (qW (m' :=(l.length - ((i+1):Int)).toNat) qf ⟨_,_,i+1,uE4,?_,?_,rfl,N,H⟩))))))))))))
   ·omega
   ·first | exact i1.take (p2 i qf) qf qf (timesTo_bd (fun k hk=>(p2 k hk).1) i qf).1 | exact i1.keep qf | exact i1.keep2 qf qf qf
  replace h8:=of_decide_eq_true h8
  refine rgl 6 18 H ?_
  refine rgp 7 (Bv (decide ((best:Int) < 0))) 18 H ?_
  refine rgp 8 (Bv (decide ((best:Int) < 0))) 18 H ?_
  cases h9:(decide ((best:Int) < 0))
  ·replace h9:=of_decide_eq_false h9
   refine rgl 9 21 H ?_
   refine rgp 10 (yI i) 21 H ?_
   obtain ⟨b10,o11,rfl⟩:=H.addr 1 rfl qf
   refine gI 11 rfl rfl rfl H ?_
   refine gL 12 rfl rfl (fun _ h=>h.zB 1 rfl i qf) H ?_
   refine rgl 13 21 H ?_
   refine rgp 14 (yI i) 21 H ?_
   refine gI 15 rfl rfl rfl H ?_
   refine gL 16 rfl rfl (fun _ h=>h.zB 0 rfl i qf) H ?_
   refine rg 17 _ 21 (y_quo (m[i]!) (l[i]!) rfl rfl (by (have:=p2 i qf;omega)) (by (have:=p2 i qf;omega))) H ?_
   refine rgl 18 21 H ?_
   refine rgl 19 21 H ?_
   refine rgl 20 18 H ?_
   refine rtl 21 H ?_
   refine xA qh (t_n (cD rfl (fun h13=>?_) (fun h13=>?_)))
   ·refine jw rfl H fun H=>rtl 0 H ?_
    refine rtp 1 (yI i) H ?_
    refine tI 2 rfl rfl rfl H ?_
    refine tL 3 rfl rfl (fun _ h=>h.zB 1 rfl i qf) H ?_
    refine rtl 4 H ?_
    refine rtp 5 (yI i) H ?_
    refine tI 6 rfl rfl rfl H ?_
    refine tL 7 rfl rfl (fun _ h=>h.zB 0 rfl i qf) H ?_
    refine rt 8 _ (y_quo (m[i]!) (l[i]!) rfl rfl (by (have:=p2 i qf;omega)) (by (have:=p2 i qf;omega))) H ?_
    refine rtl 9 H ?_
    refine xA qh (b_n (t_n (xK (sp (yI i) (sw (zi i 1 rfl rfl (by (have:=p2 i qf;omega)) (sq 1 (xP (qW (m' :=(l.length - ((i+1):Int)).toNat) qf ⟨_,_,i+1,uE4,?_,?_,rfl,N,H⟩)))))))))
    ·omega
    ·first | exact i1.take (p2 i qf) qf qf (timesTo_bd (fun k hk=>(p2 k hk).1) i qf).1 | exact i1.keep qf | exact i1.keep2 qf qf qf
   refine qU (b_n (t_n (xK (sp (yI i) (sw (zi i 1 rfl rfl (by (have:=p2 i qf;omega)) (sq 1 (xP (qW (m' :=(l.length - ((i+1):Int)).toNat) qf ⟨_,_,i+1,uE4,?_,?_,rfl,N,H⟩)))))))))
   ·omega
   ·first | exact i1.take (p2 i qf) qf qf (timesTo_bd (fun k hk=>(p2 k hk).1) i qf).1 | exact i1.keep qf | exact i1.keep2 qf qf qf
  replace h9:=of_decide_eq_true h9
  refine zS (zR 9 11) 11 (H) (rgp 20 (Bv true) 18 H ?_)
  refine rtp 21 (Bv true) H ?_
  refine xA qh (t_n (cTr rfl (?_)))
  refine jw rfl H fun H=>rtl 0 H ?_
  refine rtp 1 (yI i) H ?_
  obtain ⟨b16,o17,rfl⟩:=H.addr 1 rfl qf
  refine tI 2 rfl rfl rfl H ?_
  refine tL 3 rfl rfl (fun _ h=>h.zB 1 rfl i qf) H ?_
  refine rtl 4 H ?_
  refine rtp 5 (yI i) H ?_
  refine tI 6 rfl rfl rfl H ?_
  refine tL 7 rfl rfl (fun _ h=>h.zB 0 rfl i qf) H ?_
  refine rt 8 _ (y_quo (m[i]!) (l[i]!) rfl rfl (by (have:=p2 i qf;omega)) (by (have:=p2 i qf;omega))) H ?_
  refine rtl 9 H ?_
  refine xA qh (b_n (t_n (xK (sp (yI i) (sw (zi i 1 rfl rfl (by (have:=p2 i qf;omega)) (sq 1 (xP (qW (m' :=(l.length - ((i+1):Int)).toNat) qf ⟨_,_,i+1,uE4,?_,?_,rfl,N,H⟩)))))))))
  ·omega
  ·first | exact i1.take (p2 i qf) qf qf (timesTo_bd (fun k hk=>(p2 k hk).1) i qf).1 | exact i1.keep qf | exact i1.keep2 qf qf qf
 refine zx4 (zcr (sq 2 (zjr (rH1 (yI best) H ?_))))
 obtain rfl:i=l.length:=by omega
 rw [i1.done p3];rfl
theorem l03Both_ok (w:World) (s:qG) (t:qH) (hs:vg w bs os (yS s qM qL xg qX)) (xf:zP w xF qM qL s.qC) (xE:zP w zu xg qX s.qE) (ht:vg w bt ot (yT t xq xn xX xM xe qZ)) (zk:zP w zQ xq xn t.qI) (zO:zP w vK xX xM t.qP) (xJ:zP w zo xe qZ t.qN):Calls Tryz.prog 150 #[pp bs os,pp bt ot] w (Ret (fun v w' =>v=Bv (dec (yj s/\zV s t))) w):=by
 refine en func150 ntmps150 ?_
 have H:=(((((((St.start w).arg xJ).arg zO).arg zk).Q7 ht).arg xE).arg xf).Q7 hs
 have vH:=qO xf
 have jD:=qO xE
 have yL:=qO zk
 have Qv:=qO zO
 have jQ:=qO xJ
 clear hs xf xE ht zk zO xJ
 have N:=Fresh.nil w.heap.size
 refine zcr (sp (Bv false) (zjc (sq 1 (sw (oq (l02Ok_ok _ s (qF (H.get 0 rfl) 0 3) (H.get 1 rfl).1 (H.get 2 rfl).1) H fun w1 H=>sp (Bv (dec (yj s))) ?_)))))
 cases h3:(dec (yj s))
 ·replace h3:=zX h3
  refine xR [8,9,10] (sp (Bv false) (sp (Bv false) (zjr (rH1 (Bv false) H ?_))))
  rw [xh (fun h=>‹¬ yj s› h.1)]
 replace h3:=yU h3
 refine qJ 7 rfl rfl (sq 1 (qJ 7 rfl rfl (sq 1 (qJ 7 rfl rfl (sw (oq (l02State_ok _ s t (qF (H.get 0 rfl) 0 3) (H.get 1 rfl).1 (H.get 2 rfl).1 (qF (H.get 3 rfl) 0 3) (H.get 4 rfl).1 (H.get 5 rfl).1 (H.get 6 rfl).1 (by first | assumption | exact (And.left (by assumption:yj _)))) H fun w4 H=>sq 2 (zjr (rH1 (Bv (dec (zV s t))) H (congrArg Value.bool (dec_eq ?_))))))))))
 first | exact ⟨fun h=>⟨‹_›,yU h⟩,fun h=>jS h.2⟩ | (simp_all;done)
theorem l03Enabled_ok (w:World) (s:qG) (t:qH) (r:zZ) {br or:Nat} {arNeed:yOA} {crNeed:Nat} {FrNeed:yLN} {arHave:yOA} {crHave:Nat} {FrHave:yLN} {arLack:yOA} {crLack:Nat} {FrLack:yLN} {arHere:yOA} {crHere:Nat} {FrHere:yLN} {arOut:yOA} {crOut:Nat} {FrOut:yLN} {XN:yOA} {XK:Nat} {FrInto:yLN} (hs:vg w bs os (yS s qM qL xg qX)) (xf:zP w xF qM qL s.qC) (xE:zP w zu xg qX s.qE) (ht:vg w bt ot (yT t xq xn xX xM xe qZ)) (zk:zP w zQ xq xn t.qI) (zO:zP w vK xX xM t.qP) (xJ:zP w zo xe qZ t.qN) (hr:vg w br or [yI r.qR,yI r.jR,Sv arNeed r.vF.length crNeed,Sv arHave r.vJ.length crHave,Sv arLack r.vY.length crLack,Sv arHere r.vw.length crHere,Sv arOut r.QI.length crOut,Sv XN r.xw.length XK,Bv r.jV]) (hrNeed:zP w FrNeed arNeed crNeed r.vF) (hrHave:zP w FrHave arHave crHave r.vJ) (hrLack:zP w FrLack arLack crLack r.vY) (hrHere:zP w FrHere arHere crHere r.vw) (hrOut:zP w FrOut arOut crOut r.QI) (hrInto:zP w FrInto XN XK r.xw) (p0:yj s) (p1:zV s t) (p2:RuleOk s r):Calls Tryz.prog 217 #[pp bs os,pp bt ot,pp br or] w (Ret (fun v w' =>v=Bv (dec (EnOk s t r))) w):=by
 refine en func217 ntmps217 ?_
 have H:=((((((((((((((St.start w).arg hrInto).arg hrOut).arg hrHere).arg hrLack).arg hrHave).arg hrNeed).Q7 hr).arg xJ).arg zO).arg zk).Q7 ht).arg xE).arg xf).Q7 hs
 have vH:=qO xf
 have jD:=qO xE
 have yL:=qO zk
 have Qv:=qO zO
 have jQ:=qO xJ
 have nhrNeed:=qO hrNeed
 have nhrHave:=qO hrHave
 have nhrLack:=qO hrLack
 have nhrHere:=qO hrHere
 have nhrOut:=qO hrOut
 have nhrInto:=qO hrInto
 clear hs xf xE ht zk zO xJ hr hrNeed hrHave hrLack hrHere hrOut hrInto
 have N:=Fresh.nil w.heap.size
 have p3:=p2.1
 have p4:=p1.1
 have p5:=p1.2.1
 have p6:=(p1.bagLen (k:=r.qR.toNat) qf).len
 have p7:=p2.2.2.2.2.1.len
 have p8:=p2.2.2.2.2.2.1.len
 have p9:=p2.2.2.2.2.2.2.1.len
 have p10:=vP p2.2.2.2.2.2.2.1
 have p11:=p0.1
 have p12:=p2.2.2.2.2.2.2.2.2.2.2
 refine zcr (sp (Bv false) (zjn (xU (xU ?_))))
 refine jw rfl H fun H=>rtl 0 H ?_
 refine rtl 1 H ?_
 refine tF 2 rfl rfl H ?_
 refine tL 3 rfl rfl (fun _ h=>h.xW 3 rfl 0 rfl) H ?_
 refine rtl 4 H ?_
 refine rtl 5 H ?_
 refine tF 6 rfl rfl H ?_
 refine tL 7 rfl rfl (fun _ h=>h.xW 7 rfl 0 rfl) H ?_
 obtain ⟨b2,o3,rfl⟩:=H.addr 4 rfl qf
 refine tI 8 rfl rfl rfl H ?_
 refine tL 9 rfl rfl (fun _ h=>h.elemBool 4 rfl r.qR qf qf) H ?_
 refine rtl 10 H ?_
 refine xA qh (t_n (zT _ rfl (fun h5=>?_) (fun h5=>?_)))
 ·replace h5:=xm h5
  refine zcr (sp (Bv false) (zjr (t_r (rH1 (Bv false) H ?_))))
  rw [xh (fun h=>by obtain ⟨h1,h2,h3,h4,h5⟩:=h;first | exact ft h1 ‹_› | exact ft h2 ‹_› | exact ft h3 ‹_› | exact h4 ⟨‹_›,‹_›⟩ | (obtain ⟨q1,q2⟩:=h5 i qf;first | exact ft q1 ‹_› | exact absurd q2 ‹_›))]
 replace h5:=qY h5
 refine qU (t_n (xU ?_))
 refine jw rfl H fun H=>rtl 0 H ?_
 refine rtl 1 H ?_
 refine tF 2 rfl rfl H ?_
 refine tL 3 rfl rfl (fun _ h=>h.xW 3 rfl 1 rfl) H ?_
 refine rtl 4 H ?_
 refine rtl 5 H ?_
 refine tF 6 rfl rfl H ?_
 refine tL 7 rfl rfl (fun _ h=>h.xW 7 rfl 0 rfl) H ?_
 obtain ⟨b7,o8,rfl⟩:=H.addr 5 rfl qf
 obtain ⟨ae10,ce10,Fe10,H⟩:=H.ji 5 rfl r.qR r.qR.toNat qf qf qf
 refine tI 8 rfl rfl rfl (H.pick [] (zR 2 14)) ?_
 refine ro 9 rfl (zK (Sv ae10 ((t.qP[r.qR.toNat]!).length) ce10) isAgg27 rfl (H.xW 1 rfl 0 rfl) (⟨H.pick [] (zR 2 14),(rtl 10 (H.pick [] (zR 2 14)) ?_)⟩))
 refine xA qh (t_n (zcc (sq 2 (oF rfl (oL rfl (H.xW 9 rfl 2 rfl) (sq 1 (sw (oq (l01Within_ok _ r.vF (t.qP[r.qR.toNat]!) (H.get 10 rfl).1 (H.get 0 rfl).1 qg) H fun w12 H=>sp (Bv (!(within r.vF (t.qP[r.qR.toNat]!)))) (sp (Bv (!(within r.vF (t.qP[r.qR.toNat]!)))) ?_)))))))))
 cases h14:(!(within r.vF (t.qP[r.qR.toNat]!)))
 ·replace h14:=qY h14
  refine qJ 38 rfl rfl (sq 1 (qJ 38 rfl rfl (sq 1 (qJ 38 rfl rfl (oF rfl (qJ 38 rfl rfl (oL rfl (H.xW 9 rfl 3 rfl) (qJ 38 rfl rfl (sq 1 (qJ 38 rfl rfl (sw (oq (l01Within_ok _ r.vJ (t.qP[r.qR.toNat]!) (H.get 11 rfl).1 (H.get 0 rfl).1 qg) H fun w16 H=>qJ 38 rfl rfl (sp (Bv (!(within r.vJ (t.qP[r.qR.toNat]!)))) (sp (Bv (!(within r.vJ (t.qP[r.qR.toNat]!)))) (sp (Bv (!(within r.vJ (t.qP[r.qR.toNat]!)))) ?_)))))))))))))))
  cases h18:(!(within r.vJ (t.qP[r.qR.toNat]!)))
  ·replace h18:=qY h18
   refine qJ 47 rfl rfl (sq 1 (qJ 47 rfl rfl (sq 1 (qJ 47 rfl rfl (oF rfl (qJ 47 rfl rfl (oL rfl (H.xW 9 rfl 4 rfl) (qJ 47 rfl rfl (sw (oq (X4 _ r.vY (H.get 12 rfl).1 (by first | assumption | exact vP ql | exact yX ql)) H fun w19 H=>qJ 47 rfl rfl (sp (Bv (decide ((Xh r.vY:Int) > 0))) (qJ 47 rfl rfl (sp (Bv (decide ((Xh r.vY:Int) > 0))) ?_)))))))))))))
   cases h21:(decide ((Xh r.vY:Int) > 0))
   ·replace h21:=of_decide_eq_false h21
    refine xR (zR 55 6) (qJ 47 rfl rfl (sp (Bv false) (sp (Bv false) (zjn (cFr rfl (qU (t_n (zcc (sp (yI 0) (zjn (qV ?_)))))))))))
    refine zA ((fun Z0 Z1 Z2 Z3 Z4 Z5 Z6 Z7 Z8 Z9 Z10 Z11 Z12 Z13 Z14 Z15=>fun m' ρ w22=>∃ (xQ:Env) (i:Nat),ρ=upd (upd (upd (upd xQ 0 (pp bs os)) 1 (pp bt ot)) 2 (pp br or)) 8 (yI i)/\((i:Int)<=r.xw.length)/\(IntoUp s t r i)/\m' =(r.xw.length - (i:Int)).toNat/\Fresh w.heap.size []/\St w w22 [] [Z0,Z1,Z2,Z3,Z4,Z5,Z6,Z7,Z8,Z9,Z10,Z11,Z12,Z13,Z14,Z15]) _ _ _ _ _ _ _ _ _ _ _ _ _ _ _ _) ((r.xw.length - (0:Int)).toNat) ⟨_,0,uE4,qf,qx,rfl,N,H⟩ ?_
    clear H N
    rintro m' ρ w23 ⟨xQ,i,rfl,i0,i1,rfl,N,H⟩
    refine zcc (sp (yI i) (sq 2 (oF rfl (oL rfl (H.xW 9 rfl 7 rfl) (oN rfl (sq 1 (zjn (cD rfl (fun h24=>?_) (fun h24=>?_)))))))))
    ·have q:=(p12 i qf).1
     have q1:=q.1
     have q2:=q.2
     refine qU (t_n (xU (qV (zcr (sq 2 (oF rfl (oL rfl (H.xW 9 rfl 7 rfl) (sp (yI i) ?_))))))))
     obtain ⟨b25,o26,rfl⟩:=H.addr 15 rfl qf
     obtain ⟨ae28Bag,ce28Bag,Fe28Bag,H⟩:=H.yY 15 rfl i i qf qf qf
     refine oI rfl rfl (oF rfl (oL rfl (H.xW 1 rfl 0 rfl) (sq 1 (zjn (xU ?_)))))
     refine jw rfl H fun H=>rtl 0 H ?_
     refine rtl 1 H ?_
     refine tF 2 rfl rfl H ?_
     refine tL 3 rfl rfl (fun _ h=>h.xW 7 rfl 0 rfl) H ?_
     refine rtl 4 H ?_
     refine tI 5 rfl rfl rfl H ?_
     refine tL 6 rfl rfl (fun _ h=>h.elemBool 8 rfl ((r.xw[i]!).qR) qf qf) H ?_
     refine rtp 7 (Bv (!(t.qI[((r.xw[i]!).qR).toNat]!))) H ?_
     refine rtp 8 (Bv (!(t.qI[((r.xw[i]!).qR).toNat]!))) H ?_
     cases h30:(!(t.qI[((r.xw[i]!).qR).toNat]!))
     ·replace h30:=qY h30
      refine rgl 9 88 H ?_
      refine rgl 10 88 H ?_
      refine rgl 11 88 H ?_
      refine rgl 13 88 H ?_
      refine rgl 14 88 H ?_
      refine gF 15 rfl rfl H ?_
      refine gL 16 rfl rfl (fun _ h=>h.xW 11 rfl 0 rfl) H ?_
      refine jb [12] qh qm (XI rfl (e:=88) rfl rfl (oq (l02Parent_ok _ s t ((r.xw[i]!).qR) (qF (H.get 4 rfl) 0 3) (H.get 5 rfl).1 (H.get 6 rfl).1 (qF (H.get 7 rfl) 0 3) (H.get 8 rfl).1 (H.get 9 rfl).1 (H.get 10 rfl).1 ql ql ql) H fun w31 H=>⟨H,(rgl 17 88 H ?_)⟩) jd)
      refine rtl 18 H ?_
      refine xA qh (t_n (zT _ rfl (fun h33=>?_) (fun h33=>?_)))
      ·replace h33:=bne_iff_ne.1 h33
       refine zcr (sp (Bv false) (zjr (zr5 (rH1 (Bv false) H ?_))))
       rw [xh (fun h=>by obtain ⟨h1,h2,h3,h4,h5⟩:=h;first | exact ft h1 ‹_› | exact ft h2 ‹_› | exact ft h3 ‹_› | exact h4 ⟨‹_›,‹_›⟩ | (obtain ⟨q1,q2⟩:=h5 i qf;first | exact ft q1 ‹_› | exact absurd q2 ‹_›))]
      replace h33:=xu h33
      refine qU (b_n (t_n (xK (sp (yI i) (sw (zi i 1 rfl rfl qf (sq 1 (xP (qW (m' :=(r.xw.length - ((i+1):Int)).toNat) qf ⟨_,i+1,uE4,?_,?_,rfl,N,H.pick [] (zR 2 16)⟩)))))))))
      ·omega
      ·exact i1.succ ‹_› ‹_›
     replace h30:=xm h30
     refine zS (zR 9 9) 9 (H) (rtp 18 (Bv true) H ?_)
     refine xA qh (t_n (cTr rfl (zcr (sp (Bv false) (zjr (zr5 (rH1 (Bv false) H ?_)))))))
     rw [xh (fun h=>by obtain ⟨h1,h2,h3,h4,h5⟩:=h;first | exact ft h1 ‹_› | exact ft h2 ‹_› | exact ft h3 ‹_› | exact h4 ⟨‹_›,‹_›⟩ | (obtain ⟨q1,q2⟩:=h5 i qf;first | exact ft q1 ‹_› | exact absurd q2 ‹_›))]
    refine zx4 (zcr (sp (Bv true) (zjr (rH1 (Bv true) H ?_))))
    rw [jS ⟨by assumption,by assumption,by assumption,fun ⟨u,v⟩=>by first | omega | exact ft v ‹_›,(show i=r.xw.length by omega)▸i1⟩]
   replace h21:=of_decide_eq_true h21
   refine qJ 54 rfl rfl (sq 1 (qJ 54 rfl rfl (sq 1 (qJ 54 rfl rfl (oF rfl (qJ 54 rfl rfl (oL rfl (H.xW 9 rfl 4 rfl) (qJ 54 rfl rfl (sq 1 (qJ 54 rfl rfl (sw (oq (l01Within_ok _ r.vY (t.qP[r.qR.toNat]!) (H.get 12 rfl).1 (H.get 0 rfl).1 qg) H fun w35 H=>qJ 47 rfl rfl (sq 2 (zjn (zT _ rfl (fun h37=>?_) (fun h37=>?_))))))))))))))))
   ·refine zcr (sp (Bv false) (zjr (t_r (rH1 (Bv false) H ?_))))
    rw [xh (fun h=>by obtain ⟨h1,h2,h3,h4,h5⟩:=h;first | exact ft h1 ‹_› | exact ft h2 ‹_› | exact ft h3 ‹_› | exact h4 ⟨‹_›,‹_›⟩ | (obtain ⟨q1,q2⟩:=h5 i qf;first | exact ft q1 ‹_› | exact absurd q2 ‹_›))]
   refine qU (t_n (zcc (sp (yI 0) (zjn (qV ?_)))))
   refine zA ((fun Z0 Z1 Z2 Z3 Z4 Z5 Z6 Z7 Z8 Z9 Z10 Z11 Z12 Z13 Z14 Z15=>fun m' ρ w38=>∃ (xQ:Env) (i:Nat),ρ=upd (upd (upd (upd xQ 0 (pp bs os)) 1 (pp bt ot)) 2 (pp br or)) 8 (yI i)/\((i:Int)<=r.xw.length)/\(IntoUp s t r i)/\m' =(r.xw.length - (i:Int)).toNat/\Fresh w.heap.size []/\St w w38 [] [Z0,Z1,Z2,Z3,Z4,Z5,Z6,Z7,Z8,Z9,Z10,Z11,Z12,Z13,Z14,Z15]) _ _ _ _ _ _ _ _ _ _ _ _ _ _ _ _) ((r.xw.length - (0:Int)).toNat) ⟨_,0,uE4,qf,qx,rfl,N,H⟩ ?_
   clear H N
   rintro m' ρ w39 ⟨xQ,i,rfl,i0,i1,rfl,N,H⟩
   refine zcc (sp (yI i) (sq 2 (oF rfl (oL rfl (H.xW 9 rfl 7 rfl) (oN rfl (sq 1 (zjn (cD rfl (fun h40=>?_) (fun h40=>?_)))))))))
   ·have q:=(p12 i qf).1
    have q1:=q.1
    have q2:=q.2
    refine qU (t_n (xU (qV (zcr (sq 2 (oF rfl (oL rfl (H.xW 9 rfl 7 rfl) (sp (yI i) ?_))))))))
    obtain ⟨b41,o42,rfl⟩:=H.addr 15 rfl qf
    obtain ⟨ae44Bag,ce44Bag,Fe44Bag,H⟩:=H.yY 15 rfl i i qf qf qf
    refine oI rfl rfl (oF rfl (oL rfl (H.xW 1 rfl 0 rfl) (sq 1 (zjn (xU ?_)))))
    refine jw rfl H fun H=>rtl 0 H ?_
    refine rtl 1 H ?_
    refine tF 2 rfl rfl H ?_
    refine tL 3 rfl rfl (fun _ h=>h.xW 7 rfl 0 rfl) H ?_
    refine rtl 4 H ?_
    refine tI 5 rfl rfl rfl H ?_
    refine tL 6 rfl rfl (fun _ h=>h.elemBool 8 rfl ((r.xw[i]!).qR) qf qf) H ?_
    refine rtp 7 (Bv (!(t.qI[((r.xw[i]!).qR).toNat]!))) H ?_
    refine rtp 8 (Bv (!(t.qI[((r.xw[i]!).qR).toNat]!))) H ?_
    cases h46:(!(t.qI[((r.xw[i]!).qR).toNat]!))
    ·replace h46:=qY h46
     refine rgl 9 88 H ?_
     refine rgl 10 88 H ?_
     refine rgl 11 88 H ?_
     refine rgl 13 88 H ?_
     refine rgl 14 88 H ?_
     refine gF 15 rfl rfl H ?_
     refine gL 16 rfl rfl (fun _ h=>h.xW 11 rfl 0 rfl) H ?_
     refine jb [12] qh qm (XI rfl (e:=88) rfl rfl (oq (l02Parent_ok _ s t ((r.xw[i]!).qR) (qF (H.get 4 rfl) 0 3) (H.get 5 rfl).1 (H.get 6 rfl).1 (qF (H.get 7 rfl) 0 3) (H.get 8 rfl).1 (H.get 9 rfl).1 (H.get 10 rfl).1 ql ql ql) H fun w47 H=>⟨H,(rgl 17 88 H ?_)⟩) jd)
     refine rtl 18 H ?_
     refine xA qh (t_n (zT _ rfl (fun h49=>?_) (fun h49=>?_)))
     ·replace h49:=bne_iff_ne.1 h49
      refine zcr (sp (Bv false) (zjr (zr5 (rH1 (Bv false) H ?_))))
      rw [xh (fun h=>by obtain ⟨h1,h2,h3,h4,h5⟩:=h;first | exact ft h1 ‹_› | exact ft h2 ‹_› | exact ft h3 ‹_› | exact h4 ⟨‹_›,‹_›⟩ | (obtain ⟨q1,q2⟩:=h5 i qf;first | exact ft q1 ‹_› | exact absurd q2 ‹_›))]
     replace h49:=xu h49
     refine qU (b_n (t_n (xK (sp (yI i) (sw (zi i 1 rfl rfl qf (sq 1 (xP (qW (m' :=(r.xw.length - ((i+1):Int)).toNat) qf ⟨_,i+1,uE4,?_,?_,rfl,N,H.pick [] (zR 2 16)⟩)))))))))
     ·omega
     ·exact i1.succ ‹_› ‹_›
    replace h46:=xm h46
    refine zS (zR 9 9) 9 (H) (rtp 18 (Bv true) H ?_)
    refine xA qh (t_n (cTr rfl (zcr (sp (Bv false) (zjr (zr5 (rH1 (Bv false) H ?_)))))))
    rw [xh (fun h=>by obtain ⟨h1,h2,h3,h4,h5⟩:=h;first | exact ft h1 ‹_› | exact ft h2 ‹_› | exact ft h3 ‹_› | exact h4 ⟨‹_›,‹_›⟩ | (obtain ⟨q1,q2⟩:=h5 i qf;first | exact ft q1 ‹_› | exact absurd q2 ‹_›))]
   refine zx4 (zcr (sp (Bv true) (zjr (rH1 (Bv true) H ?_))))
   rw [jS ⟨by assumption,by assumption,by assumption,fun ⟨u,v⟩=>by first | omega | exact ft v ‹_›,(show i=r.xw.length by omega)▸i1⟩]
  replace h18:=xm h18
  refine xR (zR 48 14) (sp (Bv true) (zjn (cTr rfl (zcr (sp (Bv false) (zjr (t_r (rH1 (Bv false) H ?_))))))))
  rw [xh (fun h=>by obtain ⟨h1,h2,h3,h4,h5⟩:=h;first | exact ft h1 ‹_› | exact ft h2 ‹_› | exact ft h3 ‹_› | exact h4 ⟨‹_›,‹_›⟩ | (obtain ⟨q1,q2⟩:=h5 i qf;first | exact ft q1 ‹_› | exact absurd q2 ‹_›))]
 replace h14:=xm h14
 refine xR (zR 39 7) (sp (Bv true) (sp (Bv true) (xR (zR 48 14) (sp (Bv true) (zjn (cTr rfl (zcr (sp (Bv false) (zjr (t_r (rH1 (Bv false) H ?_)))))))))))
 rw [xh (fun h=>by obtain ⟨h1,h2,h3,h4,h5⟩:=h;first | exact ft h1 ‹_› | exact ft h2 ‹_› | exact ft h3 ‹_› | exact h4 ⟨‹_›,‹_›⟩ | (obtain ⟨q1,q2⟩:=h5 i qf;first | exact ft q1 ‹_› | exact absurd q2 ‹_›))]
theorem l03Applicable_ok (w:World) (s:qG) (t:qH) (hs:vg w bs os (yS s qM qL xg qX)) (xf:zP w xF qM qL s.qC) (xE:zP w zu xg qX s.qE) (ht:vg w bt ot (yT t xq xn xX xM xe qZ)) (zk:zP w zQ xq xn t.qI) (zO:zP w vK xX xM t.qP) (xJ:zP w zo xe qZ t.qN) (p0:yj s) (p1:zV s t):Calls Tryz.prog 193 #[pp bs os,pp bt ot] w (Ret (fun v w' =>∃ (ra:yOA) (rn:Nat) (rc:Nat),v=Sv ra rn rc/\Fresh w.heap.size []/\St w w' [rr ra rn rc 4 1 ((appl s t).map (Value.bool))] []) w):=by
 refine en func193 ntmps193 ?_
 have H:=(((((((St.start w).arg xJ).arg zO).arg zk).Q7 ht).arg xE).arg xf).Q7 hs
 have vH:=qO xf
 have jD:=qO xE
 have yL:=qO zk
 have Qv:=qO zO
 have jQ:=qO xJ
 clear hs xf xE ht zk zO xJ
 have N:=Fresh.nil w.heap.size
 have p2:=p0.2.1
 have p3:=p0.1.2.1
 refine zcr (sq 1 (zjc (sq 2 (oF rfl (oL rfl (H.xW 0 rfl 1 rfl) (oN rfl (sw (Qr H underlying27 ti2 s.qC.length rfl rfl qf qf qf fun b1 w2 H=>sq 1 (zjc (sw (zW H underlying40 ti4 fun b3 w4 H=>sq 1 (zjcc (sp (yI 0) (zjn (qV ?_)))))))))))))))
 replace H:=H.boxRowB 0 [] 0
 refine zA ((fun Z0 Z1 Z2 Z3 Z4 Z5 Z6=>fun m' ρ w5=>∃ (xQ:Env) (jl:yOA) (vC:Nat) (jh:Nat) (out:List Bool) (i:Nat) (best:yLI),ρ=upd (upd (upd (upd (upd xQ 0 (pp bs os)) 1 (pp bt ot)) 5 (Sv (aa b1 0) s.qC.length s.qC.length)) 6 (Sv jl vC jh)) 7 (yI i)/\out=applB s t 0 i/\best=bests s t 0 s.qC.length i/\((i:Int)<=s.qE.length)/\m' =(s.qE.length - (i:Int)).toNat/\Fresh w.heap.size []/\St w w5 [rr jl vC jh 4 1 (out.map (Value.bool)),rr (aa b1 0) s.qC.length s.qC.length 2 1 (best.map (Value.int .i64))] [Z0,Z1,Z2,Z3,Z4,Z5,Z6]) _ _ _ _ _ _ _) ((s.qE.length - (0:Int)).toNat) ⟨_,(aa b3 0),0,0,([]:List Bool),0,(List.replicate s.qC.length (0:Int)),uE5,(by rfl),(by exact bests_zero s t 0 _),qf,rfl,N,H⟩ ?_
 clear H N
 rintro m' ρ w6 ⟨xQ,jl,vC,jh,out,i,best,rfl,rfl,rfl,i0,rfl,N,H⟩
 have hn_out:=H.rowNB 0 rfl
 have hn_best:=H.yt 1 rfl
 have bl:=Xf s t 0 s.qC.length i
 have al:=applB_len s t 0 i
 refine zcc (sp (yI i) (sq 2 (oF rfl (oL rfl (H.xW 0 rfl 2 rfl) (oN rfl (sq 1 (zjn (cD rfl (fun h7=>?_) (fun h7=>?_)))))))))
 ·have q:=p0.rule (i:=i) qf
  have qc:=q.1
  have qk:=q.cell
  have qr:=q.2.1
  refine qU (t_n (xU (qV (zcr (sq 2 (oF rfl (oL rfl (H.xW 0 rfl 2 rfl) (sp (yI i) ?_))))))))
  obtain ⟨b8,o9,rfl⟩:=H.addr 2 rfl qf
  obtain ⟨ae11Need,ce11Need,Fe11Need,ae11Have,ce11Have,Fe11Have,ae11Lack,ce11Lack,Fe11Lack,ae11Here,ce11Here,Fe11Here,ae11Out,ce11Out,Fe11Out,ae11Into,ce11Into,Fe11Into,H⟩:=H.Qc 2 rfl i i qf qf qf
  refine oI rfl rfl (sq 1 (zjc (sq 3 (sw (oq (l03Enabled_ok _ s t (s.qE[i]!) (qF (H.get 7 rfl) 0 3) (H.get 8 rfl).1 (H.get 9 rfl).1 (qF (H.get 10 rfl) 0 3) (H.get 11 rfl).1 (H.get 12 rfl).1 (H.get 13 rfl).1 (qF (H.get 6 rfl) 0 9) (H.get 0 rfl).1 (H.get 1 rfl).1 (H.get 2 rfl).1 (H.get 3 rfl).1 (H.get 4 rfl).1 (H.get 5 rfl).1 qg qg qg) H fun w13 H=>?_)))))
  refine sq 1 (zjc (sq 2 (sw (xx H underlying40 ti4 [Bv (dec (EnOk s t (s.qE[i]!)))] fun b15 w16 H=>sw (zG H 1 rfl 0 rfl underlying40 ti4 rfl qj rfl rfl rfl qw qp qf fun a17 c18 w19 H=>?_)))))
  rw [snocB] at H
  refine sq 1 (zjc (sq 1 (zjn (cP rfl (fun h20=>?_) (fun h20=>?_)))))
  ·refine Qb rfl H [0,1] fun H=>?_
   have S:=H.jr [0,1] (zR 0 14)
   refine rtl 0 S ?_
   refine rtl 1 S ?_
   refine rtl 2 S ?_
   refine tF 3 rfl rfl S ?_
   refine tL 4 rfl rfl (fun _ h=>h.xW 6 rfl 0 rfl) S ?_
   refine rtl 5 S ?_
   refine rtl 6 S ?_
   refine rtl 7 S ?_
   refine tF 8 rfl rfl S ?_
   refine tL 9 rfl rfl (fun _ h=>h.xW 6 rfl 0 rfl) S ?_
   refine tI 10 rfl rfl rfl S ?_
   refine rtl 12 S ?_
   refine rtl 13 S ?_
   refine tF 14 rfl rfl S ?_
   refine tL 15 rfl rfl (fun _ h=>h.xW 6 rfl 1 rfl) S ?_
   refine ro 11 rfl (zK (yI ((bests s t 0 s.qC.length i)[((s.qE[i]!).qR).toNat]!)) isAgg2 rfl (H.rowInt 2 rfl (iv:=(s.qE[i]!).qR) (i:=(((s.qE[i]!).qR).toNat)) qf qf) (⟨H.pick [0,1] (zR 0 14),(ro 16 rfl (oq (l00Max_ok w19.drew ((bests s t 0 s.qC.length i)[((s.qE[i]!).qR).toNat]!) ((s.qE[i]!).jR)) H fun w23 H=>⟨H.pick [0,1] (zR 0 14),(tI 17 rfl rfl rfl (H.pick [0,1] (zR 0 14)) ?_)⟩))⟩))
   refine ro 18 rfl (XB H 2 rfl (max ((bests s t 0 s.qC.length i)[((s.qE[i]!).qR).toNat]!) ((s.qE[i]!).jR)) sizeOf2 rfl rfl (i:=(((s.qE[i]!).qR).toNat)) qf qf fun w25 H=>⟨H.pick [0,1] (zR 0 14),(xA qh (b_n (t_n (xK (sp (yI i) (sw (zi i 1 rfl rfl qf (sq 1 (xP (qW (m' :=(s.qE.length - ((i+1):Int)).toNat) qf ⟨_,_,_,_,_,i+1,_,uE5,?_,?_,?_,rfl,N,H.pick [1,2] (zR 7 7)⟩))))))))))⟩)
   ·exact applB_snoc s t i
   ·first | exact bests_set ‹_› qf | exact bests_skip ‹_›
   ·omega
  refine qU (b_n (t_n (xK (sp (yI i) (sw (zi i 1 rfl rfl qf (sq 1 (xP (qW (m' :=(s.qE.length - ((i+1):Int)).toNat) qf ⟨_,_,_,_,_,i+1,_,uE5,?_,?_,?_,rfl,N,H.pick [1,2] (zR 7 7)⟩)))))))))
  ·exact applB_snoc s t i
  ·first | exact bests_set ‹_› qf | exact bests_skip ‹_›
  ·omega
 refine zx4 (zcc (sp (yI 0) (zjn (qV ?_))))
 refine zA ((fun Z0 Z1 Z2 Z3=>fun m' ρ w26=>∃ (xQ:Env) (i_1:Nat) (out_1:List Bool),ρ=upd (upd (upd (upd xQ 0 (pp bs os)) 5 (Sv (aa b1 0) s.qC.length s.qC.length)) 6 (Sv jl vC jh)) 10 (yI i_1)/\out_1=applB s t i_1 s.qE.length/\((i_1:Int)<=s.qE.length)/\m' =(s.qE.length - (i_1:Int)).toNat/\Fresh w.heap.size []/\St w w26 [rr jl vC jh 4 1 (out_1.map (Value.bool)),Z0] [Z1,Z2,Z3]) _ _ _ _) ((s.qE.length - (0:Int)).toNat) ⟨_,0,(applB s t 0 i),uE4,(by rw [show i=s.qE.length by omega]),qf,rfl,N,H.pick [0,1] [0,1,2]⟩ ?_
 clear H N
 rintro m' ρ w27 ⟨xQ,i_1,out_1,rfl,rfl,i0,rfl,N,H⟩
 have hn_out:=H.rowNB 0 rfl
 have bl:=Xf s t 0 s.qC.length i
 have al:=applB_len s t i_1 s.qE.length
 refine zcc (sq 3 (oF rfl (oL rfl (H.xW 0 rfl 2 rfl) (oN rfl (sq 1 (zjn (cD rfl (fun h28=>?_) (fun h28=>?_))))))))
 ·have q:=p0.rule (i:=i_1) qf
  have qc:=q.1
  have qk:=q.cell
  have qr:=q.2.1
  refine qU (t_n (xU (qV ?_)))
  refine Qb rfl H [1] fun H=>?_
  have S:=H.jr [1] [0,1,2]
  refine rtl 0 S ?_
  refine rtl 1 S ?_
  refine rtl 2 S ?_
  refine rtl 3 S ?_
  obtain ⟨b30,rfl⟩:=H.y5 0 rfl qf
  refine tI 4 rfl rfl rfl (H.pick [1] [0,1,2]) ?_
  refine ro 5 rfl (zK (Bv ((applB s t i_1 s.qE.length)[i_1]!)) isAgg4 rfl (H.rowBool 0 rfl (iv:=i_1) (i:=i_1) qf qf) (⟨H.pick [1] [0,1,2],(rtp 6 (Bv ((applB s t i_1 s.qE.length)[i_1]!)) (H.pick [1] [0,1,2]) ?_)⟩))
  cases h31:((applB s t i_1 s.qE.length)[i_1]!)
  ·refine zS (zR 7 20) 20 (H.pick [1] [0,1,2]) ?_
   have S:=H.jr [1] [0,1,2]
   refine rtp 27 (Bv false) S ?_
   refine tI 28 rfl rfl rfl S ?_
   refine ro 29 rfl (QG H 0 rfl false sizeOf4 rfl rfl (i:=i_1) qf qf fun w32 H=>⟨H.pick [1] [0,1,2],(xA qh (b_n (t_n (xK (sq 1 (sw (zi i_1 1 rfl rfl qf (sq 1 (xP (qW (m' :=(s.qE.length - ((i_1+1):Int)).toNat) qf ⟨_,i_1+1,_,uE4,?_,?_,rfl,N,H⟩))))))))))⟩)
   ·first | exact applB_set qf (applB_step0 (m:=s.qE.length) qf ‹_›) | exact applB_set qf (applB_step1 (m:=s.qE.length) (n:=s.qC.length) (z:=0) (i:=i) qf ‹_› rfl qf qf qf)
   ·omega
  have S:=H.jr [1] [0,1,2]
  refine rgl 7 75 S ?_
  refine rgl 8 75 S ?_
  refine gF 9 rfl rfl S ?_
  refine gL 10 rfl rfl (fun _ h=>h.xW 0 rfl 2 rfl) S ?_
  refine rgl 11 75 S ?_
  obtain ⟨b33,o34,rfl⟩:=H.addr 2 rfl qf
  obtain ⟨ae36Need,ce36Need,Fe36Need,ae36Have,ce36Have,Fe36Have,ae36Lack,ce36Lack,Fe36Lack,ae36Here,ce36Here,Fe36Here,ae36Out,ce36Out,Fe36Out,ae36Into,ce36Into,Fe36Into,H⟩:=H.Qc 2 rfl i_1 i_1 qf qf qf
  have S:=H.jr [1] [7,8,9]
  refine gI 12 rfl rfl rfl S ?_
  refine gF 13 rfl rfl S ?_
  refine rgl 15 75 S ?_
  refine rgl 16 75 S ?_
  refine rgl 17 75 S ?_
  refine gF 18 rfl rfl S ?_
  refine gL 19 rfl rfl (fun _ h=>h.xW 0 rfl 2 rfl) S ?_
  refine rgl 20 75 S ?_
  refine gI 21 rfl rfl rfl S ?_
  refine gF 22 rfl rfl S ?_
  refine jb [14,23] qh qm (XI rfl (e:=75) rfl rfl ?_ (XI rfl (e:=75) rfl rfl ?_ jd))
  ·refine zK (yI ((s.qE[i_1]!).jR)) isAgg2 rfl (H.xW 6 rfl 1 rfl) (⟨H.pick [1] [7,8,9],(jb [23] qh qm (XI rfl (e:=75) rfl rfl (zK (yI ((s.qE[i_1]!).qR)) isAgg2 rfl (H.xW 6 rfl 0 rfl) (⟨H.pick [1] [7,8,9],?_⟩)) jd))⟩)
   have S:=H.jr [1] [7,8,9]
   refine gI 24 rfl rfl rfl S ?_
   refine gL 25 rfl rfl (fun _ h=>h.rowInt 0 rfl (iv:=(s.qE[i_1]!).qR) (i:=(((s.qE[i_1]!).qR).toNat)) qf qf) S ?_
   refine rgl 26 75 S ?_
   refine rtl 27 S ?_
   refine tI 28 rfl rfl rfl S ?_
   refine ro 29 rfl (QG H 0 rfl (((s.qE[i_1]!).jR:Int) == ((bests s t 0 s.qC.length i)[((s.qE[i_1]!).qR).toNat]!)) sizeOf4 rfl rfl (i:=i_1) qf qf fun w37 H=>⟨H.pick [1] [7,8,9],(xA qh (b_n (t_n (xK (sq 1 (sw (zi i_1 1 rfl rfl qf (sq 1 (xP (qW (m' :=(s.qE.length - ((i_1+1):Int)).toNat) qf ⟨_,i_1+1,_,uE4,?_,?_,rfl,N,H.pick [0,1] [7,8,9]⟩))))))))))⟩)
   ·first | exact applB_set qf (applB_step0 (m:=s.qE.length) qf ‹_›) | exact applB_set qf (applB_step1 (m:=s.qE.length) (n:=s.qC.length) (z:=0) (i:=i) qf ‹_› rfl qf qf qf)
   ·omega
  refine zK (yI ((s.qE[i_1]!).qR)) isAgg2 rfl (H.xW 6 rfl 0 rfl) (⟨H.pick [1] [7,8,9],?_⟩)
  have S:=H.jr [1] [7,8,9]
  refine gI 24 rfl rfl rfl S ?_
  refine gL 25 rfl rfl (fun _ h=>h.rowInt 0 rfl (iv:=(s.qE[i_1]!).qR) (i:=(((s.qE[i_1]!).qR).toNat)) qf qf) S ?_
  refine jb [14] qh qm (XI rfl (e:=75) rfl rfl (zK (yI ((s.qE[i_1]!).jR)) isAgg2 rfl (H.xW 6 rfl 1 rfl) (⟨H.pick [1] [7,8,9],?_⟩)) jd)
  have S:=H.jr [1] [7,8,9]
  refine rgl 26 75 S ?_
  refine rtl 27 S ?_
  refine tI 28 rfl rfl rfl S ?_
  refine ro 29 rfl (QG H 0 rfl (((s.qE[i_1]!).jR:Int) == ((bests s t 0 s.qC.length i)[((s.qE[i_1]!).qR).toNat]!)) sizeOf4 rfl rfl (i:=i_1) qf qf fun w38 H=>⟨H.pick [1] [7,8,9],(xA qh (b_n (t_n (xK (sq 1 (sw (zi i_1 1 rfl rfl qf (sq 1 (xP (qW (m' :=(s.qE.length - ((i_1+1):Int)).toNat) qf ⟨_,i_1+1,_,uE4,?_,?_,rfl,N,H.pick [0,1] [7,8,9]⟩))))))))))⟩)
  ·first | exact applB_set qf (applB_step0 (m:=s.qE.length) qf ‹_›) | exact applB_set qf (applB_step1 (m:=s.qE.length) (n:=s.qC.length) (z:=0) (i:=i) qf ‹_› rfl qf qf qf)
  ·omega
 refine zx4 (zcr (sq 2 (zjr (rH1 (Sv jl vC jh) H ?_))))
 obtain rfl:i_1=s.qE.length:=by omega
 exact ⟨jl,vC,jh,rfl,N,H.pick [0] []⟩
theorem l03Halted_ok (w:World) (s:qG) (t:qH) (hs:vg w bs os (yS s qM qL xg qX)) (xf:zP w xF qM qL s.qC) (xE:zP w zu xg qX s.qE) (ht:vg w bt ot (yT t xq xn xX xM xe qZ)) (zk:zP w zQ xq xn t.qI) (zO:zP w vK xX xM t.qP) (xJ:zP w zo xe qZ t.qN) (p0:yj s) (p1:zV s t):Calls Tryz.prog 152 #[pp bs os,pp bt ot] w (Ret (fun v w' =>v=Bv (dec (Halted s t))) w):=by
 refine en func152 ntmps152 ?_
 have H:=(((((((St.start w).arg xJ).arg zO).arg zk).Q7 ht).arg xE).arg xf).Q7 hs
 have vH:=qO xf
 have jD:=qO xE
 have yL:=qO zk
 have Qv:=qO zO
 have jQ:=qO xJ
 clear hs xf xE ht zk zO xJ
 have N:=Fresh.nil w.heap.size
 have p2:=p0.2.1
 refine zcr (sp (Bv false) (zjc (sq 2 ?_)))
 have sz4:=H.base.size
 refine sw (oc (l03Applicable_ok _ s t (qF (H.get 0 rfl) 0 3) (H.get 1 rfl).1 (H.get 2 rfl).1 (qF (H.get 3 rfl) 0 3) (H.get 4 rfl).1 (H.get 5 rfl).1 (H.get 6 rfl).1 qg qg) ?_)
 rintro _ w2 ⟨ra1,rn1,rc1,rfl,M,K⟩ _
 replace H:=H.merge K M
 obtain rfl:=H.rowNB 0 rfl
 have al:=appl_len s t
 refine sq 1 (zjcc (sp (yI 0) (zjn (qV ?_))))
 refine zA ((fun Z0=>fun m' ρ w7=>∃ (xQ:Env) (i:Nat),ρ=upd (upd xQ 5 (Sv ra1 ((appl s t).length) rc1)) 6 (yI i)/\((i:Int)<=((appl s t).length))/\(HaltTo s t i)/\m' =(((appl s t).length) - (i:Int)).toNat/\Fresh w.heap.size []/\St w w7 [Z0] []) _) ((((appl s t).length) - (0:Int)).toNat) ⟨_,0,uE2,qf,qx,rfl,N,H.pick [0] []⟩ ?_
 clear H N
 rintro m' ρ w8 ⟨xQ,i,rfl,i0,i1,rfl,N,H⟩
 refine zcc (sp (yI i) (sq 1 (oN rfl (sq 1 (zjn (cD rfl (fun h9=>?_) (fun h9=>?_)))))))
 ·refine qU (t_n (xU (qV (zcr (sq 1 (sp (yI i) ?_))))))
  obtain ⟨b10,rfl⟩:=H.y5 0 rfl qf
  refine oI rfl rfl (oL rfl (H.rowBool 0 rfl (iv:=i) (i:=i) qf qf) (zjn (zT _ rfl (fun h11=>?_) (fun h11=>?_))))
  ·refine zcr (sp (Bv false) (zjr (zr5 (rH1 (Bv false) H ?_))))
   rw [xh (fun h=>h i qf (QH qf ‹_›))]
  refine qU (b_n (t_n (xK (sp (yI i) (sw (zi i 1 rfl rfl qf (sq 1 (xP (qW (m' :=(((appl s t).length) - ((i+1):Int)).toNat) qf ⟨_,i+1,uE2,?_,?_,rfl,N,H⟩)))))))))
  ·omega
  ·exact i1.succ (Qd qf ‹_›)
 refine zx4 (zcr (sp (Bv true) (zjr (rH1 (Bv true) H ?_))))
 obtain rfl:i=s.qE.length:=by omega
 rw [jS i1]
theorem l03Rest_ok (w:World) (s:qG) (t:qH) (counts:yLI) {acounts:yOA} {ccounts:Nat} {Fcounts:yLN} (hs:vg w bs os (yS s qM qL xg qX)) (xf:zP w xF qM qL s.qC) (xE:zP w zu xg qX s.qE) (ht:vg w bt ot (yT t xq xn xX xM xe qZ)) (zk:zP w zQ xq xn t.qI) (zO:zP w vK xX xM t.qP) (xJ:zP w zo xe qZ t.qN) (hcounts:zP w Fcounts acounts ccounts counts) (p0:yj s) (p1:zV s t) (p2:CntOk s counts):Calls Tryz.prog 250 #[pp bs os,pp bt ot,Sv acounts counts.length ccounts] w (Ret (fun v w' =>∃ (ra0:yOA) (rn0:Nat) (rc0:Nat) (rx0:List Value) (rF0:yLN),v=.tuple #[Sv ra0 rn0 rc0,Bv (dec (IsCh s t counts))]/\Fresh w.heap.size [rF0]/\St w w' [rr ra0 rn0 rc0 27 1 rx0] [xN true rF0 rx0 (QR s t counts (Xo (BadAt s t counts) counts.length))]) w):=by
 refine en func250 ntmps250 ?_
 have H:=((((((((St.start w).arg hcounts).arg xJ).arg zO).arg zk).Q7 ht).arg xE).arg xf).Q7 hs
 have vH:=qO xf
 have jD:=qO xE
 have yL:=qO zk
 have Qv:=qO zO
 have jQ:=qO xJ
 have nhcounts:=qO hcounts
 clear hs xf xE ht zk zO xJ hcounts
 have N:=Fresh.nil w.heap.size
 have p3:=p0.2.1
 have p6:=p2.1
 have p7:=p1.2.1
 have p8:=kinds_le p0
 have p9:=p0.1.2.1
 have p11:jC s=s.qC.length:=rfl
 refine zcr (sq 1 (sp (Bv false) (zjc (sq 2 ?_))))
 have sz4:=H.base.size
 refine sw (oc (l03Applicable_ok _ s t (qF (H.get 0 rfl) 0 3) (H.get 1 rfl).1 (H.get 2 rfl).1 (qF (H.get 3 rfl) 0 3) (H.get 4 rfl).1 (H.get 5 rfl).1 (H.get 6 rfl).1 qg qg) ?_)
 rintro _ w2 ⟨ra1,rn1,rc1,rfl,M,K⟩ _
 replace H:=H.merge K M
 obtain rfl:=H.rowNB 0 rfl
 have al:=appl_len s t
 refine sq 1 (zjc (sw (zW H underlying41 ti27 fun b7 w8 H=>sq 1 (zjcc (sp (yI 0) (zjn (qV ?_)))))))
 replace H:=H.boxRow 0 rfl 1 0 rfl qj
 replace H:=H.vV (α:=yLI)
 refine zA ((fun Z0 Z1 Z2 Z3 Z4 Z5 Z6 Z7 Z8=>fun m' ρ w9=>∃ (xQ:Env) (a_rest:yOA) (n_rest:Nat) (c_rest:Nat) (rest:yLL) (x_rest:List Value) (F_rest:yLN) (c:Nat),ρ=upd (upd (upd (upd (upd (upd xQ 0 (pp bs os)) 1 (pp bt ot)) 2 (Sv acounts counts.length ccounts)) 8 (Sv ra1 ((appl s t).length) rc1)) 9 (Sv a_rest n_rest c_rest)) 10 (yI c)/\rest=t.qP.take c/\((c:Int)<=t.qP.length)/\m' =(t.qP.length - (c:Int)).toNat/\Fresh w.heap.size [F_rest]/\St w w9 [rr a_rest n_rest c_rest 27 1 x_rest,Z0] [xN true F_rest x_rest rest,Z1,Z2,Z3,Z4,Z5,Z6,Z7,Z8]) _ _ _ _ _ _ _ _ _) ((t.qP.length - (0:Int)).toNat) ⟨_,(aa b7 0),0,0,([]:yLL),[],[],0,uE6,(by rfl),qf,rfl,N.emp,H⟩ ?_
 clear H N
 rintro m' ρ w10 ⟨xQ,a_rest,n_rest,c_rest,rest,x_rest,F_rest,c,rfl,rfl,i0,rfl,N,H⟩
 have hn_rest:=H.xB (α:=yLI) 0 rfl 0 rfl qj
 have p4:=(p1.bagLen (k:=c))
 rw [List.length_take_of_le qf] at hn_rest
 refine zcc (sp (yI c) (sq 2 (oF rfl (oL rfl (H.xW 4 rfl 1 rfl) (oN rfl (sq 1 (zjn (cD rfl (fun h11=>?_) (fun h11=>?_)))))))))
 ·refine qU (t_n (xU (qV (xK (sq 3 (oF rfl (oL rfl (H.xW 4 rfl 1 rfl) (sp (yI c) ?_))))))))
  obtain ⟨b12,o13,rfl⟩:=H.addr 6 rfl qf
  obtain ⟨ae15,ce15,Fe15,H⟩:=H.ji 6 rfl c c qf qf qf
  refine oI rfl rfl (oL rfl (H.xW 1 rfl 0 rfl) ?_)
  have p5:=(p1.bagLen (k:=c) qf).len
  have sz16:=H.base.size
  have lt17:=H.ltN (L:=[F_rest]) [2]
  refine sw (oc (Xe _ (t.qP[c]!) (H.get 0 rfl).1 qg) ?_)
  rintro v21 w19 r21 x20
  replace H:=H.zt x20 r21
  obtain ⟨a22,c23,rfl,hc24,hm25⟩:=H.jm 0 rfl
  refine sw (xx H underlying41 ti27 [Sv a22 ((t.qP[c]!).length) c23] fun b26 w27 H=>?_)
  obtain ⟨G31,N,hn32,H⟩:=H.zh 1 rfl N (H.vz [2])
  refine sw (zG H 2 rfl 0 rfl underlying41 ti27 rfl qj rfl rfl rfl qw qp qf fun a28 c29 w30 H=>?_)
  replace H:=H.yC 3 rfl 0 rfl
  replace N:Fresh w.heap.size [(F_rest++G31)]:=(N.pick [1,0]).join
  refine sq 1 (xP (b_n (t_n (xK (sp (yI c) (sw (zi c 1 rfl rfl qf (sq 1 (xP (qW (m' :=(t.qP.length - ((c+1):Int)).toNat) qf ⟨_,_,_,_,_,_,_,c+1,uE6,?_,?_,rfl,N,H.pick [2,3] (0::zR 5 8)⟩))))))))))
  ·exact take_snoc qf
  ·omega
 refine zx4 (zcc (sp (yI 0) (zjn (qV ?_))))
 refine zA ((fun Z0 Z1 Z2 Z3 Z4=>fun m' ρ w33=>∃ (xQ:Env) (i:Nat) (rest_1:yLL) (x_rest_1:List Value) (F_rest_1:yLN),ρ=upd (upd (upd (upd (upd xQ 0 (pp bs os)) 2 (Sv acounts counts.length ccounts)) 8 (Sv ra1 ((appl s t).length) rc1)) 9 (Sv a_rest n_rest c_rest)) 11 (yI i)/\rest_1=QR s t counts i/\((i:Int)<=counts.length)/\(GoodTo s t counts i)/\m' =(counts.length - (i:Int)).toNat/\Fresh w.heap.size [F_rest_1]/\St w w33 [rr a_rest n_rest c_rest 27 1 x_rest_1,Z0] [xN true F_rest_1 x_rest_1 rest_1,Z1,Z2,Z3,Z4]) _ _ _ _ _) ((counts.length - (0:Int)).toNat) ⟨_,0,(t.qP.take c),x_rest,F_rest,uE5,(by rw [List.take_of_length_le qf];rfl),qf,qx,rfl,N,H.pick [0,1] [0,1,2,3,8]⟩ ?_
 clear H N
 rintro m' ρ w34 ⟨xQ,i,rest_1,x_rest_1,F_rest_1,rfl,rfl,i0,i1,rfl,N,H⟩
 have hn_rest:=H.xB (α:=yLI) 0 rfl 0 rfl qj
 have rl:=restR_len (s:=s) (t:=t) (counts:=counts) i
 refine zcc (sp (yI i) (sq 1 (oN rfl (sq 1 (zjn (cD rfl (fun h35=>?_) (fun h35=>?_)))))))
 ·have q:=p0.rule (i:=i) qf
  have qc:=q.1
  have qk:=q.cell
  have qr:=q.2.1
  have b1:=q.2.2.2.2.1
  have p10:=p2.bd (i:=i) qf
  refine qU (t_n (xU (qV (zcc (sq 1 (sp (yI i) ?_))))))
  obtain ⟨b36,o37,rfl⟩:=H.addr 4 rfl qf
  refine oI rfl rfl (oL rfl (H.zB 4 rfl i qf) (sp (Bv (decide ((counts[i]! :Int) > 0))) (sp (Bv (decide ((counts[i]! :Int) > 0))) ?_)))
  cases h39:(decide ((counts[i]! :Int) > 0))
  ·replace h39:=of_decide_eq_false h39
   refine xR (zR 51 5) (sp (Bv false) (zjn (cFr rfl (qU (t_n (zcr (sq 2 (oF rfl (oL rfl (H.xW 1 rfl 2 rfl) (sp (yI i) ?_))))))))))
   obtain ⟨b40,o41,rfl⟩:=H.addr 3 rfl qf
   obtain ⟨ae43Need,ce43Need,Fe43Need,ae43Have,ce43Have,Fe43Have,ae43Lack,ce43Lack,Fe43Lack,ae43Here,ce43Here,Fe43Here,ae43Out,ce43Out,Fe43Out,ae43Into,ce43Into,Fe43Into,H⟩:=H.Qc 3 rfl i i qf qf qf
   refine oI rfl rfl (oF rfl (oL rfl (H.xW 6 rfl 0 rfl) (sq 1 (zjn ?_))))
   refine Qb rfl H [1] fun H=>?_
   have S:=H.jr [1] (zR 0 12)
   refine rtl 0 S ?_
   refine rtl 1 S ?_
   refine rtl 2 S ?_
   refine rtl 3 S ?_
   obtain ⟨b45,rfl⟩:=H.y5 0 rfl qf
   have S:=H.jr [1] (zR 0 12)
   refine tI 4 rfl rfl rfl S ?_
   refine rtl 6 S ?_
   refine rtl 7 S ?_
   refine tF 8 rfl rfl S ?_
   refine tL 9 rfl rfl (fun _ h=>h.xW 8 rfl 2 rfl) S ?_
   refine rtp 10 (yI i) S ?_
   refine tI 11 rfl rfl rfl S ?_
   refine tF 12 rfl rfl S ?_
   refine tL 13 rfl rfl (fun _ h=>h.xW 6 rfl 2 rfl) S ?_
   refine rtl 14 S ?_
   refine rtp 15 (yI i) S ?_
   refine tI 16 rfl rfl rfl S ?_
   refine tL 17 rfl rfl (fun _ h=>h.zB 11 rfl i qf) S ?_
   refine rt 18 _ (y_neg (counts[i]!) rfl qf) S ?_
   refine ro 5 rfl ?_
   obtain ⟨a46,c47,G48,s49,h50,H⟩:=H.jY 0 rfl 7 rfl (iv:=(s.qE[i]!).qR) (((s.qE[i]!).qR).toNat) qf qf
   refine zK (Sv a46 (((QR s t counts i)[((s.qE[i]!).qR).toNat]!).length) c47) isAgg27 rfl (h50) (⟨H.pick [1] (zR 1 12),(ro 19 rfl ?_)⟩)
   obtain ⟨u1,u2⟩:=restR_row (c:=(s.qE[i]!).qR.toNat) p0 p1 p2 (show i<=_ by omega) qk
   have u3:=b1.len
   have u4:=b1.yE (t:= -(counts[i]!)) qf
   have sz51:=H.base.size
   have lt52:=H.ltN (L:=[F_rest_1]) [8]
   refine oc (Xi _ ((QR s t counts i)[((s.qE[i]!).qR).toNat]!) ((s.qE[i]!).vF) (-(counts[i]!)) (H.get 0 rfl).1 (H.get 1 rfl).1 qg qg qg) ?_
   rintro v56 w54 r56 x55
   replace H:=H.zt x55 r56
   obtain ⟨a57,c58,rfl,hc59,hm60⟩:=H.jm 0 rfl
   refine ⟨H.pick [2] (zR 1 12),(tI 20 rfl rfl rfl (H.pick [2] (zR 1 12)) ?_)⟩
   refine ro 21 rfl ?_
   obtain ⟨G62,N,hn63,H⟩:=H.zh 0 rfl N (H.vz [8])
   refine jK true H 1 rfl 9 rfl (Sv a57 ((jP ((QR s t counts i)[((s.qE[i]!).qR).toNat]!) ((s.qE[i]!).vF) (-(counts[i]!))).length) c58) 0 rfl rfl sizeOf27 rfl rfl (i:=(((s.qE[i]!).qR).toNat)) qf qf qm fun w61 xs64 F65 hs66 H=>?_
   replace N:Fresh w.heap.size [F65]:=(N.pick [1,0]).repl hs66
   refine ⟨H.pick [2] (zR 3 12),(xA qh (b_n (t_n (xK (sp (yI i) (sw (zi i 1 rfl rfl qf (sq 1 (xP (qW (m' :=(counts.length - ((i+1):Int)).toNat) qf ⟨_,i+1,_,_,_,uE5,?_,?_,?_,rfl,N,H.pick [1,2] (0::zR 11 4)⟩))))))))))⟩
   ·rfl
   ·omega
   ·exact i1.succ (fun h=>by obtain ⟨u,v⟩:=h;first | omega | exact v (QH qf ‹_›))
  replace h39:=of_decide_eq_true h39
  refine qJ 50 rfl rfl (sq 1 (qJ 50 rfl rfl (sp (yI i) (qJ 50 rfl rfl ?_))))
  obtain ⟨b67,rfl⟩:=H.y5 1 rfl qf
  refine oI rfl rfl (qJ 50 rfl rfl (oL rfl (H.rowBool 1 rfl (iv:=i) (i:=i) qf qf) (qJ 50 rfl rfl (sq 2 (zjn (zT _ rfl (fun h68=>?_) (fun h68=>?_)))))))
  ·replace h68:=xm h68
   refine zcr (sq 2 (sp (Bv false) (zjr (t_r (zr5 (ret2 (Sv a_rest n_rest c_rest) (Bv false) rfl rfl rfl ⟨_,rfl,?_,H.base⟩))))))
   rw [stop_first (k:=i) i1 qf ⟨by omega,Qd qf ‹_›⟩,xh (fun h=>h.1 i qf ⟨by omega,Qd qf ‹_›⟩)]
   exact ⟨a_rest,n_rest,c_rest,x_rest_1,F_rest_1,rfl,N,H.pick [0] [0]⟩
  replace h68:=qY h68
  refine qU (t_n (zcr (sq 2 (oF rfl (oL rfl (H.xW 1 rfl 2 rfl) (sp (yI i) ?_))))))
  obtain ⟨b69,o70,rfl⟩:=H.addr 3 rfl qf
  obtain ⟨ae72Need,ce72Need,Fe72Need,ae72Have,ce72Have,Fe72Have,ae72Lack,ce72Lack,Fe72Lack,ae72Here,ce72Here,Fe72Here,ae72Out,ce72Out,Fe72Out,ae72Into,ce72Into,Fe72Into,H⟩:=H.Qc 3 rfl i i qf qf qf
  refine oI rfl rfl (oF rfl (oL rfl (H.xW 6 rfl 0 rfl) (sq 1 (zjn ?_))))
  refine Qb rfl H [1] fun H=>?_
  have S:=H.jr [1] (zR 0 12)
  refine rtl 0 S ?_
  refine rtl 1 S ?_
  refine rtl 2 S ?_
  refine rtl 3 S ?_
  obtain ⟨b74,rfl⟩:=H.y5 0 rfl qf
  have S:=H.jr [1] (zR 0 12)
  refine tI 4 rfl rfl rfl S ?_
  refine rtl 6 S ?_
  refine rtl 7 S ?_
  refine tF 8 rfl rfl S ?_
  refine tL 9 rfl rfl (fun _ h=>h.xW 8 rfl 2 rfl) S ?_
  refine rtp 10 (yI i) S ?_
  refine tI 11 rfl rfl rfl S ?_
  refine tF 12 rfl rfl S ?_
  refine tL 13 rfl rfl (fun _ h=>h.xW 6 rfl 2 rfl) S ?_
  refine rtl 14 S ?_
  refine rtp 15 (yI i) S ?_
  refine tI 16 rfl rfl rfl S ?_
  refine tL 17 rfl rfl (fun _ h=>h.zB 11 rfl i qf) S ?_
  refine rt 18 _ (y_neg (counts[i]!) rfl qf) S ?_
  refine ro 5 rfl ?_
  obtain ⟨a75,c76,G77,s78,h79,H⟩:=H.jY 0 rfl 7 rfl (iv:=(s.qE[i]!).qR) (((s.qE[i]!).qR).toNat) qf qf
  refine zK (Sv a75 (((QR s t counts i)[((s.qE[i]!).qR).toNat]!).length) c76) isAgg27 rfl (h79) (⟨H.pick [1] (zR 1 12),(ro 19 rfl ?_)⟩)
  obtain ⟨u1,u2⟩:=restR_row (c:=(s.qE[i]!).qR.toNat) p0 p1 p2 (show i<=_ by omega) qk
  have u3:=b1.len
  have u4:=b1.yE (t:= -(counts[i]!)) qf
  have sz80:=H.base.size
  have lt81:=H.ltN (L:=[F_rest_1]) [8]
  refine oc (Xi _ ((QR s t counts i)[((s.qE[i]!).qR).toNat]!) ((s.qE[i]!).vF) (-(counts[i]!)) (H.get 0 rfl).1 (H.get 1 rfl).1 qg qg qg) ?_
  rintro v85 w83 r85 x84
  replace H:=H.zt x84 r85
  obtain ⟨a86,c87,rfl,hc88,hm89⟩:=H.jm 0 rfl
  refine ⟨H.pick [2] (zR 1 12),(tI 20 rfl rfl rfl (H.pick [2] (zR 1 12)) ?_)⟩
  refine ro 21 rfl ?_
  obtain ⟨G91,N,hn92,H⟩:=H.zh 0 rfl N (H.vz [8])
  refine jK true H 1 rfl 9 rfl (Sv a86 ((jP ((QR s t counts i)[((s.qE[i]!).qR).toNat]!) ((s.qE[i]!).vF) (-(counts[i]!))).length) c87) 0 rfl rfl sizeOf27 rfl rfl (i:=(((s.qE[i]!).qR).toNat)) qf qf qm fun w90 xs93 F94 hs95 H=>?_
  replace N:Fresh w.heap.size [F94]:=(N.pick [1,0]).repl hs95
  refine ⟨H.pick [2] (zR 3 12),(xA qh (b_n (t_n (xK (sp (yI i) (sw (zi i 1 rfl rfl qf (sq 1 (xP (qW (m' :=(counts.length - ((i+1):Int)).toNat) qf ⟨_,i+1,_,_,_,uE5,?_,?_,?_,rfl,N,H.pick [1,2] (0::zR 11 4)⟩))))))))))⟩
  ·rfl
  ·omega
  ·exact i1.succ (fun h=>by obtain ⟨u,v⟩:=h;first | omega | exact v (QH qf ‹_›))
 refine zx4 (zcc (sp (yI 0) (zjn (qV ?_))))
 refine zA ((fun Z0 Z1 Z2=>fun m' ρ w96=>∃ (xQ:Env) (c_1:Nat),ρ=upd (upd xQ 9 (Sv a_rest n_rest c_rest)) 13 (yI c_1)/\((c_1:Int)<=n_rest)/\(NonNeg (QR s t counts i) c_1)/\m' =(n_rest - (c_1:Int)).toNat/\Fresh w.heap.size [F_rest_1]/\St w w96 [Z0,Z1] [Z2]) _ _ _) ((n_rest - (0:Int)).toNat) ⟨_,0,uE2,qf,qx,rfl,N,H.pick [0,1] [0]⟩ ?_
 clear H N
 rintro m' ρ w97 ⟨xQ,c_1,rfl,i0,i2,rfl,N,H⟩
 refine zcc (sq 2 (oN rfl (sq 1 (zjn (cD rfl (fun h98=>?_) (fun h98=>?_))))))
 ·have r1:=(restR_row (c:=c_1) p0 p1 p2 (show i<=_ by omega) (show c_1 < jC s by omega)).1
  refine qU (t_n (xU (qV (zcr (sp (yI 0) (zjn (qV ?_)))))))
  refine zA ((fun Z0 Z1 Z2=>fun m' ρ w99=>∃ (xQ:Env) (k:Nat),ρ=upd (upd (upd xQ 9 (Sv a_rest n_rest c_rest)) 13 (yI c_1)) 14 (yI k)/\((k:Int)<=(((QR s t counts i)[c_1]!).length))/\(∀ j,j < k->0<=((QR s t counts i)[c_1]!)[j]!)/\m' =((((QR s t counts i)[c_1]!).length) - (k:Int)).toNat/\Fresh w.heap.size [F_rest_1]/\St w w99 [Z0,Z1] [Z2]) _ _ _) (((((QR s t counts i)[c_1]!).length) - (0:Int)).toNat) ⟨_,0,uE3,qf,qx,rfl,N,H⟩ ?_
  clear H N
  rintro m' ρ w100 ⟨xQ,k,rfl,i0,i3,rfl,N,H⟩
  refine zcc (sp (yI k) (sq 2 ?_))
  obtain ⟨b101,rfl⟩:=H.y5 0 rfl qf
  refine oI rfl rfl ?_
  obtain ⟨a102,c103,G104,s105,h106,H⟩:=H.jY 0 rfl 0 rfl (iv:=c_1) c_1 qf qf
  refine oL rfl (h106) (oN rfl (sq 1 (zjn (cD rfl (fun h107=>?_) (fun h107=>?_)))))
  ·refine qU (t_n (xU (qV (zcr (sq 2 (oI rfl rfl ?_))))))
   obtain ⟨a108,c109,G110,s111,h112,H⟩:=H.jY 0 rfl 1 rfl (iv:=c_1) c_1 qf qf
   refine oL rfl (h112) (sp (yI k) ?_)
   obtain ⟨b113,o114,rfl⟩:=H.addr 0 rfl qf
   refine oI rfl rfl (oL rfl (H.zB 0 rfl k qf) (sp (Bv (decide ((((QR s t counts i)[c_1]!)[k]! :Int) < 0))) (zjn (cD rfl (fun h116=>?_) (fun h116=>?_)))))
   ·refine zcr (sq 2 (sp (Bv false) (zjr (b_r (t_r (t_r (b_r (zr5 (ret2 (Sv (aa b101 0) n_rest c_rest) (Bv false) rfl rfl rfl ⟨_,rfl,?_,H.base⟩)))))))))
    obtain rfl:i=counts.length:=by omega
    rw [stop_none (n:=counts.length) i1,xh (fun h=>by have:=h.2 c_1 qf k qf;omega)]
    exact ⟨(aa b101 0),n_rest,c_rest,x_rest_1,F_rest_1,rfl,N,H.pick [0] [2]⟩
   refine qU (b_n (t_n (xK (sp (yI k) (sw (zi k 1 rfl rfl qf (sq 1 (xP (qW (m' :=((((QR s t counts i)[c_1]!).length) - ((k+1):Int)).toNat) qf ⟨_,k+1,uE3,?_,?_,rfl,N,H.pick [0,1] [2]⟩)))))))))
   ·omega
   ·exact fun j hj=>by (by_cases e:j=k;(subst e;omega);exact i3 j qf)
  refine c_exit (t_x (t_x (b_x (b_n (t_n (xK (sq 1 (sw (zi c_1 1 rfl rfl qf (sq 1 (xP (qW (m' :=(n_rest - ((c_1+1):Int)).toNat) qf ⟨_,c_1+1,uE2,?_,?_,rfl,N,H.pick [0,1] [1]⟩))))))))))))
  ·omega
  ·exact i2.succ (fun j hj=>i3 j qf)
 refine zx4 (zcr (sq 2 (sp (Bv true) (zjr (ret2 (Sv a_rest n_rest c_rest) (Bv true) rfl rfl rfl ⟨_,rfl,?_,H.base⟩)))))
 obtain rfl:i=counts.length:=by omega
 rw [stop_none (n:=counts.length) i1,jS ⟨i1,(show c_1=t.qP.length by omega)▸i2⟩]
 exact ⟨a_rest,n_rest,c_rest,x_rest_1,F_rest_1,rfl,N,H.pick [0] [0]⟩
end
section
def FullOk (parts:yLL) (rest:yLI):Prop:=∀ i,i < parts.length->within (parts[i]!) rest=false
def FullTo (parts:yLL) (rest:yLI) (k:Nat):Prop:=∀ i,i < k->within (parts[i]!) rest=false
theorem FullTo.succ (h:FullTo parts rest k) (h1:within (parts[k]!) rest=false):FullTo parts rest (k+1):=fun j hj=>by
 by_cases e:j=k
 ·subst e;exact h1
 ·exact h j qf
open Classical in
noncomputable def packs (parts:yLL):Nat->Nat->yLI->yLL
 | 0,_,rest=>if FullOk parts rest then [[]] else []
 | f+1,k,rest=>(List.range ((jF (parts[k]!) rest).toNat+1)).flatMap fun (n:Nat)=>(packs parts f (k+1) (jP rest (parts[k]!) (-(n:Int)))).map ((n:Int) :: ·)
noncomputable def jZ (parts:yLL) (f k:Nat) (rest:yLI) (m:Nat):yLL:=
 (List.range m).flatMap fun (n:Nat)=>(packs parts f (k+1) (jP rest (parts[k]!) (-(n:Int)))).map ((n:Int) :: ·)
theorem packs_succ (parts:yLL) (f k:Nat) (rest:yLI):packs parts (f+1) k rest=jZ parts f k rest ((jF (parts[k]!) rest).toNat+1):=rfl
theorem packsTo_zero (parts:yLL) (f k:Nat) (rest:yLI):jZ parts f k rest 0=[]:=rfl
theorem packsTo_succ (parts:yLL) (f k:Nat) (rest:yLI) (m:Nat):
 jZ parts f k rest (m+1)=jZ parts f k rest m++(packs parts f (k+1) (jP rest (parts[k]!) (-(m:Int)))).map ((m:Int) :: ·):=by
 simp [jZ,List.range_succ]
theorem packs_full (h:FullOk parts rest):packs parts 0 k rest=[[]]:=by rw [packs,if_pos h]
theorem packs_none (h:¬ FullOk parts rest):packs parts 0 k rest=[]:=by rw [packs,if_neg h]
def gath (out more:yLL):yLL:=(out++more).take 2001
theorem gath_nil {out:yLL} (h:out.length<=2001):gath out []=out:=by unfold gath;rw [List.append_nil];exact List.take_of_length_le h
theorem gath_one {out:yLL} {x:yLI} (h:out.length<=2000):gath out [x]=out++[x]:=by
 unfold gath;rw [List.take_of_length_le];simp;omega
theorem gath_len (out more:yLL):(gath out more).length<=2001:=by simp [gath];omega
theorem gath_room {out more:yLL} (h:(gath out more).length<=2000):gath out more=out++more:=by
 unfold gath at *
 rw [List.length_take] at h
 exact List.take_of_length_le qf
theorem gath_cat {out a b:yLL} (h:(gath out a).length<=2000):gath (gath out a) b=gath out (a++b):=by
 rw [gath_room h];simp [gath]
theorem gath_stop {out a b:yLL} (h:¬ (gath out a).length<=2000):gath out a=gath out (a++b):=by
 unfold gath at *
 rw [List.length_take] at h
 rw [← List.append_assoc]
 exact (List.take_append_of_le_length (l₁:=out++a) (l₂:=b) qf).symm
def begins (b:yLI) (l:yLL):yLL:=l.map (b++·)
theorem begins_cat (b:yLI) (l m:yLL):begins b (l++m)=begins b l++begins b m:=by simp [begins]
theorem begins_cons (b:yLI) (n:Int) (l:yLL):begins b (l.map (n :: ·))=begins (b++[n]) l:=by simp [begins]
theorem begins_nil (l:yLL):begins [] l=l:=by simp [begins]
theorem begins_one (b:yLI):begins b [[]]=[b]:=by simp [begins]
theorem gath_step {out:yLL} (h:(gath out (begins b (jZ parts f k rest m))).length<=2000):
 gath (gath out (begins b (jZ parts f k rest m))) (begins (b++[(m:Int)]) (packs parts f (k+1) (jP rest (parts[k]!) (-(m:Int)))))=gath out (begins b (jZ parts f k rest (m+1))):=by
 rw [gath_cat h,packsTo_succ,begins_cat,begins_cons]
theorem packsTo_more {parts:yLL} {f k:Nat} {rest:yLI}:∀ {m M:Nat},m<=M->∃ more,jZ parts f k rest M=jZ parts f k rest m++more
  | m, 0, h => ⟨[], by obtain rfl : m = 0 := by omega
                       simp⟩
  | m,M+1,h=>by
    by_cases e:m=M+1
    · subst e;exact ⟨[],by simp⟩
    · obtain ⟨more,hm⟩:=packsTo_more (parts:=parts) (f:=f) (k:=k) (rest:=rest) (show m<=M by omega)
      exact ⟨_,by rw [packsTo_succ,hm,List.append_assoc]⟩
theorem gath_end {out:yLL} (hm:m<=(jF (parts[k]!) rest).toNat+1) (h:m=(jF (parts[k]!) rest).toNat+1\/¬ (gath out (begins b (jZ parts f k rest m))).length<=2000):
 gath out (begins b (jZ parts f k rest m))=gath out (begins b (packs parts (f+1) k rest)):=by
 rw [packs_succ]
 rcases h with h | h
 ·rw [h]
 ·obtain ⟨more,e⟩:=packsTo_more (parts:=parts) (f:=f) (k:=k) (rest:=rest) hm
  rw [e,begins_cat]
  exact gath_stop h
open Classical in
noncomputable def yg (b:yLI) (parts:yLL):yLL×Int:=
 if Xh b > 16 then ([],3) else if (packs parts parts.length 0 b).length > 2000 then ([],3) else (packs parts parts.length 0 b,0)
theorem gath_all:(gath [] l).length > 2000<->l.length > 2000:=by unfold gath;rw [List.nil_append,List.length_take];omega
theorem gath_few (h:¬ l.length > 2000):gath [] l=l:=by unfold gath;rw [List.nil_append];exact List.take_of_length_le qf
theorem packs_len {parts:yLL}:∀ {f k:Nat} {rest x:yLI},x∈packs parts f k rest->x.length=f
 | 0,k,rest,x,h=>by
  rw [packs] at h
  split at h
  ·obtain rfl:=List.mem_singleton.1 h;rfl
  ·simp at h
 | f+1,k,rest,x,h=>by
  rw [packs,List.mem_flatMap] at h
  obtain ⟨n,_,h⟩:=h
  obtain ⟨y,hy,rfl⟩:=List.mem_map.1 h
  rw [List.length_cons,packs_len hy]
def PartsOk (K:Nat) (parts:yLL):Prop:=∀ i,i < parts.length->(parts[i]!).length=K/\(∀ q,q < K->0<=(parts[i]!)[q]! /\(parts[i]!)[q]! <=1000)/\∃ j,j < K/\0 < (parts[i]!)[j]!
def RestOk (K:Nat) (rest:yLI):Prop:=rest.length=K/\∀ q,q < K->0<=rest[q]! /\rest[q]! <=1000
def XQ (parts:yLL) (rest:yLI):Prop:=∃ K,K<=8/\PartsOk K parts/\RestOk K rest/\parts.length<=8
theorem times_bd (hP:PartsOk K parts) (hR:RestOk K rest) (hk:k < parts.length):0<=jF (parts[k]!) rest/\jF (parts[k]!) rest<=1000:=
 timesTo_bd (fun q hq=>(hR.2 q (by have:=(hP k hk).1;omega)).1) _ (Nat.le_refl _)
theorem take_get (hP:PartsOk K parts) (hR:RestOk K rest) (hk:k < parts.length) {n:Int} (h0:0<=n) (h1:n<=jF (parts[k]!) rest) {q:Nat} (hq:q < K):
 0<=rest[q]! + -n * (parts[k]!)[q]! /\rest[q]! + -n * (parts[k]!)[q]! <=rest[q]! :=by
 obtain ⟨hl,hb,_⟩:=hP k hk
 have a:=timesL_left (l:=parts[k]!) (m:=rest) (fun j hj=>(hb j qf).1) (fun j hj=>(hR.2 j qf).1) (k:=q) qf
 have b:=Int.mul_le_mul_of_nonneg_right h1 (hb q hq).1
 have c:=Int.mul_nonneg h0 (hb q hq).1
 have d: -n * (parts[k]!)[q]! = -(n * (parts[k]!)[q]!):=Int.neg_mul ..
 have e: -(jF (parts[k]!) rest) * (parts[k]!)[q]! = -(jF (parts[k]!) rest * (parts[k]!)[q]!):=Int.neg_mul ..
 omega
theorem RestOk.take (hP:PartsOk K parts) (hR:RestOk K rest) (hk:k < parts.length) {n:Int} (h0:0<=n) (h1:n<=jF (parts[k]!) rest):RestOk K (jP rest (parts[k]!) (-n)):=by
 refine ⟨by rw [plusL_len];exact hR.1,fun q hq=>?_⟩
 rw [plus_get (by have:=hR.1;omega)]
 have:=take_get hP hR hk h0 h1 hq
 have:=hR.2 q hq
 omega
theorem XQ.times (h:XQ parts rest) (hk:k < parts.length):
 (parts[k]!).length<=rest.length/\(∀ q,q < (parts[k]!).length->0<=rest[q]! /\rest[q]! <=1000)/\(∃ j,j < (parts[k]!).length/\0 < (parts[k]!)[j]!)/\rest.length<=8/\0<=jF (parts[k]!) rest/\jF (parts[k]!) rest<=1000:=by
 obtain ⟨K,hK,hP,hR,hn⟩:=h
 obtain ⟨hl,hb,hj⟩:=hP k hk
 have ht:=times_bd hP hR hk
 refine ⟨by have:=hR.1;omega,fun q hq=>hR.2 q qf,by rw [hl];exact hj,by have:=hR.1;omega,ht⟩
theorem XQ.plus (h:XQ parts rest) (hk:k < parts.length) {n:Int} (h0:0<=n) (h1:n<=jF (parts[k]!) rest):
 rest.length<=(parts[k]!).length/\Mid rest/\SmallT (parts[k]!) (-n)/\XQ parts (jP rest (parts[k]!) (-n)):=by
 obtain ⟨K,hK,hP,hR,hn⟩:=h
 obtain ⟨hl,hb,hj⟩:=hP k hk
 have ht:=times_bd hP hR hk
 refine ⟨by have:=hR.1;omega,⟨by have:=hR.1;omega,fun q hq=>by have:=hR.2 q (by have:=hR.1;omega);omega⟩,fun q hq=>?_,K,hK,hP,hR.take hP hk h0 h1,hn⟩
 have a:=hb q qf
 have b:=Int.mul_nonneg h0 a.1
 have c:=Int.mul_le_mul (show n<=1000 by omega) a.2 a.1 qf
 have d: -n * (parts[k]!)[q]! = -(n * (parts[k]!)[q]!):=Int.neg_mul ..
 omega
theorem XQ.small (h:XQ parts rest):rest.length<=8/\parts.length<=8:=by
 obtain ⟨K,hK,_,hR,hn⟩:=h
 exact ⟨by have:=hR.1;omega,hn⟩
theorem XQ.smallB (h:XQ parts rest):Small rest:=by
 obtain ⟨K,hK,_,hR,hn⟩:=h
 exact ⟨by have:=hR.1;omega,fun q hq=>by have:=hR.2 q (by have:=hR.1;omega);omega⟩
theorem pack_step {out:yLL} (hf:begin'.length+f=parts.length) (hp:begin'.length < parts.length)
 (h:(gath out (begins begin' (jZ parts (f - 1) begin'.length rest n))).length<=2000):
 gath (gath out (begins begin' (jZ parts (f - 1) begin'.length rest n))) (begins (begin' ++[(n:Int)]) (packs parts (parts.length - (begin' ++[(n:Int)]).length) (begin' ++[(n:Int)]).length (jP rest (parts[begin'.length]!) (-(n:Int)))))=
  gath out (begins begin' (jZ parts (f - 1) begin'.length rest (n+1))):=by
 rw [← gath_step h,List.length_append,List.length_cons,List.length_nil,show parts.length - (begin'.length+(0+1))=f - 1 by omega]
theorem pack_start {out:yLL} (h:out.length<=2000):out=gath out (begins begin' (jZ parts f begin'.length rest 0)):=by
 rw [packsTo_zero];exact (gath_nil qf).symm
theorem pack_full {out:yLL} (hl:begin'.length=parts.length) (h:FullOk parts rest) (ho:out.length<=2000):
 gath out (begins begin' (packs parts (parts.length - begin'.length) begin'.length rest))=out++[begin']:=by
 rw [show parts.length - begin'.length=0 by omega,packs_full h,begins_one,gath_one ho]
theorem pack_none {out:yLL} (hl:begin'.length=parts.length) (h:¬ FullOk parts rest) (ho:out.length<=2000):
 gath out (begins begin' (packs parts (parts.length - begin'.length) begin'.length rest))=out:=by
 rw [show parts.length - begin'.length=0 by omega,packs_none h];exact gath_nil qf
theorem pack_end {out:yLL} (hf:begin'.length+f=parts.length) (hp:begin'.length < parts.length) (hn:(n:Int)<=jF (parts[begin'.length]!) rest+1)
 (h0:0<=jF (parts[begin'.length]!) rest) (h:¬ (n:Int)<=jF (parts[begin'.length]!) rest\/¬ ((gath out (begins begin' (jZ parts (f - 1) begin'.length rest n))).length:Int)<=2000):
 gath out (begins begin' (packs parts (parts.length - begin'.length) begin'.length rest))=gath out (begins begin' (jZ parts (f - 1) begin'.length rest n)):=by
 obtain ⟨f,rfl⟩:∃ g,f=g+1:=⟨f - 1,by omega⟩
 rw [show parts.length - begin'.length=f+1 by omega]
 rw [show f+1 - 1=f from rfl] at h ⊢
 exact (gath_end qf (by rcases h with h | h;(left;omega);(right;omega))).symm
theorem all_a (h:Xh b > 16):yg b parts=([],3):=by rw [yg,if_pos h]
theorem all_b (h:¬ Xh b > 16) (h1:((gath ([]:yLL) (begins ([]:yLI) (packs parts (parts.length - ([]:yLI).length) ([]:yLI).length b))).length:Int) > 2000):yg b parts=([],3):=by
 replace h1:(gath [] (begins [] (packs parts (parts.length - 0) 0 b))).length > 2000:=by have:((gath [] (begins [] (packs parts (parts.length - 0) 0 b))).length:Int) > 2000:=h1;omega
 rw [begins_nil] at h1
 have h2:(packs parts parts.length 0 b).length > 2000:=gath_all.1 h1
 rw [yg,if_neg h,if_pos h2]
theorem all_0 (h:¬ Xh b > 16) (h1:¬ ((gath ([]:yLL) (begins ([]:yLI) (packs parts (parts.length - ([]:yLI).length) ([]:yLI).length b))).length:Int) > 2000):
 yg b parts=(gath ([]:yLL) (begins ([]:yLI) (packs parts (parts.length - ([]:yLI).length) ([]:yLI).length b)),0):=by
 show yg b parts=(gath [] (begins [] (packs parts (parts.length - 0) 0 b)),0)
 replace h1:¬ (gath [] (begins [] (packs parts (parts.length - 0) 0 b))).length > 2000:=fun h=>h1 (by have:((gath [] (begins [] (packs parts (parts.length - 0) 0 b))).length:Int) > 2000:=qf;exact this)
 rw [begins_nil] at h1 ⊢
 have h2:¬ (packs parts parts.length 0 b).length > 2000:=fun h=>h1 (gath_all.2 h)
 rw [yg,if_neg h,if_neg h2,show parts.length - 0=parts.length from rfl,gath_few h2]
theorem fmap_le {α β:Type} {c:Nat} (g:α->List β):∀ (l:List α),(∀ x∈l,(g x).length<=c)->(l.flatMap g).length<=l.length * c
 | [],_=>by simp
 | x::l,h=>by
  have h1:=h x (List.mem_cons_self ..)
  have h2:=fmap_le g l fun y hy=>h y (List.mem_cons_of_mem _ hy)
  rw [List.flatMap_cons,List.length_append,List.length_cons,Nat.add_mul,Nat.one_mul]
  omega
theorem within_more (hP:PartsOk K parts) (hR:RestOk K rest) (hk:k < parts.length) {n:Int} (h0:0<=n) (h1:n < jF (parts[k]!) rest):
 within (parts[k]!) (jP rest (parts[k]!) (-n))=true:=by
 rw [within_iff]
 intro q hq
 obtain ⟨hl,hb,_⟩:=hP k hk
 rw [plus_get (by have:=hR.1;omega)]
 have a:=(take_get hP hR hk (show 0<=n+1 by omega) qf (q:=q) qf).1
 have d: -n * (parts[k]!)[q]! = -(n * (parts[k]!)[q]!):=Int.neg_mul ..
 have e: -(n+1) * (parts[k]!)[q]! = -((n+1) * (parts[k]!)[q]!):=Int.neg_mul ..
 have g:(n+1) * (parts[k]!)[q]! =n * (parts[k]!)[q]! +(parts[k]!)[q]! :=by rw [Int.add_mul,Int.one_mul]
 omega
theorem within_none (hP:PartsOk K parts) (hR:RestOk K rest) (hk:k < parts.length) (hb:jF (parts[k]!) rest < 1000):
 within (parts[k]!) (jP rest (parts[k]!) (-(jF (parts[k]!) rest)))=false:=by
 rw [Bool.eq_false_iff]
 intro hw
 rw [within_iff] at hw
 obtain ⟨hl,hbb,_⟩:=hP k hk
 have key:∀ j,j<=(parts[k]!).length->jF (parts[k]!) rest+1<=Qq (parts[k]!) rest j:=by
  intro j
  induction j with
  | zero=>intro _;rw [Qq];omega
  | succ j ih=>
   intro hj
   have hi:=ih qf
   rw [Qq]
   split
   ·next hpos=>
    have h1:=hw j qf
    rw [plus_get (by have:=hR.1;omega)] at h1
    have e: -(jF (parts[k]!) rest) * (parts[k]!)[j]! = -(jF (parts[k]!) rest * (parts[k]!)[j]!):=Int.neg_mul ..
    have g:(jF (parts[k]!) rest+1) * (parts[k]!)[j]! =jF (parts[k]!) rest * (parts[k]!)[j]! +(parts[k]!)[j]! :=by rw [Int.add_mul,Int.one_mul]
    have:=(Int.le_ediv_iff_mul_le hpos).2 (show (jF (parts[k]!) rest+1) * (parts[k]!)[j]! <=rest[j]! by omega)
    omega
   ·exact hi
 have:=key _ (Nat.le_refl _)
 unfold jF at this
 omega
theorem within_less {l m m' :yLI} (hl:l.length=K) (h:within l m=false) (hle:∀ q,q < K->m'[q]! <=m[q]!):within l m' =false:=by
 rw [Bool.eq_false_iff] at h ⊢
 intro hw
 rw [within_iff] at hw
 exact h (within_iff.2 fun q hq=>Int.le_trans (hw q hq) (hle q qf))
def Few (K:Nat) (rest:yLI):Prop:=∀ q,q < K->rest[q]! <=16
theorem Few.take (hF:Few K rest) (hP:PartsOk K parts) (hR:RestOk K rest) (hk:k < parts.length) {n:Int} (h0:0<=n) (h1:n<=jF (parts[k]!) rest):Few K (jP rest (parts[k]!) (-n)):=fun q hq=>by
 rw [plus_get (by have:=hR.1;omega)]
 have:=take_get hP hR hk h0 h1 hq
 have:=hF q hq
 omega
theorem times_few (hF:Few K rest) (hP:PartsOk K parts) (hR:RestOk K rest) (hk:k < parts.length):jF (parts[k]!) rest<=16:=by
 obtain ⟨hl,hb,j,hj,hpos⟩:=hP k hk
 have h1:=timesTo_le (l:=parts[k]!) (m:=rest) (k:=(parts[k]!).length) (j:=j) qf hpos
 have h2:rest[j]! / (parts[k]!)[j]! <=16:=by
  exact Int.le_trans (Int.ediv_le_self _ (hR.2 j hj).1) (hF j hj)
 unfold jF
 omega
theorem packs_ne {K:Nat} {parts:yLL} (hP:PartsOk K parts):∀ (f k:Nat) (rest:yLI),k+f=parts.length->RestOk K rest->Few K rest->FullTo parts rest k->packs parts f k rest≠[]
 | 0,k,rest,hk,hR,hF,hT=>by
  rw [packs_full (fun i hi=>hT i qf)];simp
 | f+1,k,rest,hk,hR,hF,hT=>by
  have hb:=times_bd hP hR (k:=k) qf
  have h16:=times_few hF hP hR (k:=k) qf
  have h1:=packs_ne hP f (k+1) (jP rest (parts[k]!) (-(jF (parts[k]!) rest))) qf (hR.take hP qf hb.1 (Int.le_refl _)) (hF.take hP hR qf hb.1 (Int.le_refl _)) (by
   refine FullTo.succ (fun i hi=>?_) (within_none hP hR qf qf)
   refine within_less (K:=K) (hP i qf).1 (hT i hi) fun q hq=>?_
   rw [plus_get (by have:=hR.1;omega)]
   exact (take_get hP hR qf hb.1 (Int.le_refl _) hq).2)
  obtain ⟨x,hx⟩:=List.exists_mem_of_ne_nil _ h1
  refine List.ne_nil_of_mem (a:=jF (parts[k]!) rest::x) ?_
  rw [packs,List.mem_flatMap]
  have e:(((jF (parts[k]!) rest).toNat:Nat):Int)=jF (parts[k]!) rest:=by omega
  refine ⟨(jF (parts[k]!) rest).toNat,List.mem_range.2 qf,List.mem_map.2 ⟨x,?_,by rw [e]⟩⟩
  rw [e];exact hx
theorem packs_few {K:Nat} {parts:yLL} (hP:PartsOk K parts):∀ (f k:Nat) (rest:yLI),k+(f+1)=parts.length->RestOk K rest->Few K rest->(packs parts (f+1) k rest).length<=17 ^ f
 | 0,k,rest,hk,hR,hF=>by
  have hb:=times_bd hP hR (k:=k) qf
  rw [packs_succ,packsTo_succ,List.length_append,List.length_map]
  have h1:jZ parts 0 k rest (jF (parts[k]!) rest).toNat=[]:=by
   rw [jZ,List.flatMap_eq_nil_iff]
   intro n hn
   rw [List.mem_range] at hn
   rw [packs_none (fun h=>?_),List.map_nil]
   have h2:=within_more hP hR (k:=k) qf (n:=(n:Int)) qf qf
   rw [h k qf] at h2
   cases h2
  rw [h1,List.length_nil,Nat.zero_add,packs]
  split <;> simp
 | f+1,k,rest,hk,hR,hF=>by
  have hb:=times_bd hP hR (k:=k) qf
  have h16:=times_few hF hP hR (k:=k) qf
  rw [packs]
  refine Nat.le_trans (fmap_le (c:=17 ^ f) _ _ fun n hn=>?_) ?_
  ·rw [List.mem_range] at hn
   rw [List.length_map]
   exact packs_few hP f (k+1) _ qf (hR.take hP qf qf qf) (hF.take hP hR qf qf qf)
  ·rw [List.length_range,Nat.pow_succ,Nat.mul_comm]
   exact Nat.mul_le_mul_left _ qf
theorem sum_few (hR:RestOk K rest) (h:Xh rest<=16):Few K rest:=by
 have key:∀ n,n<=rest.length->0<=sumTo rest n/\∀ q,q < n->rest[q]! <=sumTo rest n:=by
  intro n
  induction n with
  | zero=>intro _;exact ⟨by simp [sumTo],fun q hq=>by omega⟩
  | succ n ih=>
   intro hn
   have hi:=ih qf
   have hr:=hR.2 n (by have:=hR.1;omega)
   rw [sumTo]
   refine ⟨by omega,fun q hq=>?_⟩
   by_cases e:q=n
   ·subst e;omega
   ·have:=hi.2 q qf;omega
 intro q hq
 have:=(key rest.length (Nat.le_refl _)).2 q (by have:=hR.1;omega)
 unfold Xh at h
 omega
end
section
theorem l01Full_ok (w:World) (rest:yLI) (parts:yLL) {arest:yOA} {crest:Nat} {Frest:yLN} (hrest:zP w Frest arest crest rest) (hparts:zP w Fparts zL zH parts) (p0:XQ parts rest):Calls Tryz.prog 259 #[Sv arest rest.length crest,Sv zL parts.length zH] w (Ret (fun v w' =>v=Bv (dec (FullOk parts rest))) w):=by
 refine en func259 ntmps259 ?_
 have H:=((St.start w).arg hparts).arg hrest
 have nhrest:=qO hrest
 have nhparts:=qO hparts
 clear hrest hparts
 have N:=Fresh.nil w.heap.size
 refine zcr (sp (Bv false) (zjcc (sp (yI 0) (zjn (qV ?_)))))
 refine zA ((fun Z0 Z1=>fun m' ρ w1=>∃ (xQ:Env) (i:Nat),ρ=upd (upd (upd xQ 0 (Sv arest rest.length crest)) 1 (Sv zL parts.length zH)) 5 (yI i)/\((i:Int)<=parts.length)/\(FullTo parts rest i)/\m' =(parts.length - (i:Int)).toNat/\Fresh w.heap.size []/\St w w1 [] [Z0,Z1]) _ _) ((parts.length - (0:Int)).toNat) ⟨_,0,uE3,qf,qx,rfl,N,H⟩ ?_
 clear H N
 rintro m' ρ w2 ⟨xQ,i,rfl,i0,i1,rfl,N,H⟩
 refine zcc (sp (yI i) (sq 1 (oN rfl (sq 1 (zjn (cD rfl (fun h3=>?_) (fun h3=>?_)))))))
 ·refine qU (t_n (xU (qV (zcr (sq 1 (sp (yI i) ?_))))))
  obtain ⟨b4,o5,rfl⟩:=H.addr 1 rfl qf
  obtain ⟨ae7,ce7,Fe7,H⟩:=H.ji 1 rfl i i qf qf qf
  refine oI rfl rfl (oL rfl (H.xW 1 rfl 0 rfl) (sq 1 ?_))
  obtain ⟨t1,t2⟩:=p0.times (k:=i) qf
  refine sw (oq (l01Within_ok _ (parts[i]!) rest (H.get 0 rfl).1 (H.get 2 rfl).1 qg) H fun w9 H=>zjn (zT _ rfl (fun h11=>?_) (fun h11=>?_)))
  ·refine zcr (sp (Bv false) (zjr (zr5 (rH1 (Bv false) H ?_))))
   rw [xh (fun h=>by have:=h i qf;simp_all)]
  refine qU (b_n (t_n (xK (sp (yI i) (sw (zi i 1 rfl rfl qf (sq 1 (xP (qW (m' :=(parts.length - ((i+1):Int)).toNat) qf ⟨_,i+1,uE3,?_,?_,rfl,N,H.pick [] [2,3]⟩)))))))))
  ·omega
  ·exact i1.succ ‹_›
 refine zx4 (zcr (sp (Bv true) (zjr (rH1 (Bv true) H ?_))))
 rw [jS (show FullOk parts rest from fun j hj=>i1 j qf)]
def l01Pack_ok_S (f:Nat):Prop:=∀ {W0 w:World} {ps:List Prv} {Γ:List Fact} {Ns:List yLN} (rest:yLI) (parts:yLL) (jE:yLI) (out:yLL) (arest:yOA) (crest:Nat) (Frest:yLN) (zL:yOA) (zH:Nat) (Fparts:yLN) (abegin:yOA) (cbegin:Nat) (Fbegin:yLN) (bout:Nat) (raout:yOA) (rnout:Nat) (rcout:Nat) (rxout:List Value) (rFout:yLN) (H:St W0 w ((.box bout [Sv raout rnout rcout] 41)::(rr raout rnout rcout 27 1 rxout)::ps) ((sF false Frest arest crest rest)::(sF false Fparts zL zH parts)::(sF false Fbegin abegin cbegin jE)::(xN true rFout rxout out)::Γ)) (N:Fresh W0.heap.size (rFout::Ns)) (K0:Kept Ns Γ) (p0:jE.length+f=parts.length) (p1:XQ parts rest) (p2:out.length<=2000),Calls Tryz.prog 257 #[Sv arest rest.length crest,Sv zL parts.length zH,Sv abegin jE.length cbegin,pp bout 0] w (fun e w' =>∃ v,e=.returned v/\∃ (raout_:yOA) (rnout_:Nat) (rcout_:Nat) (rxout_:List Value) (rFout_:yLN),v=.tuple #[]/\Fresh W0.heap.size (rFout_::Ns)/\St W0 w' ((.box bout [Sv raout_ rnout_ rcout_] 41)::(rr raout_ rnout_ rcout_ 27 1 rxout_)::ps) ((sF false Frest arest crest rest)::(sF false Fparts zL zH parts)::(sF false Fbegin abegin cbegin jE)::(xN true rFout_ rxout_ (gath out (begins jE (packs parts (parts.length - jE.length) jE.length rest))))::Γ))
theorem l01Pack_ok_step (f:Nat) (IH:∀ k,k < f->l01Pack_ok_S k) (rest:yLI) (parts:yLL) (jE:yLI) (out:yLL) (arest:yOA) (crest:Nat) (Frest:yLN) (zL:yOA) (zH:Nat) (Fparts:yLN) (abegin:yOA) (cbegin:Nat) (Fbegin:yLN) (bout:Nat) (raout:yOA) (rnout:Nat) (rcout:Nat) (rxout:List Value) (rFout:yLN) (H:St W0 w ((.box bout [Sv raout rnout rcout] 41)::(rr raout rnout rcout 27 1 rxout)::ps) ((sF false Frest arest crest rest)::(sF false Fparts zL zH parts)::(sF false Fbegin abegin cbegin jE)::(xN true rFout rxout out)::Γ)) (N:Fresh W0.heap.size (rFout::Ns)) (K0:Kept Ns Γ) (p0:jE.length+f=parts.length) (p1:XQ parts rest) (p2:out.length<=2000):Calls Tryz.prog 257 #[Sv arest rest.length crest,Sv zL parts.length zH,Sv abegin jE.length cbegin,pp bout 0] w (fun e w' =>∃ v,e=.returned v/\∃ (raout_:yOA) (rnout_:Nat) (rcout_:Nat) (rxout_:List Value) (rFout_:yLN),v=.tuple #[]/\Fresh W0.heap.size (rFout_::Ns)/\St W0 w' ((.box bout [Sv raout_ rnout_ rcout_] 41)::(rr raout_ rnout_ rcout_ 27 1 rxout_)::ps) ((sF false Frest arest crest rest)::(sF false Fparts zL zH parts)::(sF false Fbegin abegin cbegin jE)::(xN true rFout_ rxout_ (gath out (begins jE (packs parts (parts.length - jE.length) jE.length rest))))::Γ)):=by
 refine en func257 ntmps257 ?_
 have nhrest:=qO (H.get 0 rfl).1
 have nhparts:=qO (H.get 1 rfl).1
 have nhbegin:=qO (H.get 2 rfl).1
 obtain rfl:=H.xB (α:=yLI) 1 rfl 3 rfl qj
 have p3:=p1.small
 refine zcr (sq 1 (oN rfl (sq 1 (zjcc (sq 2 (oN rfl (sq 1 (zjn (cE rfl (fun h1=>?_) (fun h1=>?_))))))))))
 ·refine zcc (sq 2 (sw (oq (l01Full_ok _ rest parts (H.get 0 rfl).1 (H.get 1 rfl).1 qg) H fun w3 H=>zjn (cP rfl (fun h5=>?_) (fun h5=>?_)))))
  ·refine c_cut (fun ρ w11=>∃ (xQ:Env) (a6:yOA) (c7:Nat) (a8:yOA) (c9:Nat) (G10:yLN),ρ=xQ/\Fresh W0.heap.size ((rFout++G10)::Ns)/\St W0 w11 ((.box bout [Sv a6 (out.length+1) c7] 41)::(rr a6 (out.length+1) c7 27 1 (rxout++[Sv a8 jE.length c9]))::ps) ((xN true (rFout++G10) (rxout++[Sv a8 jE.length c9]) (out++[jE]))::(sF true G10 a8 c9 jE)::(sF false Frest arest crest rest)::(sF false Fparts zL zH parts)::(sF false Fbegin abegin cbegin jE)::Γ)) ?_ ?_
   ·refine c_drawK2 rfl H [] [0,1,2,3] fun H=>?_
    have S:=H.jr [] (zR 0 4)
    refine rtl 0 S ?_
    refine rtl 1 S ?_
    refine rtl 2 S ?_
    refine rtl 4 S ?_
    refine jb [3,5] qh qm (jM rfl ?_ (jM rfl ?_ jd))
    ·refine zK (Sv raout out.length rcout) isAgg41 rfl (H.cell 0 rfl rfl) (⟨H.pick [] (zR 0 4),(ro 5 rfl ?_)⟩)
     have sz13:=H.base.size
     have lt14:=all_two (H.ltN (L:=[rFout]) [3]) (H.ltK (K0.behind 4 rfl))
     refine oc (Xe _ jE (H.get 2 rfl).1 qg) ?_
     rintro v18 w16 r18 x17
     replace H:=H.zt x17 r18
     obtain ⟨a19,c20,rfl,hc21,hm22⟩:=H.jm 0 rfl
     refine ⟨H.pick [] (zR 0 4),(ro 6 rfl (xx H underlying41 ti27 [Sv a19 jE.length c20] fun b23 w24 H=>⟨H.pick [] (zR 0 4),(ro 7 rfl ?_)⟩))⟩
     obtain ⟨G28,N,hn29,H⟩:=H.zh 1 rfl N (fun F hF b hb=>(List.mem_append.1 (show F∈[rFout]++Ns from hF)).elim (fun h=>(H.vz (L:=[rFout]) [3]) F h b hb) fun h=>H.XM (K0.behind 4 rfl) F h b hb)
     try dsimp only [List.set] at H
     refine zG H 3 rfl 0 rfl underlying41 ti27 rfl qj rfl rfl rfl qw qp qf fun a25 c26 w27 H=>?_
     try dsimp only [List.set] at H
     replace H:=H.yC 4 rfl 0 rfl
     replace N:Fresh W0.heap.size ((rFout++G28)::Ns):=(N.vW 2 [1,0] qo).join
     refine ⟨H.pick [] (zR 2 4),(rtl 8 (H.pick [] (zR 2 4)) ?_)⟩
     refine ro 9 rfl (zI H 2 [Sv a25 (out.length+1) c26] sizeOf41 fun w30 H=>?_)
     try dsimp only [List.set] at H
     refine ⟨H.pick [] (zR 2 4),(xA qh ((meet ⟨_,a25,c26,a19,c20,G28,(by exact rfl),N,H.vW 4 6 [2,3] (zR 0 5) qo qo⟩)))⟩
    have sz31:=H.base.size
    have lt32:=all_two (H.ltN (L:=[rFout]) [3]) (H.ltK (K0.behind 4 rfl))
    refine oc (Xe _ jE (H.get 2 rfl).1 qg) ?_
    rintro v36 w34 r36 x35
    replace H:=H.zt x35 r36
    obtain ⟨a37,c38,rfl,hc39,hm40⟩:=H.jm 0 rfl
    refine ⟨H.pick [] (zR 0 4),(jb [3,6] qh qm (jM rfl ?_ (jM rfl ?_ jd)))⟩
    ·refine zK (Sv raout out.length rcout) isAgg41 rfl (H.cell 1 rfl rfl) (⟨H.pick [] (zR 0 4),(ro 6 rfl (xx H underlying41 ti27 [Sv a37 jE.length c38] fun b41 w42 H=>⟨H.pick [] (zR 0 4),(ro 7 rfl ?_)⟩))⟩)
     obtain ⟨G46,N,hn47,H⟩:=H.zh 1 rfl N (fun F hF b hb=>(List.mem_append.1 (show F∈[rFout]++Ns from hF)).elim (fun h=>(H.vz (L:=[rFout]) [3]) F h b hb) fun h=>H.XM (K0.behind 4 rfl) F h b hb)
     try dsimp only [List.set] at H
     refine zG H 3 rfl 0 rfl underlying41 ti27 rfl qj rfl rfl rfl qw qp qf fun a43 c44 w45 H=>?_
     try dsimp only [List.set] at H
     replace H:=H.yC 4 rfl 0 rfl
     replace N:Fresh W0.heap.size ((rFout++G46)::Ns):=(N.vW 2 [1,0] qo).join
     refine ⟨H.pick [] (zR 2 4),(rtl 8 (H.pick [] (zR 2 4)) ?_)⟩
     refine ro 9 rfl (zI H 2 [Sv a43 (out.length+1) c44] sizeOf41 fun w48 H=>?_)
     try dsimp only [List.set] at H
     refine ⟨H.pick [] (zR 2 4),(xA qh ((meet ⟨_,a43,c44,a37,c38,G46,(by exact rfl),N,H.vW 4 6 [2,3] (zR 0 5) qo qo⟩)))⟩
    refine xx H underlying41 ti27 [Sv a37 jE.length c38] fun b49 w50 H=>⟨H.pick [] (zR 0 4),(ro 3 rfl (zK (Sv raout out.length rcout) isAgg41 rfl (H.cell 2 rfl rfl) (⟨H.pick [] (zR 0 4),(ro 7 rfl ?_)⟩)))⟩
    obtain ⟨G54,N,hn55,H⟩:=H.zh 1 rfl N (fun F hF b hb=>(List.mem_append.1 (show F∈[rFout]++Ns from hF)).elim (fun h=>(H.vz (L:=[rFout]) [3]) F h b hb) fun h=>H.XM (K0.behind 4 rfl) F h b hb)
    try dsimp only [List.set] at H
    refine zG H 3 rfl 0 rfl underlying41 ti27 rfl qj rfl rfl rfl qw qp qf fun a51 c52 w53 H=>?_
    try dsimp only [List.set] at H
    replace H:=H.yC 4 rfl 0 rfl
    replace N:Fresh W0.heap.size ((rFout++G54)::Ns):=(N.vW 2 [1,0] qo).join
    refine ⟨H.pick [] (zR 2 4),(rtl 8 (H.pick [] (zR 2 4)) ?_)⟩
    refine ro 9 rfl (zI H 2 [Sv a51 (out.length+1) c52] sizeOf41 fun w56 H=>?_)
    try dsimp only [List.set] at H
    refine ⟨H.pick [] (zR 2 4),(xA qh ((meet ⟨_,a51,c52,a37,c38,G54,(by exact rfl),N,H.vW 4 6 [2,3] (zR 0 5) qo qo⟩)))⟩
   clear H N
   rintro ρ w57 ⟨xQ,a6,c7,a8,c9,G10,rfl,N,H⟩
   refine t_n (c_ret (t_r (ret0' rfl ⟨_,rfl,?_⟩)))
   rw [pack_full qf ‹_› p2]
   exact ⟨a6,out.length+1,c7,rxout++[Value.slice a8 jE.length c9],(rFout++G10),rfl,N,H.vW 2 5 [0,1] [2,3,4,0] qo qo⟩
  refine qU (t_n (c_ret (t_r (ret0' rfl ⟨_,rfl,?_⟩))))
  rw [pack_none qf ‹_› p2]
  exact ⟨raout,out.length,rcout,rxout,rFout,rfl,N,H.vW 2 4 [0,1] (zR 0 4) qo qo⟩
 refine qU (t_n (zcr (sp (yI 0) (zjn (qV ?_)))))
 obtain ⟨t1,t2,t3,t4,t5,t6⟩:=p1.times (k:=jE.length) qf
 refine zA ((fun Z0 Z1 Z2=>fun m' ρ w58=>∃ (xQ:Env) (n:Nat) (jl:yOA) (vC:Nat) (jh:Nat) (out_1:yLL) (Xk:List Value) (yZ:yLN),ρ=upd (upd (upd (upd (upd (upd xQ 0 (Sv arest rest.length crest)) 1 (Sv zL parts.length zH)) 2 (Sv abegin jE.length cbegin)) 3 (pp bout 0)) 8 (yI jE.length)) 9 (yI n)/\out_1=gath out (begins jE (jZ parts (f - 1) jE.length rest n))/\((n:Int)<=jF (parts[jE.length]!) rest+1)/\m' =(jF (parts[jE.length]!) rest+1 - (n:Int)).toNat/\Fresh W0.heap.size (yZ::Ns)/\St W0 w58 ((.box bout [Sv jl vC jh] 41)::(rr jl vC jh 27 1 Xk)::ps) (Z0::Z1::Z2::(xN true yZ Xk out_1)::Γ)) _ _ _) ((jF (parts[jE.length]!) rest+1 - (0:Int)).toNat) ⟨_,0,raout,out.length,rcout,out,rxout,rFout,uE6,(by exact pack_start p2),qf,rfl,N,H⟩ ?_
 clear H N
 rintro m' ρ w59 ⟨xQ,n,jl,vC,jh,out_1,Xk,yZ,rfl,rfl,i0,rfl,N,H⟩
 have hn_out:=H.xB (α:=yLI) 1 rfl 3 rfl qj
 have gl:=gath_len out (begins jE (jZ parts (f - 1) jE.length rest n))
 refine zcc (sp (yI n) (sq 2 ?_))
 obtain ⟨b60,o61,rfl⟩:=H.addr 1 rfl qf
 obtain ⟨ae63,ce63,Fe63,H⟩:=H.ji 1 rfl jE.length jE.length qf qf qf
 refine oI rfl rfl (oL rfl (H.xW 1 rfl 0 rfl) (sq 1 ?_))
 obtain ⟨t1,t2,t3,t4,t5,t6⟩:=p1.times (k:=jE.length) qf
 refine sw (oq (l01Times_ok _ (parts[jE.length]!) rest (H.get 0 rfl).1 (H.get 2 rfl).1 qg qg qg) H fun w65 H=>sp (Bv (decide ((n:Int)<=(jF (parts[jE.length]!) rest)))) (sp (Bv (decide ((n:Int)<=(jF (parts[jE.length]!) rest)))) ?_))
 cases h67:(decide ((n:Int)<=(jF (parts[jE.length]!) rest)))
 ·replace h67:=of_decide_eq_false h67
  refine xR (zR 37 5) (sp (Bv false) (zjn (cFr rfl (c_exit (t_x (t_x (b_x (ret0 rfl ⟨_,rfl,?_⟩))))))))
  rw [pack_end p0 qf qf qf (by first | (left;omega) | (right;omega))]
  exact ⟨jl,vC,jh,Xk,yZ,rfl,N,H.vW 2 6 [0,1] (zR 2 4) qo qo⟩
 replace h67:=of_decide_eq_true h67
 refine qJ 36 rfl rfl (sq 1 (qJ 36 rfl rfl (sq 1 (qJ 36 rfl rfl (oL rfl (H.cell 0 rfl rfl) (qJ 36 rfl rfl (oN rfl (qJ 36 rfl rfl (sp (Bv (decide ((vC:Int)<=2000))) (sp (Bv (decide ((vC:Int)<=2000))) (zjn (cD rfl (fun h68=>?_) (fun h68=>?_)))))))))))))
 ·refine qU (t_n (xU (qV (xK (sq 3 (oI rfl rfl (oL rfl (H.xW 1 rfl 0 rfl) (sp (yI n) (sw (o_neg n rfl qf ?_))))))))))
  obtain ⟨u1,u2,u3,u4⟩:=p1.plus (k:=jE.length) qf (n:=(n:Int)) qf qf
  have sz69:=H.base.size
  have lt70:=all_two (H.ltN (L:=[yZ]) [5]) (H.ltK (K0.behind 6 rfl))
  refine sw (oc (Xi _ rest (parts[jE.length]!) (-n) (H.get 2 rfl).1 (H.get 0 rfl).1 qg qg qg) ?_)
  rintro v74 w72 r74 x73
  replace H:=H.zt x73 r74
  obtain ⟨a75,c76,rfl,hc77,hm78⟩:=H.jm 0 rfl
  refine sq 2 ?_
  have sz79:=H.base.size
  have lt80:=all_two (H.ltN (L:=[yZ]) [5]) (H.ltK (K0.behind 6 rfl))
  refine sw (oc (Xe _ jE (H.get 4 rfl).1 qg) ?_)
  rintro v84 w82 r84 x83
  replace H:=H.zt x83 r84
  obtain ⟨a85,c86,rfl,hc87,hm88⟩:=H.jm 0 rfl
  refine sp (yI n) (sw (xx H underlying27 ti2 [yI n] fun b89 w90 H=>sw (zG H 1 rfl 0 rfl underlying27 ti2 rfl qj rfl rfl rfl qw qp qf fun a91 c92 w93 H=>?_)))
  rw [snocI] at H
  try dsimp only [List.set] at H
  refine sq 1 ?_
  obtain ⟨G94,N,hn95,H⟩:=H.zh 2 rfl N (fun F hF b hb=>(List.mem_append.1 (show F∈[yZ]++Ns from hF)).elim (fun h=>(H.vz (L:=[yZ]) [5]) F h b hb) fun h=>H.XM (K0.behind 6 rfl) F h b hb)
  try dsimp only [List.set] at H
  replace H:=H.ja 0 rfl
  obtain ⟨G96,N,hn97,H⟩:=H.zh 1 rfl N (fun F hF b hb=>(List.mem_append.1 (show F∈[G94,yZ]++Ns from hF)).elim (fun h=>(H.vz (L:=[G94,yZ]) [0,7]) F h b hb) fun h=>H.XM (K0.behind 8 rfl) F h b hb)
  try dsimp only [List.set] at H
  replace H:=H.ja 0 rfl
  have hn98:=H.isLen 0 rfl
  have H1:St W0 w93 ((.box bout [Sv jl vC jh] 41)::(.row (Sv jl vC jh) 27 1 vC Xk)::(.box b89 [yI n] 2)::(.row yN 0 1 0 [])::(.row yN 0 1 0 [])::ps) ((isF false G94 (Sv a75 ((jP rest (parts[jE.length]!) (-n)).length) c76) (jP rest (parts[jE.length]!) (-n)))::(isF false Fparts (Sv (aa b60 o61) parts.length zH) parts)::(isF false G96 (Sv a91 ((jE++[(n:Int)]).length) c92) (jE++[(n:Int)]))::(xN true yZ Xk (gath out (begins jE (jZ parts (f - 1) jE.length rest n))))::(isF false G96 (Sv a91 (jE.length+1) c92) (jE++[(n:Int)]))::(isF true G96 (Sv a91 (jE.length+1) c92) (jE++[(n:Int)]))::(isF false G94 (Sv a75 ((jP rest (parts[jE.length]!) (-n)).length) c76) (jP rest (parts[jE.length]!) (-n)))::(isF true G94 (Sv a75 ((jP rest (parts[jE.length]!) (-n)).length) c76) (jP rest (parts[jE.length]!) (-n)))::(isF false Fe63 (Sv ae63 ((parts[jE.length]!).length) ce63) (parts[jE.length]!))::(atF b60 (o61+(jE.length:Int).toNat * 1) [Sv ae63 ((parts[jE.length]!).length) ce63])::(isF false Frest (Sv arest rest.length crest) rest)::(isF false Fparts (Sv (aa b60 o61) parts.length zH) parts)::(isF false Fbegin (Sv abegin jE.length cbegin) jE)::Γ):=by (try rw [← hn98]);exact H.vW 5 10 [3,4,0,1,2] (2::7::0::9::zR 0 9) qo qo
  have N1:Fresh _ (yZ::G96::G94::Ns):=(N.vW 3 [2,0,1] qo)
  have K1:Kept (Ns) ((isF false G96 (Sv a91 (jE.length+1) c92) (jE++[(n:Int)]))::(isF true G96 (Sv a91 (jE.length+1) c92) (jE++[(n:Int)]))::(sF false G94 a75 c76 (jP rest (parts[jE.length]!) (-n)))::(sF true G94 a75 c76 (jP rest (parts[jE.length]!) (-n)))::(sF false Fe63 ae63 ce63 (parts[jE.length]!))::(atF b60 (o61+(jE.length:Int).toNat * 1) [Sv ae63 ((parts[jE.length]!).length) ce63])::(sF false Frest arest crest rest)::(sF false Fparts (aa b60 o61) zH parts)::(sF false Fbegin abegin cbegin jE)::Γ):=K0.behind 9 rfl
  replace K1:=K1.cons (F:=G94) 2 rfl rfl
  replace K1:=K1.cons (F:=G96) 0 rfl rfl
  refine sw (jg #[Sv a75 ((jP rest (parts[jE.length]!) (-n)).length) c76,Sv (aa b60 o61) parts.length zH,Sv a91 (jE.length+1) c92,pp bout 0] rfl rfl call257 (jo (by first | rfl | rw [hn98]) (IH (f - 1) qf (jP rest (parts[jE.length]!) (-n)) parts (jE++[(n:Int)]) (gath out (begins jE (jZ parts (f - 1) jE.length rest n))) a75 c76 G94 (aa b60 o61) zH Fparts a91 c92 G96 bout jl vC jh Xk yZ H1 N1 K1 (by simp only [List.length_append,List.length_cons,List.length_nil];omega) (by first | assumption | exact u4) (by first | assumption | (simp only [List.length_nil];omega) | omega))) ?_)
  clear H H1 N1 K1
  rintro _ w99 ⟨ra100,rn100,rc100,rx100,rF100,rfl,N,H⟩
  obtain rfl:=H.xB (α:=yLI) 1 rfl 3 rfl qj
  refine xP (b_n (t_n (xK (sp (yI n) (sw (zi n 1 rfl rfl qf (sq 1 (xP (qW (m' :=(jF (parts[jE.length]!) rest+1 - ((n+1):Int)).toNat) qf ⟨_,n+1,_,_,_,_,_,_,uE6,?_,?_,rfl,(N.vW 3 [0] qo),H.vW 5 13 [0,1] [10,11,12,3] qo qo⟩)))))))))
  ·exact pack_step p0 qf qf
  ·omega
 refine c_exit (t_x (t_x (b_x (ret0 rfl ⟨_,rfl,?_⟩))))
 rw [pack_end p0 qf qf qf (by first | (left;omega) | (right;omega))]
 exact ⟨jl,vC,jh,Xk,yZ,rfl,N,H.vW 2 6 [0,1] (zR 2 4) qo qo⟩
theorem l01Pack_ok (f:Nat):l01Pack_ok_S f:=Nat.strongRecOn (motive:=l01Pack_ok_S) f fun f IH=>by unfold l01Pack_ok_S;intros;apply l01Pack_ok_step f IH <;> assumption
theorem l01All_ok (w:World) (b:yLI) (parts:yLL) (hb:zP w Fb ab cb b) (hparts:zP w Fparts zL zH parts) (p0:XQ parts b):Calls Tryz.prog 249 #[Sv ab b.length cb,Sv zL parts.length zH] w (Ret (fun v w' =>∃ (ra0:yOA) (rn0:Nat) (rc0:Nat) (rx0:List Value) (rF0:yLN),v=.tuple #[Sv ra0 rn0 rc0,yI ((yg b parts).2)]/\Fresh w.heap.size [rF0]/\St w w' [rr ra0 rn0 rc0 27 1 rx0] [xN true rF0 rx0 ((yg b parts).1)]) w):=by
 refine en func249 ntmps249 ?_
 have H:=((St.start w).arg hparts).arg hb
 have nhb:=qO hb
 have nhparts:=qO hparts
 clear hb hparts
 have N:=Fresh.nil w.heap.size
 have p3:=p0.small
 have p4:=p0.smallB
 refine zcr (sq 1 (sp (yI 0) (zjcc (sq 1 (sw (oq (X4 _ b (H.get 0 rfl).1 (by first | assumption | exact vP ql | exact yX ql)) H fun w1 H=>sp (Bv (decide ((Xh b:Int) > 16))) (zjn (cD rfl (fun h3=>?_) (fun h3=>?_)))))))))
 ·refine zcr (sw (zW H underlying41 ti27 fun b4 w5 H=>sq 1 (sp (yI 3) (zjr (t_r ?_)))))
  replace H:=H.boxRow 0 rfl 1 0 rfl qj
  replace H:=H.vV (α:=yLI)
  refine ret2 (Sv (aa b4 0) 0 0) (yI 3) rfl rfl rfl ⟨_,rfl,?_,H.base⟩
  first | rw [all_a ql] | rw [all_b ql ql]
  exact ⟨(aa b4 0),0,0,[],[],rfl,N.emp,H.pick [0] [0]⟩
 refine qU (t_n (zcr (sw (zW H underlying41 ti27 fun b6 w7 H=>sw (xH H ti41 [yN] fun b8 w9 H=>sw (zI H 0 [Sv (aa b6 0) 0 0] sizeOf41 fun w10 H=>zjc (sq 2 (sw (zW H underlying27 ti2 fun b11 w12 H=>?_)))))))))
 replace H:=H.vI 0 [] 0
 obtain ⟨G13,N,hn14,H⟩:=H.zh 0 rfl N (H.vz [])
 replace H:=H.ja 0 rfl
 have hn15:=H.isLen 0 rfl
 replace H:=H.boxRow 2 rfl 1 0 rfl qj
 replace H:=H.vV (α:=yLI)
 have H1:St w w12 [.box b8 [Sv (aa b6 0) 0 0] 41,.row (Sv (aa b6 0) 0 0) 27 1 0 [],.row yN 0 1 0 []] [isF false Fb (Sv ab b.length cb) b,isF false Fparts (Sv zL parts.length zH) parts,isF false G13 (Sv (aa b11 0) (([]:yLI).length) 0) ([]:yLI),xN true [] [] ([]:yLL),isF false G13 (Sv (aa b11 0) 0 0) ([]:yLI),isF true G13 (Sv (aa b11 0) 0 0) ([]:yLI),isF false Fb (Sv ab b.length cb) b,isF false Fparts (Sv zL parts.length zH) parts]:=by (try rw [← hn15]);exact H.pick [1,2,0] [3,4,1,0,1,2,3,4]
 have N1:Fresh _ [[],G13]:=N.emp
 have K1:Kept [] [isF false G13 (Sv (aa b11 0) 0 0) ([]:yLI),isF true G13 (Sv (aa b11 0) 0 0) ([]:yLI),sF false Fb ab cb b,sF false Fparts zL zH parts]:=Kept.nil _
 replace K1:=K1.cons (F:=G13) 0 rfl rfl
 refine sw (jg #[Sv ab b.length cb,Sv zL parts.length zH,Sv (aa b11 0) 0 0,pp b8 0] rfl rfl call257 (jo (by first | rfl | rw [hn15]) (l01Pack_ok (parts.length - ([]:yLI).length) b parts ([]:yLI) ([]:yLL) ab cb Fb zL zH Fparts (aa b11 0) 0 G13 b8 (aa b6 0) 0 0 [] [] H1 N1 K1 (by simp only [List.length_append,List.length_cons,List.length_nil];omega) (by first | assumption | exact u4) (by first | assumption | (simp only [List.length_nil];omega) | omega))) ?_)
 clear H H1 N1 K1
 rintro _ w16 ⟨ra17,rn17,rc17,rx17,rF17,rfl,N,H⟩
 obtain rfl:=H.xB (α:=yLI) 1 rfl 3 rfl qj
 refine zjcc (oL rfl (H.cell 0 rfl rfl) (oN rfl (sp (Bv (decide (((gath ([]:yLL) (begins ([]:yLI) (packs parts (parts.length - ([]:yLI).length) ([]:yLI).length b))).length:Int) > 2000))) (zjn (cD rfl (fun h18=>?_) (fun h18=>?_))))))
 ·refine zcr (sw (zW H underlying41 ti27 fun b19 w20 H=>sq 1 (sp (yI 3) (zjr (t_r ?_)))))
  replace H:=H.boxRow 0 rfl 1 0 rfl qj
  replace H:=H.vV (α:=yLI)
  refine ret2 (Sv (aa b19 0) 0 0) (yI 3) rfl rfl rfl ⟨_,rfl,?_,H.base⟩
  first | rw [all_a ql] | rw [all_b ql ql]
  exact ⟨(aa b19 0),0,0,[],[],rfl,(N.emp.pick [0]),H.pick [0] [0]⟩
 refine qU (t_n (zcr (oL rfl (H.cell 0 rfl rfl) (sq 1 (sp (yI 0) (zjr (ret2 (Sv ra17 ((gath ([]:yLL) (begins ([]:yLI) (packs parts (parts.length - ([]:yLI).length) ([]:yLI).length b))).length) rc17) (yI 0) rfl rfl rfl ⟨_,rfl,?_,H.base⟩)))))))
 rw [all_0 ql ql]
 exact ⟨ra17,(gath ([]:yLL) (begins ([]:yLI) (packs parts (parts.length - ([]:yLI).length) ([]:yLI).length b))).length,rc17,rx17,rF17,rfl,(N.pick [0]),H.pick [1] [3]⟩
end
section
def ahead (a b:yLI):Prop:=∃ i,i < a.length/\(∀ j,j < i->a[j]! =b[j]!)/\a[i]! < b[i]!
def SameTo (a b:yLI) (k:Nat):Prop:=∀ j,j < k->a[j]! =b[j]!
theorem SameTo.succ (h:SameTo a b k) (h1:a[k]! =b[k]!):SameTo a b (k+1):=fun j hj=>by
 by_cases e:j=k
 ·subst e;exact h1
 ·exact h j qf
theorem ahead_yes (h:SameTo a b k) (hk:k < a.length) (h1:a[k]! < b[k]!):ahead a b:=⟨k,hk,h,h1⟩
theorem ahead_no (h:SameTo a b k) (h1:¬ a[k]! < b[k]!) (h2:a[k]! ≠b[k]!):¬ ahead a b:=by
 rintro ⟨i,hi,hs,hl⟩
 rcases Nat.lt_or_ge i k with hik | hik
 ·rw [h i hik] at hl;omega
 ·rcases Nat.lt_or_eq_of_le hik with hki | hki
  ·exact h2 (hs k hki)
  ·subst hki;exact h1 hl
theorem ahead_same (h:SameTo a b a.length):¬ ahead a b:=by
 rintro ⟨i,hi,_,hl⟩
 rw [h i hi] at hl;omega
theorem ahead_irr (a:yLI):¬ ahead a a:=ahead_same fun _ _=>rfl
theorem ahead_trans {c:yLI} (hab:a.length=b.length) (h1:ahead a b) (h2:ahead b c):ahead a c:=by
 obtain ⟨i,hi,hs,hl⟩:=h1
 obtain ⟨k,hk,ht,hm⟩:=h2
 rcases Nat.lt_or_ge i k with h | h
 ·exact ⟨i,hi,fun j hj=>(hs j hj).trans (ht j qf),by rw [← ht i h];exact hl⟩
 ·rcases Nat.lt_or_eq_of_le h with h' | h'
  ·exact ⟨k,by omega,fun j hj=>(hs j qf).trans (ht j hj),by rw [hs k h'];exact hm⟩
  ·subst h'
   exact ⟨k,hi,fun j hj=>(hs j hj).trans (ht j hj),by omega⟩
theorem ahead_tri (hl:a.length=b.length) (h1:¬ ahead a b) (h2:¬ ahead b a):a=b:=by
 have key:∀ k,k<=a.length->SameTo a b k:=by
  intro k
  induction k with
  | zero=>intro _ j hj;omega
  | succ k ih=>
   intro hk
   have hs:=ih qf
   refine hs.succ ?_
   apply Classical.byContradiction
   intro hne
   rcases Int.lt_or_gt_of_ne hne with h | h
   ·exact h1 ⟨k,by omega,hs,h⟩
   ·exact h2 ⟨k,by omega,fun j hj=>(hs j hj).symm,h⟩
 exact ext_get hl fun k hk=>key _ (Nat.le_refl _) k hk
def InOrder (l:yLL):Prop:=l.Pairwise fun a b=>¬ ahead b a
theorem order_one {n:Nat}:∀ {l m:yLL},(∀ x∈l,x.length=n)->l.Perm m->InOrder l->InOrder m->l=m
 | [],m,_,hp,_,_=>(List.Perm.nil_eq hp)
 | x::l,m,hn,hp,hl,hm=>by
  cases m with
  | nil=>exact absurd hp.length_eq qm
  | cons y m=>
   have hl' :=List.pairwise_cons.1 hl
   have hm' :=List.pairwise_cons.1 hm
   have hy:y∈x::l:=hp.symm.subset (List.mem_cons_self ..)
   have hx:x∈y::m:=hp.subset (List.mem_cons_self ..)
   have e:x=y:=by
    rcases List.mem_cons.1 hx with h | h
    ·exact h
    ·rcases List.mem_cons.1 hy with h' | h'
     ·exact h'.symm
     ·exact ahead_tri ((hn x (List.mem_cons_self ..)).trans (hn y (List.mem_cons_of_mem _ h')).symm) (hm'.1 x h) (hl'.1 y h')
   subst e
   rw [order_one (fun z hz=>hn z (List.mem_cons_of_mem _ hz)) (List.Perm.cons_inv hp) hl'.2 hm'.2]
def swapAt (l:yLL) (k:Nat):yLL:=(l.set k (l[k - 1]!)).set (k - 1) (l[k]!)
def OrderTo (l:yLL) (k:Nat):Prop:=InOrder (l.take k)
theorem orderTo_iff (hk:k<=l.length):OrderTo l k<->∀ i j,i < j->j < k->¬ ahead (l[j]!) (l[i]!):=by
 unfold OrderTo InOrder
 rw [List.pairwise_iff_getElem]
 constructor
 ·intro h i j hij hj
  have:=h i j (by rw [List.length_take];omega) (by rw [List.length_take];omega) hij
  rw [List.getElem_take,List.getElem_take] at this
  rwa [getElem!_pos l i qf,getElem!_pos l j qf]
 ·intro h i j hi hj hij
  rw [List.length_take] at hi hj
  rw [List.getElem_take,List.getElem_take,← getElem!_pos l i qf,← getElem!_pos l j qf]
  exact h i j hij qf
theorem swap_len (l:yLL) (k:Nat):(swapAt l k).length=l.length:=by simp [swapAt]
theorem swap_get {p:Nat} (hk:0 < k) (hl:k < l.length):(swapAt l k)[p]! =if p=k - 1 then l[k]! else if p=k then l[k - 1]! else l[p]! :=by
 unfold swapAt
 rw [getset (by rw [List.length_set];omega),getset hl]
theorem swap_perm (hk:0 < k) (hl:k < l.length):(swapAt l k).Perm l:=by
 obtain ⟨j,rfl⟩:∃ j,k=j+1:=⟨k - 1,by omega⟩
 have e1:l=l.take j++(l[j]! :: l[j+1]! :: l.drop (j+2)):=by
  rw [getElem!_pos l j qf,getElem!_pos l (j+1) hl]
  conv=>lhs;rw [← List.take_append_drop j l]
  rw [List.drop_eq_getElem_cons (show j < l.length by omega),List.drop_eq_getElem_cons hl]
 have e2:swapAt l (j+1)=l.take j++(l[j+1]! :: l[j]! :: l.drop (j+2)):=by
  have hlen:(l.take j).length=j:=List.length_take_of_le qf
  refine ext_get (by rw [swap_len];simp;omega) fun p hp=>?_
  rw [swap_len] at hp
  rw [swap_get hk hl]
  have hp' :p < (l.take j++(l[j+1]! :: l[j]! :: l.drop (j+2))).length:=by simp;omega
  rw [getElem!_pos (l.take j++(l[j+1]! :: l[j]! :: l.drop (j+2))) p hp']
  by_cases h1:p < j
  ·rw [if_neg qf,if_neg qf,List.getElem_append_left qf,List.getElem_take,getElem!_pos l p hp]
  ·rw [List.getElem_append_right qf]
   simp only [hlen]
   by_cases h2:p=j
   ·subst h2;simp
   ·by_cases h3:p=j+1
    ·subst h3;simp
    ·rw [if_neg qf,if_neg qf]
     obtain ⟨q,rfl⟩:∃ q,p=j+2+q:=⟨p - (j+2),by omega⟩
     rw [getElem!_pos l _ hp]
     have:j+2+q - j=q+1+1:=by omega
     simp only [this,List.getElem_cons_succ,List.getElem_drop]
 rw [e2]
 conv=>rhs;rw [e1]
 exact List.Perm.append_left _ (List.Perm.swap ..)
def InsTo (l:yLL) (i k:Nat):Prop:=∀ a b,a < b->b<=i->b≠k->¬ ahead (l[b]!) (l[a]!)
theorem InsTo.start (h:∀ a b,a < b->b < i->¬ ahead (l[b]!) (l[a]!)):InsTo l i i:=fun a b hab hb hne=>h a b hab qf
theorem InsTo.down (h:InsTo l i k) (hn:∀ j,j < l.length->(l[j]!).length=n) (hk:0 < k) (hki:k<=i) (hi:i < l.length) (h1:ahead (l[k]!) (l[k - 1]!)):InsTo (swapAt l k) i (k - 1):=by
 intro a b hab hb hne
 have hlk:=hn k qf
 have hlk1:=hn (k - 1) qf
 rw [swap_get hk qf,swap_get hk qf,if_neg hne]
 by_cases hbk:b=k
 ·subst hbk
  rw [if_pos rfl]
  by_cases ha:a=b - 1
  ·rw [if_pos ha]
   intro h2
   exact ahead_irr _ (ahead_trans qf h1 h2)
  ·rw [if_neg ha,if_neg qf]
   exact h a (b - 1) qf qf qf
 ·rw [if_neg hbk]
  by_cases ha:a=k - 1
  ·rw [if_pos ha];exact h k b qf hb hbk
  ·rw [if_neg ha]
   by_cases hak:a=k
   ·rw [if_pos hak];exact h (k - 1) b qf hb hbk
   ·rw [if_neg hak];exact h a b hab hb hbk
theorem InsTo.stop (h:InsTo l i k) (hn:∀ j,j < l.length->(l[j]!).length=n) (hki:k<=i) (hi:i < l.length) (h1:k=0\/¬ ahead (l[k]!) (l[k - 1]!)):∀ a b,a < b->b < i+1->¬ ahead (l[b]!) (l[a]!):=by
 intro a b hab hb
 by_cases hbk:b=k
 ·subst hbk
  have h1:¬ ahead (l[b]!) (l[b - 1]!):=h1.resolve_left qf
  by_cases ha:a=b - 1
  ·subst ha;exact h1
  ·intro h2
   have h3:=h a (b - 1) qf qf qf
   have hla:=hn a qf
   have hlb:=hn b qf
   have hlb1:=hn (b - 1) qf
   by_cases h4:ahead (l[a]!) (l[b - 1]!)
   ·exact h1 (ahead_trans qf h2 h4)
   ·have e:=ahead_tri qf h4 h3
    rw [e] at h2;exact h1 h2
 ·exact h a b hab qf hbk
noncomputable def cellT (s:qG) (t:qH) (k c:Nat):yLI:=(applL s t k).filter fun x=>decide ((s.qE[x.toNat]!).qR=(c:Int))
theorem cellT_yes (h:Appl s t k) (hc:(s.qE[k]!).qR=(c:Int)):cellT s t k c++[(k:Int)]=cellT s t (k+1) c:=by
 unfold cellT;rw [← applL_yes h,List.filter_append,List.filter_cons_of_pos (by rw [Int.toNat_natCast];exact decide_eq_true hc),List.filter_nil]
theorem Xc (h:¬ Appl s t k):cellT s t k c=cellT s t (k+1) c:=by
 unfold cellT;rw [← applL_no h]
theorem QO (h:¬ (s.qE[k]!).qR=(c:Int)):cellT s t k c=cellT s t (k+1) c:=by
 by_cases ha:Appl s t k
 ·unfold cellT;rw [← applL_yes ha,List.filter_append,List.filter_cons_of_neg (by rw [Int.toNat_natCast];simpa only [decide_eq_true_eq] using h),List.filter_nil,List.append_nil]
 ·exact Xc ha
def vT (s:qG) (l:yLI):yLL:=l.map fun x=>(s.qE[x.toNat]!).vF
theorem Xt (s:qG) (l:yLI):(vT s l).length=l.length:=by simp [vT]
theorem needs_snoc (s:qG) (l:yLI) (x:Int):vT s l++[(s.qE[x.toNat]!).vF]=vT s (l++[x]):=by simp [vT]
theorem needs_yes (h:Appl s t k) (hc:(s.qE[k]!).qR=(c:Int)):vT s (cellT s t k c)++[(s.qE[k]!).vF]=vT s (cellT s t (k+1) c):=by
 rw [← cellT_yes h hc];exact needs_snoc s _ (k:Int)
theorem needs_take {l:yLI} (h:k < l.length):vT s (l.take k)++[(s.qE[(l[k]!).toNat]!).vF]=vT s (l.take (k+1)):=by rw [needs_snoc,take_snoc h]
theorem needs_get {l:yLI} (h:k < l.length):(vT s l)[k]! =(s.qE[(l[k]!).toNat]!).vF:=by
 rw [getElem!_pos (vT s l) k (by rw [Xt];exact h)];simp [vT,getElem!_pos l k h]
noncomputable def vU (s:qG) (t:qH) (c:Nat):yLI:=cellT s t s.qE.length c
noncomputable def cellP (s:qG) (t:qH) (c:Nat):yLL×Int:=yg (t.qP[c]!) (vT s (vU s t c))
theorem mem_cellT {x:Int} (h:x∈cellT s t k c):0<=x/\x.toNat < k/\Appl s t x.toNat/\(s.qE[x.toNat]!).qR=(c:Int):=by
 unfold cellT at h
 obtain ⟨h1,h2⟩:=List.mem_filter.1 h
 obtain ⟨a,b,d⟩:=mem_applL.1 h1
 exact ⟨a,b,d,by simpa using h2⟩
theorem cellT_at (h:j < (cellT s t k c).length):0<=(cellT s t k c)[j]! /\((cellT s t k c)[j]!).toNat < k/\Appl s t ((cellT s t k c)[j]!).toNat/\(s.qE[((cellT s t k c)[j]!).toNat]!).qR=(c:Int):=
 mem_cellT (by rw [getElem!_pos _ j h];exact List.getElem_mem h)
theorem cellR_at (h:j < (vU s t c).length):0<=(vU s t c)[j]! /\((vU s t c)[j]!).toNat < s.qE.length/\Appl s t ((vU s t c)[j]!).toNat/\(s.qE[((vU s t c)[j]!).toNat]!).qR=(c:Int):=cellT_at h
theorem ofCell_all {s:qG} (hs:yj s) (c:Int):∀ k,k<=s.qE.length->XG s.qE c k<=8
 | 0,_=>by simp [XG]
 | k+1,hk=>by
  have h:=ofCell_all hs c k qf
  by_cases e:(s.qE[k]!).qR=c
  ·have:=(hs.2.2 k qf).2;rw [e] at this;exact this
  ·rw [XG,if_neg e];omega
theorem cellT_len {s:qG} {t:qH} {c:Nat}:∀ k,((cellT s t k c).length:Int)<=XG s.qE (c:Int) k
 | 0=>by simp [cellT,applL,XG]
 | k+1=>by
  have h:=cellT_len (s:=s) (t:=t) (c:=c) k
  rw [XG]
  by_cases e:(s.qE[k]!).qR=(c:Int)
  ·rw [if_pos e]
   by_cases ha:Appl s t k
   ·rw [← cellT_yes ha e,List.length_append,List.length_singleton];omega
   ·rw [← Xc ha];omega
  ·rw [if_neg e,← QO e];omega
theorem cellT_le (s:qG) (t:qH) (k c:Nat):(cellT s t k c).length<=k:=Nat.le_trans (List.length_filter_le _ _) (applL_le s t k)
theorem cellR_len (hs:yj s) (c:Nat):(vU s t c).length<=8:=by
 have:=cellT_len (s:=s) (t:=t) (c:=c) s.qE.length
 have:=ofCell_all hs (c:Int) s.qE.length (Nat.le_refl _)
 unfold vU;omega
theorem cell_parts (hs:yj s) (c:Nat):PartsOk (Qm s) (vT s (vU s t c)):=by
 intro i hi
 rw [Xt] at hi
 obtain ⟨a1,a2,a3,a4⟩:=cellR_at hi
 rw [needs_get hi]
 have q:=hs.rule a2
 have b:=q.2.2.2.2.1
 have hl:=b.len
 have hsum:=q.2.2.2.2.2.2.2.2.2.1
 obtain ⟨j,hj,hp⟩:=sum_pos b.1 hsum
 exact ⟨hl,fun q' hq' =>b.get qf,j,by omega,hp⟩
theorem cell_rest (ht:zV s t) (hc:c < t.qP.length):RestOk (Qm s) (t.qP[c]!):=by
 have b:=(ht.2.2.2.2 c hc).1
 exact ⟨b.len,fun q hq=>b.get (by have:=b.len;omega)⟩
theorem cell_pack (hs:yj s) (ht:zV s t) (hc:c < t.qP.length):XQ (vT s (vU s t c)) (t.qP[c]!):=
 ⟨Qm s,kinds_le hs,cell_parts hs c,cell_rest ht hc,by rw [Xt];exact cellR_len hs c⟩
theorem all_cases:(yg b parts=([],3))\/(Xh b<=16/\yg b parts=(packs parts parts.length 0 b,0)/\(packs parts parts.length 0 b).length<=2000):=by
 unfold yg
 split
 ·exact .inl rfl
 ·split
  ·exact .inl rfl
  ·exact .inr ⟨by omega,rfl,by omega⟩
theorem all_len (b:yLI) (parts:yLL):(yg b parts).1.length<=2000:=by
 rcases all_cases (b:=b) (parts:=parts) with h | ⟨_,h,h1⟩ <;> rw [h]
 ·simp
 ·exact h1
theorem all_at (h:x < (yg b parts).1.length):((yg b parts).1[x]!).length=parts.length:=by
 rcases all_cases (b:=b) (parts:=parts) with h1 | ⟨_,h1,_⟩
 ·rw [h1] at h;simp at h
 ·rw [h1] at h ⊢
  exact packs_len (by rw [getElem!_pos _ x h];exact List.getElem_mem h)
theorem all_code (h:(yg b parts).2≠0):(yg b parts).2=3:=by
 rcases all_cases (b:=b) (parts:=parts) with h1 | ⟨_,h1,_⟩
 ·rw [h1]
 ·rw [h1] at h;exact absurd rfl h
def FewTo (s:qG) (t:qH) (k:Nat):Prop:=∀ c,c < k->(vU s t c).length=0\/¬ Xh (t.qP[c]!) > 16
theorem FewTo.succ (h:FewTo s t k) (h1:(vU s t k).length=0\/¬ Xh (t.qP[k]!) > 16):FewTo s t (k+1):=fun j hj=>by
 by_cases e:j=k
 ·subst e;exact h1
 ·exact h j qf
def GoodP (s:qG) (t:qH) (k:Nat):Prop:=∀ c,c < k->(vU s t c).length=0\/(cellP s t c).2=0
theorem GoodP.succ (h:GoodP s t k) (h1:(vU s t k).length=0\/(cellP s t k).2=0):GoodP s t (k+1):=fun j hj=>by
 by_cases e:j=k
 ·subst e;exact h1
 ·exact h j qf
theorem bad_sum (hc:c < n) (h:¬ (vU s t c).length=0) (h1:Xh (t.qP[c]!) > 16):¬ GoodP s t n:=fun hg=>by
 rcases hg c hc with h2 | h2
 ·exact h h2
 ·unfold cellP at h2;rw [all_a h1] at h2;simp at h2
theorem bad_code (hc:c < n) (h:¬ (vU s t c).length=0) (h1:¬ (cellP s t c).2=0):¬ GoodP s t n:=fun hg=>(hg c hc).elim h h1
noncomputable def XH (s:qG) (t:qH) (k:Nat):yLN:=(List.range k).filter fun c=>decide ((vU s t c).length≠0)
noncomputable def xy (s:qG) (t:qH) (k:Nat):yLL:=(XH s t k).map (vU s t)
noncomputable def zl (s:qG) (t:qH) (k:Nat):List yLL:=(XH s t k).map fun c=>(cellP s t c).1
theorem live_yes (h:¬ (vU s t k).length=0):XH s t (k+1)=XH s t k++[k]:=by unfold XH;rw [List.range_succ,List.filter_append,List.filter_cons_of_pos (a:=k) (by simpa only [decide_eq_true_eq] using h),List.filter_nil]
theorem live_no (h:(vU s t k).length=0):XH s t (k+1)=XH s t k:=by unfold XH;rw [List.range_succ,List.filter_append,List.filter_cons_of_neg (by simp only [decide_eq_true_eq];exact fun x=>x h),List.filter_nil,List.append_nil]
theorem rules_yes (h:¬ (vU s t k).length=0):xy s t k++[vU s t k]=xy s t (k+1):=by simp [xy,live_yes h]
theorem rules_no (h:(vU s t k).length=0):xy s t k=xy s t (k+1):=by simp [xy,live_no h]
theorem packsL_yes (h:¬ (vU s t k).length=0):zl s t k++[(cellP s t k).1]=zl s t (k+1):=by simp [zl,live_yes h]
theorem packsL_no (h:(vU s t k).length=0):zl s t k=zl s t (k+1):=by simp [zl,live_no h]
theorem live_le (s:qG) (t:qH) (k:Nat):(XH s t k).length<=k:=by
 have:=List.length_filter_le (fun c=>decide ((vU s t c).length≠0)) (List.range k)
 simpa [XH] using this
theorem rules_le (s:qG) (t:qH) (k:Nat):(xy s t k).length<=k:=by simpa [xy] using live_le s t k
theorem packsL_le (s:qG) (t:qH) (k:Nat):(zl s t k).length=(xy s t k).length:=by simp [zl,xy]
theorem live_at (h:i < (xy s t k).length):∃ c,c < k/\¬ (vU s t c).length=0/\(xy s t k)[i]! =vU s t c/\(zl s t k)[i]! =(cellP s t c).1:=by
 have hl:i < (XH s t k).length:=by simpa [xy] using h
 have hm:=List.mem_filter.1 (show (XH s t k)[i]∈XH s t k from List.getElem_mem hl)
 refine ⟨(XH s t k)[i],by simpa using hm.1,by simpa using hm.2,?_,?_⟩
 ·rw [getElem!_pos _ i h];simp [xy]
 ·rw [getElem!_pos _ i (by rw [packsL_le];exact h)];simp [zl]
def Q9 (all:List yLL):Nat->Nat
 | 0=>1
 | k+1=>Q9 all k * (all[k]!).length
theorem prod_mul (all:List yLL) (k:Nat):((Q9 all k:Nat):Int) * ((all[k]!).length:Int)=((Q9 all (k+1):Nat):Int):=by rw [Q9,Int.natCast_mul]
theorem prod_mono {all:List yLL} {n:Nat} (h:∀ j,j < n->all[j]! ≠[]):∀ {j i:Nat},i<=j->j<=n->Q9 all i<=Q9 all j
  | 0, i, hi, _ => by obtain rfl : i = 0 := by omega
                      exact Nat.le_refl _
  | j+1,i,hi,hj=>by
    by_cases e:i=j+1
    · subst e;exact Nat.le_refl _
    · have h1:=prod_mono h (show i<=j by omega) qf
      have h2:0 < (all[j]!).length:=List.length_pos_iff.2 (h j qf)
      rw [Q9]
      exact Nat.le_trans h1 (Nat.le_mul_of_pos_right _ h2)
theorem prod_pre {l:List yLL} {x:yLL}:∀ {k:Nat},k<=l.length->Q9 (l++[x]) k=Q9 l k
 | 0,_=>rfl
 | k+1,h=>by
  rw [Q9,Q9,prod_pre qf]
  congr 1
  rw [getElem!_pos (l++[x]) k qy,getElem!_pos l k qf,List.getElem_append_left]
theorem prod_snoc (l:List yLL) (x:yLL):Q9 (l++[x]) (l++[x]).length=Q9 l l.length * x.length:=by
 rw [List.length_append,List.length_singleton,Q9,prod_pre (Nat.le_refl _)]
 congr 1
 rw [getElem!_pos (l++[x]) l.length qm];simp
theorem cellP_ne (hs:yj s) (ht:zV s t) (hc:c < t.qP.length) (h:(cellP s t c).2=0):(cellP s t c).1≠[]:=by
 unfold cellP at h ⊢
 rcases all_cases (b:=t.qP[c]!) (parts:=vT s (vU s t c)) with h1 | ⟨h0,h1,_⟩
 ·rw [h1] at h;simp at h
 ·rw [h1]
  exact packs_ne (cell_parts hs c) _ 0 _ (Nat.zero_add _) (cell_rest ht hc) (sum_few (cell_rest ht hc) h0) fun i hi=>by omega
theorem cellP_few (hs:yj s) (ht:zV s t) (hc:c < t.qP.length) (hr:¬ (vU s t c).length=0):(cellP s t c).1.length<=17 ^ ((vU s t c).length - 1):=by
 unfold cellP
 rcases all_cases (b:=t.qP[c]!) (parts:=vT s (vU s t c)) with h1 | ⟨h0,h1,_⟩
 ·rw [h1];simp
 ·rw [h1]
  have:=packs_few (cell_parts (t:=t) hs c) ((vU s t c).length - 1) 0 _ (by rw [Xt];omega) (cell_rest ht hc) (sum_few (cell_rest ht hc) h0)
  rw [Xt,show (vU s t c).length=(vU s t c).length - 1+1 by omega]
  exact this
noncomputable def sumR (s:qG) (t:qH):Nat->Nat
 | 0=>0
 | k+1=>sumR s t k+(vU s t k).length
theorem filter_two (f:Int->Int) (k:Int):∀ (l:yLI),(l.filter fun x=>decide (f x < k+1)).length=(l.filter fun x=>decide (f x < k)).length+(l.filter fun x=>decide (f x=k)).length
 | []=>rfl
 | x::l=>by
  have h:=filter_two f k l
  simp only [List.filter_cons]
  by_cases h1:f x < k
  ·rw [if_pos qy,if_pos (by simpa using h1),if_neg qy];simp only [List.length_cons];omega
  ·by_cases h2:f x=k
   ·rw [if_pos qy,if_neg (by simpa using h1),if_pos (by simpa using h2)];simp only [List.length_cons];omega
   ·rw [if_neg qy,if_neg (by simpa using h1),if_neg (by simpa using h2)];exact h
theorem sumR_eq (s:qG) (t:qH):∀ k,sumR s t k<=((appls s t).filter fun x=>decide ((s.qE[x.toNat]!).qR < (k:Int))).length
 | 0=>Nat.zero_le _
 | k+1=>by
  have h:=sumR_eq s t k
  have h2:=filter_two (fun x=>(s.qE[x.toNat]!).qR) (k:Int) (appls s t)
  rw [sumR,show ((k+1:Nat):Int)=(k:Int)+1 by omega,h2]
  exact Nat.add_le_add h (Nat.le_refl _)
theorem sumR_le (hs:yj s) (k:Nat):sumR s t k<=16:=
 Nat.le_trans (sumR_eq s t k) (Nat.le_trans (List.length_filter_le _ _) (Nat.le_trans (applL_le s t _) hs.2.1))
theorem prod_few {s:qG} {t:qH} (hs:yj s) (ht:zV s t):∀ k,k<=t.qP.length->Q9 (zl s t k) (zl s t k).length<=17 ^ (sumR s t k - 1)
 | 0,_=>by show Q9 [] 0<=_;rw [Q9];exact Nat.one_le_pow _ _ qj
 | k+1,hk=>by
  have h:=prod_few hs ht k qf
  rw [sumR]
  by_cases e:(vU s t k).length=0
  ·rw [← packsL_no e,e];exact h
  ·rw [← packsL_yes e,prod_snoc]
   refine Nat.le_trans (Nat.mul_le_mul h (cellP_few hs ht qf e)) ?_
   rw [← Nat.pow_add]
   exact Nat.pow_le_pow_right qj qf
theorem packsL_ne (hs:yj s) (ht:zV s t) (hk:k<=t.qP.length) (hg:GoodP s t k):∀ j,j < (zl s t k).length->(zl s t k)[j]! ≠[]:=fun j hj=>by
 obtain ⟨c,hc,hr,_,h2⟩:=live_at (s:=s) (t:=t) (k:=k) (i:=j) (by rw [← packsL_le];exact hj)
 rw [h2]
 exact cellP_ne hs ht qf ((hg c hc).resolve_left hr)
theorem prod_bd (hs:yj s) (ht:zV s t) (hk:k<=t.qP.length) (hg:GoodP s t k):∀ j,j<=(zl s t k).length->((Q9 (zl s t k) j:Nat):Int)<=2862423051509815793:=fun j hj=>by
 have h1:=prod_mono (packsL_ne hs ht hk hg) hj (Nat.le_refl _)
 have h2:=prod_few hs ht k hk
 have h3:17 ^ (sumR s t k - 1)<=17 ^ 15:=Nat.pow_le_pow_right qj (by have:=sumR_le (t:=t) hs k;omega)
 have h4:17 ^ 15=2862423051509815793:=by decide
 omega
def setTo (o r x:yLI):Nat->yLI
 | 0=>o
 | k+1=>(setTo o r x k).set (r[k]!).toNat (x[k]!)
theorem setTo_len (o r x:yLI):∀ k,(setTo o r x k).length=o.length
 | 0=>rfl
 | k+1=>by rw [setTo,List.length_set,setTo_len o r x k]
def setAll (o r x:yLI):yLI:=setTo o r x r.length
theorem setAll_len (o r x:yLI):(setAll o r x).length=o.length:=setTo_len o r x _
def nextK (G:yLL) (r:yLI) (P:yLL) (k:Nat):yLL:=(G.take k).flatMap fun o=>P.map (setAll o r)
def nextX (G:yLL) (r:yLI) (P:yLL) (k x:Nat):yLL:=nextK G r P k++(P.take x).map (setAll (G[k]!) r)
theorem nextX_zero (G:yLL) (r:yLI) (P:yLL) (k:Nat):nextK G r P k=nextX G r P k 0:=by simp [nextX]
theorem nextX_succ (h:x < P.length) {v:yLI} (hv:v=setAll (G[k]!) r (P[x]!)):nextX G r P k x++[v]=nextX G r P k (x+1):=by
 subst hv;unfold nextX;rw [List.append_assoc,← take_snoc h,List.map_append];rfl
theorem nextX_end (hk:k < G.length) (h:x=P.length):nextX G r P k x=nextK G r P (k+1):=by
 subst h;unfold nextX nextK;rw [List.take_length,← take_snoc hk,List.flatMap_append];simp
theorem nextK_len {G:yLL} {r:yLI} {P:yLL}:∀ {k:Nat},k<=G.length->(nextK G r P k).length=k * P.length
 | 0,_=>by simp [nextK]
 | k+1,h=>by
  rw [← nextX_end (show k < G.length by omega) rfl,nextX,List.length_append,nextK_len qf,List.take_length,List.length_map,Nat.add_mul,Nat.one_mul]
theorem nextX_len (hk:k < G.length) (hx:x<=P.length):(nextX G r P k x).length=k * P.length+x:=by
 rw [nextX,List.length_append,nextK_len qf,List.length_map,List.length_take];omega
theorem nextX_le (hk:k < G.length) (hx:x<=P.length):(nextX G r P k x).length<=G.length * P.length:=by
 rw [nextX_len hk hx]
 have:=Nat.mul_le_mul_right P.length (show k+1<=G.length from hk)
 rw [Nat.add_mul,Nat.one_mul] at this
 omega
def Qa (n:Nat) (rs:yLL) (all:List yLL):Nat->yLL
 | 0=>[List.replicate n 0]
 | i+1=>nextK (Qa n rs all i) (rs[i]!) (all[i]!) (Qa n rs all i).length
theorem QW {n:Nat} {rs:yLL} {all:List yLL}:∀ i,(Qa n rs all i).length=Q9 all i
 | 0=>rfl
 | i+1=>by rw [Qa,nextK_len (Nat.le_refl _),QW i,Q9]
theorem mem_at_L (h:k < l.length):l[k]! ∈l:=by rw [getElem!_pos l k h];exact List.getElem_mem h
theorem prodG_row {n:Nat} {rs:yLL} {all:List yLL}:∀ i,∀ x∈Qa n rs all i,x.length=n
 | 0,x,h=>by obtain rfl:=List.mem_singleton.1 h;simp
 | i+1,x,h=>by
  rw [Qa,nextK,List.mem_flatMap] at h
  obtain ⟨o,ho,h⟩:=h
  obtain ⟨y,_,rfl⟩:=List.mem_map.1 h
  rw [setAll_len]
  exact prodG_row i o (List.mem_of_mem_take ho)
theorem prodG_at (h:k < (Qa n rs all i).length):((Qa n rs all i)[k]!).length=n:=prodG_row i _ (mem_at_L h)
open Classical in
noncomputable def inOrder (l:yLL):yLL:=if h:∃ m,l.Perm m/\InOrder m then Classical.choose h else l
theorem inOrder_eq {m:yLL} (hn:∀ x∈l,x.length=n) (hp:l.Perm m) (ho:InOrder m):inOrder l=m:=by
 have h:∃ m,l.Perm m/\InOrder m:=⟨m,hp,ho⟩
 unfold inOrder
 rw [dif_pos h]
 have hc:=Classical.choose_spec h
 exact order_one (n:=n) (fun x hx=>hn x (hc.1.symm.subset hx)) (hc.1.symm.trans hp) hc.2 ho
open Classical in
noncomputable def jG (s:qG) (t:qH):yLL×Int:=
 if ¬ GoodP s t s.qC.length then ([],3) else if Q9 (zl s t s.qC.length) (zl s t s.qC.length).length > 300 then ([],3)
 else (inOrder (Qa s.qE.length (xy s t s.qC.length) (zl s t s.qC.length) (zl s t s.qC.length).length),0)
theorem cho_3 (h:¬ GoodP s t s.qC.length\/Q9 (zl s t s.qC.length) (zl s t s.qC.length).length > 300):jG s t=([],3):=by
 unfold jG
 by_cases h1:GoodP s t s.qC.length
 ·rw [if_neg (by simpa using h1),if_pos (h.resolve_left (by simpa using h1))]
 ·rw [if_pos h1]
theorem cho_0 {m:yLL} (h:GoodP s t s.qC.length) (h1:¬ Q9 (zl s t s.qC.length) (zl s t s.qC.length).length > 300)
 (hp:(Qa s.qE.length (xy s t s.qC.length) (zl s t s.qC.length) (zl s t s.qC.length).length).Perm m) (ho:InOrder m):jG s t=(m,0):=by
 unfold jG
 rw [if_neg (by simpa using h),if_neg h1,inOrder_eq (prodG_row _) hp ho]
theorem in_order (hi:l.length<=i) (h:∀ a b,a < b->b < i->¬ ahead (l[b]!) (l[a]!)):InOrder l:=by
 have:=(orderTo_iff (l:=l) (k:=l.length) (Nat.le_refl _)).2 fun a b hab hb=>h a b hab qf
 unfold OrderTo at this
 rwa [List.take_length] at this
theorem cho_code {p:yLL} (h:¬ GoodP s t s.qC.length) (h1:¬ (yg b p).2=0):jG s t=([],(yg b p).2):=by rw [cho_3 (.inl h),all_code h1]
theorem next_le (h:∀ j,j < all.length->all[j]! ≠[]) (h1:¬ Q9 all all.length > 300) (hi:i < all.length) (hk:k < (Qa n rs all i).length) (hx:x<=(all[i]!).length):(nextX (Qa n rs all i) (rs[i]!) (all[i]!) k x).length<=300:=by
 have h2:=nextX_le (r:=rs[i]!) hk hx
 have h3:=prod_mono h (show i+1<=all.length from hi) (Nat.le_refl _)
 rw [Q9,← QW (n:=n) (rs:=rs) i] at h3
 omega
theorem G_le (h:∀ j,j < all.length->all[j]! ≠[]) (h1:¬ Q9 all all.length > 300) (hi:i<=all.length):(Qa n rs all i).length<=300:=by
 have h3:=prod_mono h hi (Nat.le_refl _)
 rw [QW];omega
theorem cell_few (hs:yj s) (hi:i < (xy s t n).length):((xy s t n)[i]!).length<=8/\((zl s t n)[i]!).length<=2000:=by
 obtain ⟨c,_,_,e,e1⟩:=live_at hi
 rw [e,e1]
 exact ⟨cellR_len hs c,all_len _ _⟩
theorem choice_at {r:Nat} (hi:i < (xy s t n).length) (hr:r < ((xy s t n)[i]!).length):0<=((xy s t n)[i]!)[r]! /\(((xy s t n)[i]!)[r]!).toNat < s.qE.length:=by
 obtain ⟨c,_,_,e,_⟩:=live_at hi
 rw [e] at hr ⊢
 have:=cellR_at hr
 exact ⟨this.1,this.2.1⟩
theorem pack_at (hi:i < (xy s t n).length) (hx:x < ((zl s t n)[i]!).length):(((zl s t n)[i]!)[x]!).length=((xy s t n)[i]!).length:=by
 obtain ⟨c,_,_,e,e1⟩:=live_at hi
 rw [e1] at hx ⊢
 rw [e]
 exact (all_at hx).trans (Xt _ _)
theorem perm_rows (h:(Qa n rs all m).Perm l):∀ j,j < l.length->(l[j]!).length=n:=fun j hj=>prodG_row m _ (h.symm.subset (mem_at_L hj))
theorem perm_swap {m:yLL} (h:l.Perm m) (hk:0 < k) (hl:k < m.length):l.Perm (swapAt m k):=h.trans (swap_perm hk hl).symm
theorem cho_len (s:qG) (t:qH):(jG s t).1.length<=300:=by
 unfold jG
 split
 ·simp
 ·split
  ·simp
  ·next h1 h2=>
   show (inOrder _).length<=300
   unfold inOrder
   split
   ·next h=>rw [← (Classical.choose_spec h).1.length_eq,QW];omega
   ·rw [QW];omega
end
section
section
variable {α : Type} [qK α]
theorem reps_perm (h1:qK.size α=1):∀ {z z' :List (Value×α)},z.Perm z' ->∀ {F:yLN},reps w F (z.map Prod.fst) (z.map Prod.snd)->∃ F',F'.Perm F/\reps w F' (z'.map Prod.fst) (z'.map Prod.snd):=by
 intro z z' hp
 have one:∀ {c:List Value} {G:yLN} {x:α},qK.rep w G c x->∃ v,c=[v]:=fun h=>List.length_eq_one_iff.1 ((qK.len h).trans h1)
 induction hp with
 | nil=>intro F h;exact ⟨F,.refl _,h⟩
 | cons x _ ih=>
  rintro F ⟨F1,F2,c1,c2,rfl,hv,hx,hr⟩
  obtain ⟨v,rfl⟩:=one hx
  obtain ⟨rfl,rfl⟩:=List.cons.inj hv
  obtain ⟨F',hF,hr'⟩:=ih hr
  exact ⟨F1++F',hF.append_left F1,F1,F',[x.1],_,rfl,rfl,hx,hr'⟩
 | swap x y l=>
  rintro F ⟨F1,F2,c1,c2,rfl,hv,hx,F3,F4,c3,c4,rfl,hv2,hy,hr⟩
  obtain ⟨v,rfl⟩:=one hx
  obtain ⟨u,rfl⟩:=one hy
  subst hv2
  obtain ⟨e1,e2⟩:=List.cons.inj hv
  obtain ⟨e3,e4⟩:=List.cons.inj e2
  subst e1 e3 e4
  refine ⟨F3++(F1++F4),?_,F3,F1++F4,[x.1],y.1::_,rfl,rfl,hy,F1,F4,[y.1],_,rfl,rfl,hx,hr⟩
  rw [← List.append_assoc,← List.append_assoc]
  exact List.perm_append_comm.append_right F4
 | trans _ _ ih1 ih2=>
  intro F h
  obtain ⟨F1,h1,h2⟩:=ih1 h
  obtain ⟨F2,h3,h4⟩:=ih2 h2
  exact ⟨F2,h3.trans h1,h4⟩
end
theorem swapZ {α:Type}:∀ {l:List α} {i:Nat} {a b:α},l[i]? =some a->l[i+1]? =some b->l.Perm ((l.set (i+1) a).set i b)
 | [],_,_,_,h,_=>by simp at h
 | x::l,0,a,b,h,h1=>by
  cases l with
  | nil=>simp at h1
  | cons y l=>
   simp only [List.getElem?_cons_zero,Option.some.injEq] at h
   simp only [List.getElem?_cons_succ,List.getElem?_cons_zero,Option.some.injEq,Nat.zero_add] at h1
   subst h h1
   exact List.Perm.swap ..
 | x::l,i+1,a,b,h,h1=>by
  simp only [List.getElem?_cons_succ] at h h1
  exact (swapZ h h1).cons x
theorem zip_at {α β:Type}:∀ {xs:List α} {l:List β} {i:Nat} {a:α} {b:β},xs[i]? =some a->l[i]? =some b->(xs.zip l)[i]? =some (a,b):=by
 intro xs l i a b h h1
 rw [List.getElem?_zip_eq_some]
 exact ⟨h,h1⟩
theorem zip_fst {α β:Type}:∀ {xs:List α} {l:List β},xs.length=l.length->(xs.zip l).map Prod.fst=xs:=by
 intro xs l h;exact List.map_fst_zip qf
theorem zip_snd {α β:Type}:∀ {xs:List α} {l:List β},xs.length=l.length->(xs.zip l).map Prod.snd=l:=by
 intro xs l h;exact List.map_snd_zip qf
section
variable {W0 w : World} {ps : List Prv} {Γ : List Fact}
theorem St.rowElemX {α:Type} [qK α] (H:St W0 w ps Γ) (k:Nat) {b:Nat} {e:TypeId} {nn:Nat} (hp:ps[k]? =some (.row (Sv (some ⟨b,0,none⟩) nn c) e 1 nn xs)) (j:Nat) {l:List (List α)}
 (hf:Γ[j]? =some (xN fr F xs l)) {iv:Int} (i:Nat) (h:iv.toNat=i) (h1:i < nn):
 ∃ (a:yOA) (c' :Nat) (G:yLN),(∀ x∈G,x∈F)/\w.cell? ⟨b,0+iv.toNat * 1,none⟩=some (Sv a (l[i]!).length c')/\xs[0+iv.toNat * 1]? =some (Sv a (l[i]!).length c')/\xs[iv.toNat]? =some (Sv a (l[i]!).length c')/\St W0 w ps (isF fr G (Sv a (l[i]!).length c') (l[i]!)::Γ):=by
 obtain ⟨cs,G,hc,hr,hsub,hfr,v1,v2,hx,hv⟩:=H.rowElem k hp j hf Nat.one_pos h h1
 obtain ⟨a,c',rfl,hx'⟩:=id hr
 have hxi:xs[i]? =some (Sv a (l[i]!).length c'):=by
  have hl1:v1.length=i:=by rw [hv];exact Nat.mul_one _
  rw [hx,List.append_assoc,List.getElem?_append_right qf]
  simp [hl1]
 exact ⟨a,c',G,hsub,by simpa [qK.size] using hc 0 _ rfl,by rw [show 0+iv.toNat * 1=i by omega];exact hxi,by rw [h];exact hxi,H.jy j hf _ ⟨hr,hfr⟩ hsub⟩
theorem St.swapR (H:St W0 w ps Γ) (j:Nat) (hf:Γ[j]? =some (xN fr F xs l)) (hk:0 < k) (hkl:k < l.length) (hi:i=k - 1) {v0 v1:Value} (h0:xs[i]? =some v0) (h1:xs[k]? =some v1):
 ∃ F',F'.Perm F/\St W0 w ps (xN fr F' ((xs.set k v0).set i v1) (swapAt l k)::Γ):=by
 obtain ⟨hr,hfr⟩:=H.get j hf
 obtain ⟨i,rfl⟩:∃ i,k=i+1:=⟨k - 1,by omega⟩
 rw [show i+1 - 1=i from rfl] at hi
 subst hi
 have hl:xs.length=l.length:=by have:=XA hr;simpa [qK.size] using this
 have e0:l[i]? =some (l[i]!):=by rw [getElem!_pos l i qf];exact List.getElem?_eq_getElem qf
 have e1:l[i+1]? =some (l[i+1]!):=by rw [getElem!_pos l (i+1) hkl];exact List.getElem?_eq_getElem hkl
 have hp:=swapZ (zip_at h0 e0) (zip_at h1 e1)
 have hr' :reps w F ((xs.zip l).map Prod.fst) ((xs.zip l).map Prod.snd):=by
  rw [zip_fst hl,zip_snd hl]
  exact hr
 obtain ⟨F',hF,h2⟩:=reps_perm rfl hp hr'
 refine ⟨F',hF,H.jy j hf _ ⟨?_,fun e x hx=>hfr e x (hF.subset hx)⟩ fun x hx=>hF.subset hx⟩
 rw [List.map_set,List.map_set,List.map_set,List.map_set,zip_fst hl,zip_snd hl] at h2
 exact h2
theorem Fresh.perm {B:Nat} {L:List yLN} {F':yLN} (N:Fresh B (F::L)) (h:F'.Perm F):Fresh B (F'::L):=N.less (fun b hb=>h.subset hb) fun hn=>h.nodup_iff.2 hn
end
section
variable {P : Program} {n : Nat} {ρ : Env} {w : World}
theorem ret3 {fn:Func} {R:Ending->World->Prop} {t u z:Nat} (v x y:Value) (hr:fn.results=#[.tmp t,.tmp u,.tmp z]) (hv:ev n ρ (.tmp t)=v) (hx:ev n ρ (.tmp u)=x) (hy:ev n ρ (.tmp z)=y) (h:R (.returned (.tuple #[v,x,y])) w):bodyPost P fn R .ret (mk n ρ) w:=by
 refine bodyPost_ret (results_tmp3 hr _ _ _) rfl ?_
 have e:=congrFun (QZ n ρ) (.tmp t)
 have e' :=congrFun (QZ n ρ) (.tmp u)
 have e'' :=congrFun (QZ n ρ) (.tmp z)
 simp only [Act.eval] at e e' e''
 rw [e,hv,e',hx,e'',hy]
 exact h
end
end
section
theorem l03Before_ok (w:World) (a:yLI) (b:yLI) {aa:yOA} {ca:Nat} {Fa:yLN} (ha:zP w Fa aa ca a) (hb:zP w Fb ab cb b) (p0:a.length=b.length):Calls Tryz.prog 235 #[Sv aa a.length ca,Sv ab b.length cb] w (Ret (fun v w' =>v=Bv (dec (ahead a b))) w):=by
 refine en func235 ntmps235 ?_
 have H:=((St.start w).arg hb).arg ha
 have nha:=qO ha
 have nhb:=qO hb
 clear ha hb
 have N:=Fresh.nil w.heap.size
 refine zcr (sp (Bv false) (zjcc (sp (yI 0) (zjn (qV ?_)))))
 refine zA ((fun Z0 Z1=>fun m' ρ w1=>∃ (xQ:Env) (i:Nat),ρ=upd (upd (upd xQ 0 (Sv aa a.length ca)) 1 (Sv ab b.length cb)) 5 (yI i)/\((i:Int)<=a.length)/\(SameTo a b i)/\m' =(a.length - (i:Int)).toNat/\Fresh w.heap.size []/\St w w1 [] [Z0,Z1]) _ _) ((a.length - (0:Int)).toNat) ⟨_,0,uE3,qf,qx,rfl,N,H⟩ ?_
 clear H N
 rintro m' ρ w2 ⟨xQ,i,rfl,i0,i1,rfl,N,H⟩
 refine zcc (sp (yI i) (sq 1 (oN rfl (sq 1 (zjn (cD rfl (fun h3=>?_) (fun h3=>?_)))))))
 ·refine qU (t_n (xU (qV (xU ?_))))
  refine jw rfl H fun H=>rtl 0 H ?_
  refine rtp 1 (yI i) H ?_
  obtain ⟨b5,o6,rfl⟩:=H.addr 0 rfl qf
  refine tI 2 rfl rfl rfl H ?_
  refine tL 3 rfl rfl (fun _ h=>h.zB 0 rfl i qf) H ?_
  refine rtl 4 H ?_
  refine rtp 5 (yI i) H ?_
  obtain ⟨b8,o9,rfl⟩:=H.addr 1 rfl qf
  refine tI 6 rfl rfl rfl H ?_
  refine tL 7 rfl rfl (fun _ h=>h.zB 1 rfl i qf) H ?_
  refine rtl 8 H ?_
  refine xA qh (t_n (zT _ rfl (fun h11=>?_) (fun h11=>?_)))
  ·replace h11:=bne_iff_ne.1 h11
   refine xU ?_
   refine jw rfl H fun H=>rtl 0 H ?_
   refine rtp 1 (yI i) H ?_
   refine tI 2 rfl rfl rfl H ?_
   refine tL 3 rfl rfl (fun _ h=>h.zB 0 rfl i qf) H ?_
   refine rtl 4 H ?_
   refine rtp 5 (yI i) H ?_
   refine tI 6 rfl rfl rfl H ?_
   refine tL 7 rfl rfl (fun _ h=>h.zB 1 rfl i qf) H ?_
   refine rtl 8 H ?_
   refine rtl 9 H ?_
   refine xA qh (t_n (c_ret (zr5 (rH1 (Bv (decide ((a[i]! :Int) < (b[i]!)))) H ?_))))
   first | rw [xh (ahead_same (show SameTo a b a.length from fun j hj=>i1 j qf))] | rw [show decide (a[i]! < b[i]!)=dec (ahead a b) from dec_eq ⟨fun h=>ahead_yes i1 qf (of_decide_eq_true h),fun h=>decide_eq_true (Classical.byContradiction fun h1=>ahead_no i1 h1 ‹_› h)⟩]
  replace h11:=xu h11
  refine qU (b_n (t_n (xK (sp (yI i) (sw (zi i 1 rfl rfl qf (sq 1 (xP (qW (m' :=(a.length - ((i+1):Int)).toNat) qf ⟨_,i+1,uE3,?_,?_,rfl,N,H⟩)))))))))
  ·omega
  ·exact i1.succ qg
 refine zx4 (zcr (sp (Bv false) (zjr (rH1 (Bv false) H ?_))))
 first | rw [xh (ahead_same (show SameTo a b a.length from fun j hj=>i1 j qf))] | rw [show decide (a[i]! < b[i]!)=dec (ahead a b) from dec_eq ⟨fun h=>ahead_yes i1 qf (of_decide_eq_true h),fun h=>decide_eq_true (Classical.byContradiction fun h1=>ahead_no i1 h1 ‹_› h)⟩]
theorem l03Count_ok (w:World) (all:List yLL) {aall:yOA} {call:Nat} {Fall:yLN} (hall:zP w Fall aall call all) (p0:∀ j,j<=all.length->((Q9 all j:Nat):Int)<=2862423051509815793):Calls Tryz.prog 234 #[Sv aall all.length call] w (Ret (fun v w' =>v=yI ((Q9 all all.length:Nat):Int)) w):=by
 refine en func234 ntmps234 ?_
 have H:=(St.start w).arg hall
 have nhall:=qO hall
 clear hall
 have N:=Fresh.nil w.heap.size
 refine zcr (sp (yI 0) (zjc (sp (yI 1) (zjcc (sp (yI 0) (zjn (qV ?_)))))))
 refine zA ((fun Z0=>fun m' ρ w1=>∃ (xQ:Env) (n:Int) (i:Nat),ρ=upd (upd (upd xQ 0 (Sv aall all.length call)) 3 (yI n)) 4 (yI i)/\n=((Q9 all i:Nat):Int)/\((i:Int)<=all.length)/\m' =(all.length - (i:Int)).toNat/\Fresh w.heap.size []/\St w w1 [] [Z0]) _) ((all.length - (0:Int)).toNat) ⟨_,1,0,uE3,(by rfl),qf,rfl,N,H⟩ ?_
 clear H N
 rintro m' ρ w2 ⟨xQ,n,i,rfl,rfl,i0,rfl,N,H⟩
 have pm:=prod_mul all i
 have pb:=fun h=>p0 (i+1) h
 have pn:=Int.natCast_nonneg (Q9 all (i+1))
 refine zcc (sp (yI i) (sq 1 (oN rfl (sq 1 (zjn (cD rfl (fun h3=>?_) (fun h3=>?_)))))))
 ·refine qU (t_n (xU (qV (xK (sq 2 (sp (yI i) ?_))))))
  obtain ⟨b4,o5,rfl⟩:=H.addr 0 rfl qf
  obtain ⟨ae7,ce7,Fe7,H⟩:=H.ji 0 rfl i i qf qf qf
  refine oI rfl rfl (oL rfl (H.xW 1 rfl 0 rfl) (oN rfl (sw (o_mul ((Q9 all i:Nat):Int) ((all[i]!).length) rfl rfl qf (sq 1 (xP (b_n (t_n (xK (sp (yI i) (sw (zi i 1 rfl rfl qf (sq 1 (xP (qW (m' :=(all.length - ((i+1):Int)).toNat) qf ⟨_,_,i+1,uE3,?_,?_,rfl,N,H.pick [] [2]⟩)))))))))))))))
  ·exact prod_mul all i
  ·omega
 refine zx4 (zcr (sq 2 (zjr (rH1 (yI ((Q9 all i:Nat):Int)) H ?_))))
 rw [show i=all.length by omega]
theorem l03Choices_ok (w:World) (s:qG) (t:qH) {bs os:Nat} {qL:Nat} {qX:Nat} {bt ot:Nat} {xn:Nat} {xM:Nat} {qZ:Nat} (hs:vg w bs os (yS s qM qL xg qX)) (xf:zP w xF qM qL s.qC) (xE:zP w zu xg qX s.qE) (ht:vg w bt ot (yT t xq xn xX xM xe qZ)) (zk:zP w zQ xq xn t.qI) (zO:zP w vK xX xM t.qP) (xJ:zP w zo xe qZ t.qN) (p0:yj s) (p1:zV s t):Calls Tryz.prog 214 #[pp bs os,pp bt ot] w (Ret (fun v w' =>∃ (ra0:yOA) (rn0:Nat) (rc0:Nat) (rx0:List Value) (rF0:yLN),v=.tuple #[Sv ra0 rn0 rc0,yI ((jG s t).2)]/\Fresh w.heap.size [rF0]/\St w w' [rr ra0 rn0 rc0 27 1 rx0] [xN true rF0 rx0 ((jG s t).1)]) w):=by
 refine en func214 ntmps214 ?_
 have H:=(((((((St.start w).arg xJ).arg zO).arg zk).Q7 ht).arg xE).arg xf).Q7 hs
 have vH:=qO xf
 have jD:=qO xE
 have yL:=qO zk
 have Qv:=qO zO
 have jQ:=qO xJ
 clear hs xf xE ht zk zO xJ
 have N:=Fresh.nil w.heap.size
 have p2:=p0.2.1
 have p3:=p0.1.2.1
 have p4:=p1.1
 have p5:=p1.2.1
 refine zcr (sq 1 (sp (yI 0) (zjc (sq 2 (sw (zN #[pp bs os,pp bt ot] rfl rfl call233 (en func233 ntmps233 ?_)))))))
 refine zcr (sq 2 (sp (yI 0) (zjc (sq 2 ?_))))
 have sz4:=H.base.size
 refine sw (oc (l03Applicable_ok _ s t (qF (H.get 0 rfl) 0 3) (H.get 1 rfl).1 (H.get 2 rfl).1 (qF (H.get 3 rfl) 0 3) (H.get 4 rfl).1 (H.get 5 rfl).1 (H.get 6 rfl).1 qg qg) ?_)
 rintro _ w2 ⟨ra1,rn1,rc1,rfl,M,K⟩ _
 replace H:=H.merge K M
 obtain rfl:=H.rowNB 0 rfl
 have al:=appl_len s t
 refine sq 1 (zjc (sw (zW H underlying264 ti269 fun b7 w8 H=>sq 1 (zjc (sw (zW H underlying265 ti41 fun b9 w10 H=>sq 1 (zjcc (sp (yI 0) (zjn (qV ?_))))))))))
 refine zA ((fun Z0 Z1 Z2 Z3 Z4 Z5 Z6 Z7 Z8 Z9=>fun m' ρ w11=>∃ (xQ:Env) (c:Nat),ρ=upd (upd (upd (upd (upd (upd xQ 0 (pp bs os)) 1 (pp bt ot)) 7 (Sv ra1 ((appl s t).length) rc1)) 8 (Sv (aa b7 0) 0 0)) 9 (Sv (aa b9 0) 0 0)) 10 (yI c)/\((c:Int)<=s.qC.length)/\m' =(s.qC.length - (c:Int)).toNat/\Fresh w.heap.size []/\St w w11 [Z0,Z1,Z2] [Z3,Z4,Z5,Z6,Z7,Z8,Z9]) _ _ _ _ _ _ _ _ _ _) ((s.qC.length - (0:Int)).toNat) ⟨_,0,uE6,qf,rfl,N,H⟩ ?_
 clear H N
 rintro m' ρ w12 ⟨xQ,c,rfl,i0,rfl,N,H⟩
 refine zcc (sp (yI c) (sq 2 (oF rfl (oL rfl (H.xW 0 rfl 1 rfl) (oN rfl (sq 1 (zjn (cD rfl (fun h13=>?_) (fun h13=>?_)))))))))
 ·refine qU (t_n (xU (qV (zcr (sq 2 (sp (yI c) (sw (zN #[pp bs os,Sv ra1 ((appl s t).length) rc1,yI c] rfl rfl call248 (en func248 ntmps248 ?_)))))))))
  refine zcr (sq 2 (zjc (sw (zW H underlying269 ti3 fun b14 w15 H=>sq 1 (zjc (sw (zW H underlying41 ti27 fun b16 w17 H=>sq 1 (zjcc (sp (yI 0) (zjn (qV ?_)))))))))))
  replace H:=H.vI 1 [] 0
  replace H:=H.boxRow 0 rfl 1 0 rfl qj
  replace H:=H.vV (α:=yLI)
  replace H:=H.unfree 0 rfl
  refine zA ((fun Z0 Z1 Z2 Z3 Z4 Z5 Z6 Z7 Z8 Z9=>fun m' ρ w18=>∃ (xQ:Env) (a_rules:yOA) (Xu:Nat) (c_rules:Nat) (rules:yLI) (a_needs:yOA) (n_needs:Nat) (c_needs:Nat) (needs:yLL) (x_needs:List Value) (F_needs:yLN) (i:Nat),ρ=upd (upd (upd (upd (upd (upd xQ 0 (pp bs os)) 1 (Sv ra1 ((appl s t).length) rc1)) 2 (yI c)) 8 (Sv a_rules Xu c_rules)) 9 (Sv a_needs n_needs c_needs)) 10 (yI i)/\rules=(cellT s t i c)/\needs=(vT s (cellT s t i c))/\((i:Int)<=((appl s t).length))/\m' =(((appl s t).length) - (i:Int)).toNat/\Fresh w.heap.size []/\St w w18 [rr a_needs n_needs c_needs 27 1 x_needs,rr a_rules Xu c_rules 3 1 (rules.map (Value.int .i64)),Z0,Z1,Z2] [xN false F_needs x_needs needs,Z3,Z4,Z5,Z6,Z7,Z8,Z9]) _ _ _ _ _ _ _ _ _ _) ((((appl s t).length) - (0:Int)).toNat) ⟨_,(aa b14 0),0,0,([]:yLI),(aa b16 0),0,0,([]:yLL),[],[],0,uE6,(by rfl),(by rfl),qf,rfl,N,H.pick (zR 0 5) (0::zR 2 7)⟩ ?_
  clear H N
  rintro m' ρ w19 ⟨xQ,a_rules,Xu,c_rules,rules,a_needs,n_needs,c_needs,needs,x_needs,F_needs,i,rfl,rfl,rfl,i0,rfl,N,H⟩
  have hn_rules:=H.yt 1 rfl
  have hn_needs:=H.xB (α:=yLI) 0 rfl 0 rfl qj
  have tl:=cellT_le s t i c
  have nl:=Xt s (cellT s t i c)
  refine zcc (sp (yI i) (sq 1 (oN rfl (sq 1 (zjn (cD rfl (fun h20=>?_) (fun h20=>?_)))))))
  ·refine qU (t_n (xU (qV (zcr (sq 1 (sp (yI i) ?_))))))
   obtain ⟨b21,rfl⟩:=H.y5 4 rfl qf
   refine oI rfl rfl (oL rfl (H.rowBool 4 rfl (iv:=i) (i:=i) qf qf) (sp (Bv ((appl s t)[i]!)) ?_))
   cases h22:((appl s t)[i]!)
   ·refine xR (zR 24 10) (sp (Bv false) (zjn (cFr rfl (qU (b_n (t_n (xK (sp (yI i) (sw (zi i 1 rfl rfl qf (sq 1 (xP (qW (m' :=(((appl s t).length) - ((i+1):Int)).toNat) qf ⟨_,_,_,_,_,_,_,_,_,_,_,i+1,uE6,?_,?_,?_,rfl,N,H⟩)))))))))))))
    ·first | exact cellT_yes (QH qf ‹_›) ‹_› | exact Xc (Qd qf ‹_›) | exact QO ‹_›
    ·first | exact needs_yes (QH qf ‹_›) ‹_› | exact congrArg (vT s) (Xc (Qd qf ‹_›)) | exact congrArg (vT s) (QO ‹_›)
    ·omega
   refine qJ 23 rfl rfl (sq 1 (qJ 23 rfl rfl (sq 1 (qJ 23 rfl rfl (oF rfl (qJ 23 rfl rfl (oL rfl (H.xW 1 rfl 2 rfl) (qJ 23 rfl rfl (sp (yI i) (qJ 23 rfl rfl ?_))))))))))
   obtain ⟨b23,o24,rfl⟩:=H.addr 3 rfl qf
   obtain ⟨ae26Need,ce26Need,Fe26Need,ae26Have,ce26Have,Fe26Have,ae26Lack,ce26Lack,Fe26Lack,ae26Here,ce26Here,Fe26Here,ae26Out,ce26Out,Fe26Out,ae26Into,ce26Into,Fe26Into,H⟩:=H.Qc 3 rfl i i qf qf qf
   refine oI rfl rfl (qJ 23 rfl rfl (oF rfl (qJ 23 rfl rfl (oL rfl (H.xW 6 rfl 0 rfl) (qJ 23 rfl rfl (sp (yI c) (qJ 23 rfl rfl (sq 2 (zjn (cE rfl (fun h27=>?_) (fun h27=>?_)))))))))))
   ·refine zcr (sq 1 (sp (yI i) (sw (xx H underlying269 ti3 [yI i] fun b28 w29 H=>sw (zG H 2 rfl 0 rfl underlying269 ti3 rfl qj rfl rfl rfl qw qp qf fun a30 c31 w32 H=>?_)))))
    rw [snocI] at H
    refine sq 1 (zjn (xK (sq 3 (oF rfl (oL rfl (H.xW 8 rfl 2 rfl) (sp (yI i) (oI rfl rfl (oF rfl (oL rfl (H.xW 6 rfl 2 rfl) (sw (xx H underlying41 ti27 [Sv ae26Need (((s.qE[i]!).vF).length) ce26Need] fun b33 w34 H=>sw (zG H 2 rfl 0 rfl underlying41 ti27 rfl qj rfl rfl rfl qw qp qf fun a35 c36 w37 H=>?_))))))))))))
    replace H:=H.yC 7 rfl 0 rfl
    refine sq 1 (xP (b_n (t_n (xK (sp (yI i) (sw (zi i 1 rfl rfl qf (sq 1 (xP (qW (m' :=(((appl s t).length) - ((i+1):Int)).toNat) qf ⟨_,_,_,_,_,_,_,_,_,_,_,i+1,uE6,?_,?_,?_,rfl,N,H.pick (zR 2 5) (0::zR 9 7)⟩))))))))))
    ·first | exact cellT_yes (QH qf ‹_›) ‹_› | exact Xc (Qd qf ‹_›) | exact QO ‹_›
    ·first | exact needs_yes (QH qf ‹_›) ‹_› | exact congrArg (vT s) (Xc (Qd qf ‹_›)) | exact congrArg (vT s) (QO ‹_›)
    ·omega
   refine qU (b_n (t_n (xK (sp (yI i) (sw (zi i 1 rfl rfl qf (sq 1 (xP (qW (m' :=(((appl s t).length) - ((i+1):Int)).toNat) qf ⟨_,_,_,_,_,_,_,_,_,_,_,i+1,uE6,?_,?_,?_,rfl,N,H.pick (zR 0 5) (zR 7 8)⟩)))))))))
   ·first | exact cellT_yes (QH qf ‹_›) ‹_› | exact Xc (Qd qf ‹_›) | exact QO ‹_›
   ·first | exact needs_yes (QH qf ‹_›) ‹_› | exact congrArg (vT s) (Xc (Qd qf ‹_›)) | exact congrArg (vT s) (QO ‹_›)
   ·omega
  refine zx4 (zcr (sq 4 (zjr (ret2 (Sv a_rules Xu c_rules) (Sv a_needs n_needs c_needs) rfl rfl rfl ⟨_,rfl,?_⟩))))
  obtain rfl:i=s.qE.length:=by omega
  rw [show cellT s t s.qE.length c=vU s t c from rfl] at H hn_rules hn_needs
  refine sq 5 (zjc (sq 1 (oN rfl (sp (Bv (decide ((Xu:Int) > 0))) (sp (Bv (decide ((Xu:Int) > 0))) ?_)))))
  cases h38:(decide ((Xu:Int) > 0))
  ·replace h38:=of_decide_eq_false h38
   refine xR (zR 43 9) (sp (Bv false) (zjn (cFr rfl (qU (b_n (t_n (xK (sp (yI c) (sw (zi c 1 rfl rfl qf (sq 1 (xP (qW (m' :=(s.qC.length - ((c+1):Int)).toNat) qf ⟨_,c+1,uE6,?_,rfl,N,H.pick [2,3,4] (zR 1 7)⟩)))))))))))))
   ·omega
  replace h38:=of_decide_eq_true h38
  refine qJ 42 rfl rfl (sq 1 (qJ 42 rfl rfl (sq 1 (qJ 42 rfl rfl (oF rfl (qJ 42 rfl rfl (oL rfl (H.xW 4 rfl 1 rfl) (qJ 42 rfl rfl (sp (yI c) (qJ 42 rfl rfl ?_))))))))))
  obtain ⟨b39,o40,rfl⟩:=H.addr 6 rfl qf
  obtain ⟨ae42,ce42,Fe42,H⟩:=H.ji 6 rfl c c qf qf qf
  refine oI rfl rfl (qJ 42 rfl rfl (oL rfl (H.xW 1 rfl 0 rfl) (qJ 42 rfl rfl ?_)))
  have sm:=vP (p1.2.2.2.2 c qf).1
  refine sw (oq (X4 _ (t.qP[c]!) (H.get 0 rfl).1 (by first | assumption | exact vP ql | exact yX ql)) H fun w43 H=>qJ 42 rfl rfl (sp (Bv (decide ((Xh (t.qP[c]!):Int) > 16))) (sp (Bv (decide ((Xh (t.qP[c]!):Int) > 16))) (zjn (cD rfl (fun h45=>?_) (fun h45=>?_))))))
  ·refine zcr (sq 4 (sp (yI 3) (zjr (zr5 (ret3 (Sv (aa b7 0) 0 0) (Sv (aa b9 0) 0 0) (yI 3) rfl rfl rfl rfl ⟨_,rfl,?_⟩)))))
   replace H:=H.erases [4,1,0]
   dsimp only [zU,List.eraseIdx] at H
   refine sq 3 (sp (yI 3) (sq 2 (sp (yI 3) (zjcc (sp (yI 3) (sp (Bv true) (zjn (cTr rfl (zcr (sw (zW H underlying41 ti27 fun b46 w47 H=>sp (yI 3) (sq 1 (sp (yI 3) (zjr (t_r ?_)))))))))))))))
   replace H:=H.boxRow 0 rfl 1 0 rfl qj
   replace H:=H.vV (α:=yLI)
   refine ret2 (Sv (aa b46 0) 0 0) (yI 3) rfl rfl rfl ⟨_,rfl,?_,H.base⟩
   first | rw [cho_3 (.inl (bad_sum (c:=c) qf qf qf))] | rw [cho_3 (.inr qf)]
   exact ⟨(aa b46 0),0,0,[],[],rfl,N.emp,H.pick [0] [0]⟩
  refine qU (b_n (t_n (xK (sp (yI c) (sw (zi c 1 rfl rfl qf (sq 1 (xP (qW (m' :=(s.qC.length - ((c+1):Int)).toNat) qf ⟨_,c+1,uE6,?_,rfl,N,H.pick [2,3,4] (zR 3 7)⟩)))))))))
  ·omega
 refine zx4 (zcc (sp (yI 0) (zjn (qV ?_))))
 replace H:=H.boxRow 1 rfl 1 0 rfl qj
 replace H:=H.vV (α:=yLI)
 replace H:=H.boxRow 0 rfl 1 0 rfl qj
 replace H:=H.vV (α:=yLL)
 refine zA ((fun Z0 Z1 Z2 Z3 Z4 Z5 Z6 Z7=>fun m' ρ w48=>∃ (xQ:Env) (a_rules:yOA) (Xu:Nat) (c_rules:Nat) (rules:yLL) (x_rules:List Value) (F_rules:yLN) (a_all:yOA) (n_all:Nat) (c_all:Nat) (all:List yLL) (x_all:List Value) (F_all:yLN) (c_1:Nat),ρ=upd (upd (upd (upd (upd (upd xQ 0 (pp bs os)) 1 (pp bt ot)) 7 (Sv ra1 ((appl s t).length) rc1)) 8 (Sv a_rules Xu c_rules)) 9 (Sv a_all n_all c_all)) 13 (yI c_1)/\rules=(xy s t c_1)/\all=(zl s t c_1)/\((c_1:Int)<=s.qC.length)/\(GoodP s t c_1)/\m' =(s.qC.length - (c_1:Int)).toNat/\Fresh w.heap.size [F_rules,F_all]/\St w w48 [rr a_all n_all c_all 41 1 x_all,rr a_rules Xu c_rules 269 1 x_rules,Z0] [xN true F_rules x_rules rules,xN true F_all x_all all,Z1,Z2,Z3,Z4,Z5,Z6,Z7]) _ _ _ _ _ _ _ _) ((s.qC.length - (0:Int)).toNat) ⟨_,(aa b7 0),0,0,([]:yLL),[],[],(aa b9 0),0,0,([]:List yLL),[],[],0,uE6,(by rfl),(by rfl),qf,qx,rfl,N.emp.emp,H⟩ ?_
 clear H N
 rintro m' ρ w49 ⟨xQ,a_rules,Xu,c_rules,rules,x_rules,F_rules,a_all,n_all,c_all,all,x_all,F_all,c_1,rfl,rfl,rfl,i0,gp,rfl,N,H⟩
 have hn_rules:=H.xB (α:=yLI) 1 rfl 0 rfl qj
 have hn_all:=H.xB (α:=yLL) 0 rfl 1 rfl qj
 have rl:=rules_le s t c_1
 have pl:=packsL_le s t c_1
 refine zcc (sq 3 (oF rfl (oL rfl (H.xW 2 rfl 1 rfl) (oN rfl (sq 1 (zjn (cD rfl (fun h50=>?_) (fun h50=>?_))))))))
 ·refine qU (t_n (xU (qV (zcr (sq 3 (sw (zN #[pp bs os,Sv ra1 ((appl s t).length) rc1,yI c_1] rfl rfl call248 (en func248 ntmps248 ?_))))))))
  refine zcr (sq 2 (zjc (sw (zW H underlying269 ti3 fun b51 w52 H=>sq 1 (zjc (sw (zW H underlying41 ti27 fun b53 w54 H=>sq 1 (zjcc (sp (yI 0) (zjn (qV ?_)))))))))))
  replace H:=H.vI 1 [] 0
  replace H:=H.boxRow 0 rfl 1 0 rfl qj
  replace H:=H.vV (α:=yLI)
  replace H:=H.unfree 0 rfl
  refine zA ((fun Z0 Z1 Z2 Z3 Z4 Z5 Z6 Z7 Z8 Z9 Z10 Z11=>fun m' ρ w55=>∃ (xQ:Env) (a_rules_1:yOA) (n_rules_1:Nat) (c_rules_1:Nat) (rules_1:yLI) (a_needs:yOA) (n_needs:Nat) (c_needs:Nat) (needs:yLL) (x_needs:List Value) (F_needs:yLN) (i:Nat),ρ=upd (upd (upd (upd (upd (upd xQ 0 (pp bs os)) 1 (Sv ra1 ((appl s t).length) rc1)) 2 (yI c_1)) 8 (Sv a_rules_1 n_rules_1 c_rules_1)) 9 (Sv a_needs n_needs c_needs)) 10 (yI i)/\rules_1=(cellT s t i c_1)/\needs=(vT s (cellT s t i c_1))/\((i:Int)<=((appl s t).length))/\m' =(((appl s t).length) - (i:Int)).toNat/\Fresh w.heap.size [F_rules,F_all]/\St w w55 [rr a_needs n_needs c_needs 27 1 x_needs,rr a_rules_1 n_rules_1 c_rules_1 3 1 (rules_1.map (Value.int .i64)),Z0,Z1,Z2] [xN false F_needs x_needs needs,Z3,Z4,Z5,Z6,Z7,Z8,Z9,Z10,Z11]) _ _ _ _ _ _ _ _ _ _ _ _) ((((appl s t).length) - (0:Int)).toNat) ⟨_,(aa b51 0),0,0,([]:yLI),(aa b53 0),0,0,([]:yLL),[],[],0,uE6,(by rfl),(by rfl),qf,rfl,N,H.pick (zR 0 5) (0::zR 2 9)⟩ ?_
  clear H N
  rintro m' ρ w56 ⟨xQ,a_rules_1,n_rules_1,c_rules_1,rules_1,a_needs,n_needs,c_needs,needs,x_needs,F_needs,i,rfl,rfl,rfl,i0,rfl,N,H⟩
  have hn_rules:=H.yt 1 rfl
  have hn_needs:=H.xB (α:=yLI) 0 rfl 0 rfl qj
  have tl:=cellT_le s t i c_1
  have nl:=Xt s (cellT s t i c_1)
  refine zcc (sp (yI i) (sq 1 (oN rfl (sq 1 (zjn (cD rfl (fun h57=>?_) (fun h57=>?_)))))))
  ·refine qU (t_n (xU (qV (zcr (sq 1 (sp (yI i) ?_))))))
   obtain ⟨b58,rfl⟩:=H.y5 4 rfl qf
   refine oI rfl rfl (oL rfl (H.rowBool 4 rfl (iv:=i) (i:=i) qf qf) (sp (Bv ((appl s t)[i]!)) ?_))
   cases h59:((appl s t)[i]!)
   ·refine xR (zR 24 10) (sp (Bv false) (zjn (cFr rfl (qU (b_n (t_n (xK (sp (yI i) (sw (zi i 1 rfl rfl qf (sq 1 (xP (qW (m' :=(((appl s t).length) - ((i+1):Int)).toNat) qf ⟨_,_,_,_,_,_,_,_,_,_,_,i+1,uE6,?_,?_,?_,rfl,N,H⟩)))))))))))))
    ·first | exact cellT_yes (QH qf ‹_›) ‹_› | exact Xc (Qd qf ‹_›) | exact QO ‹_›
    ·first | exact needs_yes (QH qf ‹_›) ‹_› | exact congrArg (vT s) (Xc (Qd qf ‹_›)) | exact congrArg (vT s) (QO ‹_›)
    ·omega
   refine qJ 23 rfl rfl (sq 1 (qJ 23 rfl rfl (sq 1 (qJ 23 rfl rfl (oF rfl (qJ 23 rfl rfl (oL rfl (H.xW 3 rfl 2 rfl) (qJ 23 rfl rfl (sp (yI i) (qJ 23 rfl rfl ?_))))))))))
   obtain ⟨b60,o61,rfl⟩:=H.addr 5 rfl qf
   obtain ⟨ae63Need,ce63Need,Fe63Need,ae63Have,ce63Have,Fe63Have,ae63Lack,ce63Lack,Fe63Lack,ae63Here,ce63Here,Fe63Here,ae63Out,ce63Out,Fe63Out,ae63Into,ce63Into,Fe63Into,H⟩:=H.Qc 5 rfl i i qf qf qf
   refine oI rfl rfl (qJ 23 rfl rfl (oF rfl (qJ 23 rfl rfl (oL rfl (H.xW 6 rfl 0 rfl) (qJ 23 rfl rfl (sq 1 (qJ 23 rfl rfl (sq 2 (zjn (cE rfl (fun h64=>?_) (fun h64=>?_)))))))))))
   ·refine zcr (sq 1 (sp (yI i) (sw (xx H underlying269 ti3 [yI i] fun b65 w66 H=>sw (zG H 2 rfl 0 rfl underlying269 ti3 rfl qj rfl rfl rfl qw qp qf fun a67 c68 w69 H=>?_)))))
    rw [snocI] at H
    refine sq 1 (zjn (xK (sq 3 (oF rfl (oL rfl (H.xW 10 rfl 2 rfl) (sp (yI i) (oI rfl rfl (oF rfl (oL rfl (H.xW 6 rfl 2 rfl) (sw (xx H underlying41 ti27 [Sv ae63Need (((s.qE[i]!).vF).length) ce63Need] fun b70 w71 H=>sw (zG H 2 rfl 0 rfl underlying41 ti27 rfl qj rfl rfl rfl qw qp qf fun a72 c73 w74 H=>?_))))))))))))
    replace H:=H.yC 7 rfl 0 rfl
    refine sq 1 (xP (b_n (t_n (xK (sp (yI i) (sw (zi i 1 rfl rfl qf (sq 1 (xP (qW (m' :=(((appl s t).length) - ((i+1):Int)).toNat) qf ⟨_,_,_,_,_,_,_,_,_,_,_,i+1,uE6,?_,?_,?_,rfl,N,H.pick (zR 2 5) (0::zR 9 9)⟩))))))))))
    ·first | exact cellT_yes (QH qf ‹_›) ‹_› | exact Xc (Qd qf ‹_›) | exact QO ‹_›
    ·first | exact needs_yes (QH qf ‹_›) ‹_› | exact congrArg (vT s) (Xc (Qd qf ‹_›)) | exact congrArg (vT s) (QO ‹_›)
    ·omega
   refine qU (b_n (t_n (xK (sp (yI i) (sw (zi i 1 rfl rfl qf (sq 1 (xP (qW (m' :=(((appl s t).length) - ((i+1):Int)).toNat) qf ⟨_,_,_,_,_,_,_,_,_,_,_,i+1,uE6,?_,?_,?_,rfl,N,H.pick (zR 0 5) (zR 7 10)⟩)))))))))
   ·first | exact cellT_yes (QH qf ‹_›) ‹_› | exact Xc (Qd qf ‹_›) | exact QO ‹_›
   ·first | exact needs_yes (QH qf ‹_›) ‹_› | exact congrArg (vT s) (Xc (Qd qf ‹_›)) | exact congrArg (vT s) (QO ‹_›)
   ·omega
  refine zx4 (zcr (sq 4 (zjr (ret2 (Sv a_rules_1 n_rules_1 c_rules_1) (Sv a_needs n_needs c_needs) rfl rfl rfl ⟨_,rfl,?_⟩))))
  obtain rfl:i=s.qE.length:=by omega
  rw [show cellT s t s.qE.length c_1=vU s t c_1 from rfl] at H hn_rules hn_needs
  refine sq 5 (zjcc (sq 1 (oN rfl (sp (Bv ((n_rules_1:Int) == 0)) (zjn (cE rfl (fun h75=>?_) (fun h75=>?_)))))))
  ·refine c_exit (t_x (b_x (t_n (xK (sq 1 (sw (zi c_1 1 rfl rfl qf (sq 1 (xP (qW (m' :=(s.qC.length - ((c_1+1):Int)).toNat) qf ⟨_,_,_,_,_,_,_,_,_,_,_,_,_,c_1+1,uE6,?_,?_,?_,?_,rfl,N,H.pick [2,3,4] (zR 1 9)⟩))))))))))
   ·first | exact rules_yes qf | exact rules_no qf
   ·first | exact packsL_yes qf | exact packsL_no qf
   ·omega
   ·exact gp.succ (by first | exact .inl qf | exact .inr (show (yg _ _).2=0 from ‹_›))
  refine qU (t_n (zcr (sq 2 (oF rfl (oL rfl (H.xW 6 rfl 1 rfl) (sq 1 ?_))))))
  obtain ⟨b76,o77,rfl⟩:=H.addr 8 rfl qf
  obtain ⟨ae79,ce79,Fe79,H⟩:=H.ji 8 rfl c_1 c_1 qf qf qf
  refine oI rfl rfl (oL rfl (H.xW 1 rfl 0 rfl) (sq 1 ?_))
  obtain ⟨G80,hn81,h82⟩:=H.XE (α:=yLI) 0 rfl 2 rfl qj
  have cp:=cell_pack p0 p1 (c:=c_1) qf
  have sz86:=H.base.size
  have lt87:=H.ltN (L:=[F_rules,F_all]) [3,4]
  refine sw (oc (jo (by rw [← hn81]) (l01All_ok _ (t.qP[c_1]!) (vT s (vU s t c_1)) (H.get 0 rfl).1 (hn81▸h82) qg)) ?_)
  rintro _ w84 ⟨ra83a,rn83a,rc83a,rx83a,rF83a,rfl,M,K⟩ _
  replace N:=N.merge sz86 lt87 M
  replace H:=H.merge K M
  obtain rfl:=H.xB (α:=yLI) 0 rfl 0 rfl qj
  refine sq 5 (zjcc (sq 1 (sp (Bv (((yg (t.qP[c_1]!) (vT s (vU s t c_1))).2:Int) != 0)) (zjn ?_))))
  refine zT (((yg (t.qP[c_1]!) (vT s (vU s t c_1))).2:Int) != 0) rfl (fun h89=>?_) (fun h89=>?_)
  ·replace h89:=bne_iff_ne.1 h89
   refine zcr (sq 6 (zjr (t_r (zr5 (ret3 (Sv a_rules Xu c_rules) (Sv a_all n_all c_all) (yI ((yg (t.qP[c_1]!) (vT s (vU s t c_1))).2)) rfl rfl rfl rfl ⟨_,rfl,?_⟩)))))
   replace H:=H.erases [5,2,1,0]
   dsimp only [zU,List.eraseIdx] at H
   refine sq 7 (zjcc (sq 1 (sp (Bv (((yg (t.qP[c_1]!) (vT s (vU s t c_1))).2:Int) != 0)) (zjn ?_))))
   refine zT (((yg (t.qP[c_1]!) (vT s (vU s t c_1))).2:Int) != 0) rfl (fun h90=>?_) (fun h=>absurd (xu h) h89)
   replace h90:=bne_iff_ne.1 h90
   refine zcr (sw (zW H underlying41 ti27 fun b91 w92 H=>sq 3 (zjr (t_r ?_))))
   replace H:=H.boxRow 0 rfl 1 0 rfl qj
   replace H:=H.vV (α:=yLI)
   refine ret2 (Sv (aa b91 0) 0 0) (yI ((yg (t.qP[c_1]!) (vT s (vU s t c_1))).2)) rfl rfl rfl ⟨_,rfl,?_,H.base⟩
   rw [cho_code (bad_code (c:=c_1) qf qf ‹_›) ‹_›]
   exact ⟨(aa b91 0),0,0,[],[],rfl,(N.emp.pick [0]),H.pick [0] [0]⟩
  replace h89:=xu h89
  refine qU (t_n (zcr (sq 2 (sw (xx H underlying264 ti269 [Sv a_rules_1 n_rules_1 c_rules_1] fun b93 w94 H=>?_)))))
  obtain ⟨G98,N,hn99,H⟩:=H.zh 3 rfl N (H.vz [0,4,5])
  refine sw (zG H 5 rfl 0 rfl underlying264 ti269 rfl qj rfl rfl rfl qw qp qf fun a95 c96 w97 H=>?_)
  replace H:=H.yC 5 rfl 0 rfl
  replace N:Fresh w.heap.size [(F_rules++G98),rF83a,F_all]:=(N.pick [2,0,1,3]).join
  refine sq 1 (zjn (xK (sq 2 (sw (xx H underlying265 ti41 [Sv ra83a (((yg (t.qP[c_1]!) (vT s (vU s t c_1))).1).length) rc83a] fun b100 w101 H=>?_)))))
  have H0:=H
  obtain ⟨G105,hg107,hn106,H⟩:=H.Qj (α:=yLI) 2 rfl 2 rfl qj
  replace N:Fresh w.heap.size [G105,(F_rules++G98),F_all]:=Fresh.ice (N.pick [1,0,2]) H0 2 hg107.1 hg107.2 (H0.vz [0,7])
  clear H0
  refine sw (zG H 5 rfl 0 rfl underlying265 ti41 rfl qj rfl rfl rfl qw qp qf fun a102 c103 w104 H=>?_)
  replace H:=H.yC 8 rfl 0 rfl
  replace N:Fresh w.heap.size [(F_all++G105),(F_rules++G98)]:=(N.pick [2,0,1]).join
  refine sq 1 (xP (b_n (t_n (xK (sq 1 (sw (zi c_1 1 rfl rfl qf (sq 1 (xP (qW (m' :=(s.qC.length - ((c_1+1):Int)).toNat) qf ⟨_,_,_,_,_,_,_,_,_,_,_,_,_,c_1+1,uE6,?_,?_,?_,?_,rfl,(N.pick [1,0]),H.pick [5,6,7] (2::0::zR 10 7)⟩))))))))))
  ·first | exact rules_yes qf | exact rules_no qf
  ·first | exact packsL_yes qf | exact packsL_no qf
  ·omega
  ·exact gp.succ (by first | exact .inl qf | exact .inr (show (yg _ _).2=0 from ‹_›))
 refine zx4 (zcr (sq 4 (sp (yI 0) (zjr (ret3 (Sv a_rules Xu c_rules) (Sv a_all n_all c_all) (yI 0) rfl rfl rfl rfl ⟨_,rfl,?_⟩)))))
 replace H:=H.erases [2]
 dsimp only [zU,List.eraseIdx] at H
 obtain rfl:c_1=s.qC.length:=by omega
 have kb:=prod_bd p0 p1 (k:=s.qC.length) qf gp
 have kn:=packsL_ne p0 p1 (k:=s.qC.length) qf gp
 have kr:=rules_le s t s.qC.length
 have kl:=packsL_le s t s.qC.length
 refine sq 3 (sp (yI 0) (sq 2 (sp (yI 0) (zjcc (sp (yI 0) (sp (Bv false) (zjn (cFr rfl (qU (t_n (zcc (sq 1 ?_))))))))))))
 obtain ⟨G108,hn109,h110⟩:=H.XE (α:=yLL) 0 rfl 1 rfl qj
 refine sw (oq (jo (by rw [← hn109]) (l03Count_ok _ (zl s t s.qC.length) (hn109▸h110) qg)) H fun w112 H=>sp (Bv (decide ((((Q9 (zl s t s.qC.length) (zl s t s.qC.length).length:Nat):Int):Int) > 300))) (zjn (cD rfl (fun h114=>?_) (fun h114=>?_))))
 ·refine zcr (sw (zW H underlying41 ti27 fun b115 w116 H=>sq 1 (sp (yI 3) (zjr (t_r ?_)))))
  replace H:=H.boxRow 0 rfl 1 0 rfl qj
  replace H:=H.vV (α:=yLI)
  refine ret2 (Sv (aa b115 0) 0 0) (yI 3) rfl rfl rfl ⟨_,rfl,?_,H.base⟩
  first | rw [cho_3 (.inl (bad_sum (c:=c) qf qf qf))] | rw [cho_3 (.inr qf)]
  exact ⟨(aa b115 0),0,0,[],[],rfl,(N.emp.pick [0]),H.pick [0] [0]⟩
 have kc:¬ Q9 (zl s t s.qC.length) (zl s t s.qC.length).length > 300:=by omega
 refine qU (t_n (zcr (sq 2 (oF rfl (oL rfl (H.xW 2 rfl 2 rfl) (oN rfl (sw (Qr H underlying27 ti2 s.qE.length rfl rfl qf qf qf fun b117 w118 H=>sw (xx H underlying41 ti27 [Sv (aa b117 0) s.qE.length s.qE.length] fun b119 w120 H=>sq 1 (zjcc (sp (yI 0) (zjn (qV ?_)))))))))))))
 have H0:=H
 obtain ⟨G121,hg123,hn122,H⟩:=H.Qj (α:=yLI) 3 rfl 0 rfl qj
 replace N:Fresh w.heap.size [G121,F_all]:=Fresh.ice N H0 3 hg123.1 hg123.2 (H0.vz [1])
 clear H0
 have H0:=H
 obtain ⟨G124,hg126,hn125,H⟩:=H.Qj (α:=yLL) 2 rfl 2 rfl qj
 replace N:Fresh w.heap.size [G124,G121]:=Fresh.ice (N.pick [1,0]) H0 2 hg126.1 hg126.2 (H0.vz [0])
 clear H0
 replace H:=H.boxRow 0 rfl 1 1 rfl qj
 replace H:=H.vV (α:=yLI)
 obtain ⟨G127,N,hn128,H⟩:=H.zh 1 rfl N (H.vz [1,2])
 replace H:=H.Xl true 0 rfl 1 rfl qm
 replace N:Fresh w.heap.size [(G127++[]),G124,G121]:=(N.emp.pick [1,0,2,3]).join
 refine zA ((fun Z0 Z1=>fun m' ρ w129=>∃ (xQ:Env) (jl:yOA) (vC:Nat) (jh:Nat) (out:yLL) (Xk:List Value) (yZ:yLN) (i:Nat),ρ=upd (upd (upd (upd xQ 6 (Sv a_rules Xu c_rules)) 7 (Sv a_all n_all c_all)) 9 (Sv jl vC jh)) 10 (yI i)/\out=(Qa s.qE.length (xy s t s.qC.length) (zl s t s.qC.length) i)/\((i:Int)<=n_all)/\m' =(n_all - (i:Int)).toNat/\Fresh w.heap.size [G124,G121,yZ]/\St w w129 [rr jl vC jh 27 1 Xk] [xN true yZ Xk out,Z0,Z1]) _ _) ((n_all - (0:Int)).toNat) ⟨_,(aa b119 0),1,1,[(List.replicate s.qE.length (0:Int))],[Sv (aa b117 0) s.qE.length s.qE.length],(G127++[]),0,uE4,(by rfl),qf,rfl,(N.pick [1,2,0]),H.pick [0] [0,3,4]⟩ ?_
 clear H N
 rintro m' ρ w130 ⟨xQ,jl,vC,jh,out,Xk,yZ,i,rfl,rfl,i0,rfl,N,H⟩
 have hn_out:=H.xB (α:=yLI) 0 rfl 0 rfl qj
 refine zcc (sp (yI i) (sq 1 (oN rfl (sq 1 (zjn (cD rfl (fun h131=>?_) (fun h131=>?_)))))))
 ·have ga:=G_le (n:=s.qE.length) (rs:=(xy s t s.qC.length)) (i:=i) kn kc qf
  obtain ⟨gb,gc⟩:=cell_few (s:=s) (t:=t) (n:=s.qC.length) (i:=i) p0 qf
  refine qU (t_n (xU (qV (zcr (sw (zW H underlying41 ti27 fun b132 w133 H=>sq 1 (zjcc (sp (yI 0) (zjn (qV ?_))))))))))
  replace H:=H.boxRow 0 rfl 1 0 rfl qj
  replace H:=H.vV (α:=yLI)
  refine zA ((fun Z0 Z1 Z2 Z3=>fun m' ρ w134=>∃ (xQ:Env) (a_next:yOA) (n_next:Nat) (c_next:Nat) (next:yLL) (x_next:List Value) (F_next:yLN) (k:Nat),ρ=upd (upd (upd (upd (upd (upd xQ 6 (Sv a_rules Xu c_rules)) 7 (Sv a_all n_all c_all)) 9 (Sv jl vC jh)) 10 (yI i)) 11 (Sv a_next n_next c_next)) 12 (yI k)/\next=(nextK (Qa s.qE.length (xy s t s.qC.length) (zl s t s.qC.length) i) ((xy s t s.qC.length)[i]!) ((zl s t s.qC.length)[i]!) k)/\((k:Int)<=vC)/\m' =(vC - (k:Int)).toNat/\Fresh w.heap.size [G124,G121,yZ,F_next]/\St w w134 [rr a_next n_next c_next 27 1 x_next,Z0] [xN true F_next x_next next,Z1,Z2,Z3]) _ _ _ _) ((vC - (0:Int)).toNat) ⟨_,(aa b132 0),0,0,([]:yLL),[],[],0,uE6,(by rfl),qf,rfl,(N.emp.pick [1,2,3,0]),H⟩ ?_
  clear H N
  rintro m' ρ w135 ⟨xQ,a_next,n_next,c_next,next,x_next,F_next,k,rfl,rfl,i0,rfl,N,H⟩
  have hn_next:=H.xB (α:=yLI) 0 rfl 0 rfl qj
  refine zcc (sp (yI k) (sq 1 (oN rfl (sq 1 (zjn (cD rfl (fun h136=>?_) (fun h136=>?_)))))))
  ·refine qU (t_n (xU (qV (zcr (sp (yI 0) (zjn (qV ?_)))))))
   refine zA ((fun Z0 Z1 Z2 Z3=>fun m' ρ w137=>∃ (xQ:Env) (a_next_1:yOA) (n_next_1:Nat) (c_next_1:Nat) (next_1:yLL) (x_next_1:List Value) (XD:yLN) (x:Nat),ρ=upd (upd (upd (upd (upd (upd (upd xQ 6 (Sv a_rules Xu c_rules)) 7 (Sv a_all n_all c_all)) 9 (Sv jl vC jh)) 10 (yI i)) 11 (Sv a_next_1 n_next_1 c_next_1)) 12 (yI k)) 13 (yI x)/\next_1=(nextX (Qa s.qE.length (xy s t s.qC.length) (zl s t s.qC.length) i) ((xy s t s.qC.length)[i]!) ((zl s t s.qC.length)[i]!) k x)/\((x:Int)<=(((zl s t s.qC.length)[i]!).length))/\m' =((((zl s t s.qC.length)[i]!).length) - (x:Int)).toNat/\Fresh w.heap.size [G124,G121,yZ,XD]/\St w w137 [rr a_next_1 n_next_1 c_next_1 27 1 x_next_1,Z0] [xN true XD x_next_1 next_1,Z1,Z2,Z3]) _ _ _ _) (((((zl s t s.qC.length)[i]!).length) - (0:Int)).toNat) ⟨_,a_next,n_next,c_next,(nextK (Qa s.qE.length (xy s t s.qC.length) (zl s t s.qC.length) i) ((xy s t s.qC.length)[i]!) ((zl s t s.qC.length)[i]!) k),x_next,F_next,0,uE7,(by exact nextX_zero _ _ _ _),qf,rfl,N,H⟩ ?_
   clear H N
   rintro m' ρ w138 ⟨xQ,a_next_1,n_next_1,c_next_1,next_1,x_next_1,XD,x,rfl,rfl,i0,rfl,N,H⟩
   have hn_next:=H.xB (α:=yLI) 0 rfl 0 rfl qj
   refine zcc (sp (yI x) (sq 1 (sp (yI i) ?_)))
   have hl141:=H.isLen 2 rfl
   obtain ⟨b139,o140,rfl⟩:=H.addr 2 rfl qf
   obtain ⟨ae142,ce142,Fe142,H⟩:=H.ji 2 rfl i i qf qf qf
   refine oI rfl rfl (oL rfl (H.xW 1 rfl 0 rfl) (oN rfl (sq 1 (zjn (cD rfl (fun h143=>?_) (fun h143=>?_))))))
   ·have nx:=next_le (n:=s.qE.length) (rs:=(xy s t s.qC.length)) (i:=i) (k:=k) (x:=x) kn kc qf qf qf
    have g1:=prodG_at (n:=s.qE.length) (rs:=(xy s t s.qC.length)) (all:=(zl s t s.qC.length)) (i:=i) (k:=k) qf
    have g2:=pack_at (s:=s) (t:=t) (n:=s.qC.length) (i:=i) (x:=x) qf qf
    refine qU (t_n (xU (qV (zcr (sq 1 (sp (yI k) ?_))))))
    obtain ⟨b144,rfl⟩:=H.y5 1 rfl qf
    refine oI rfl rfl ?_
    obtain ⟨a145,c146,G147,s148,h149,hx150,hy151,H⟩:=H.rowElemX 1 rfl 3 rfl (iv:=k) k qf qf
    refine oL rfl (H.rowGet 1 rfl hx150) ?_
    have sz152:=H.base.size
    have lt153:=H.ltN (L:=[G124,G121,yZ,XD]) [5,6,4,3]
    refine sw (oc (Xe _ ((Qa s.qE.length (xy s t s.qC.length) (zl s t s.qC.length) i)[k]!) (H.get 0 rfl).1 qg) ?_)
    rintro v157 w155 r157 x156
    replace H:=H.zt x156 r157
    obtain ⟨a158,c159,rfl,hc160,hm161⟩:=H.jm 0 rfl
    refine sq 1 (zjcc (sp (yI 0) (zjn (qV ?_))))
    refine zA ((fun Z0 Z1 Z2 Z3 Z4 Z5 Z6 Z7=>fun m' ρ w162=>∃ (xQ:Env) (r:Nat) (own:yLI),ρ=upd (upd (upd (upd (upd (upd (upd (upd (upd xQ 6 (Sv a_rules Xu c_rules)) 7 (Sv (aa b139 o140) n_all c_all)) 9 (Sv (aa b144 0) vC jh)) 10 (yI i)) 11 (Sv a_next_1 n_next_1 c_next_1)) 12 (yI k)) 13 (yI x)) 14 (Sv a158 (((Qa s.qE.length (xy s t s.qC.length) (zl s t s.qC.length) i)[k]!).length) c159)) 15 (yI r)/\own=(setTo ((Qa s.qE.length (xy s t s.qC.length) (zl s t s.qC.length) i)[k]!) ((xy s t s.qC.length)[i]!) (((zl s t s.qC.length)[i]!)[x]!) r)/\((r:Int)<=(((xy s t s.qC.length)[i]!).length))/\m' =((((xy s t s.qC.length)[i]!).length) - (r:Int)).toNat/\Fresh w.heap.size [G124,G121,yZ,XD]/\St w w162 [rr a158 (((Qa s.qE.length (xy s t s.qC.length) (zl s t s.qC.length) i)[k]!).length) c159 2 1 (own.map (Value.int .i64)),Z0,Z1] [Z2,Z3,Z4,Z5,Z6,Z7]) _ _ _ _ _ _ _ _) (((((xy s t s.qC.length)[i]!).length) - (0:Int)).toNat) ⟨_,0,((Qa s.qE.length (xy s t s.qC.length) (zl s t s.qC.length) i)[k]!),uE9,(by rfl),qf,rfl,N,H.pick [0,1,2] (zR 1 6)⟩ ?_
    clear H N
    rintro m' ρ w163 ⟨xQ,r,own,rfl,rfl,i0,rfl,N,H⟩
    have hn_own:=H.yt 0 rfl
    have sl:=setTo_len ((Qa s.qE.length (xy s t s.qC.length) (zl s t s.qC.length) i)[k]!) ((xy s t s.qC.length)[i]!) (((zl s t s.qC.length)[i]!)[x]!) r
    refine zcc (sp (yI r) (sq 1 (sp (yI i) ?_)))
    have hl166:=H.isLen 5 rfl
    obtain ⟨b164,o165,rfl⟩:=H.addr 5 rfl qf
    obtain ⟨ae167,ce167,Fe167,H⟩:=H.ji 5 rfl i i qf qf qf
    refine oI rfl rfl (oL rfl (H.xW 1 rfl 0 rfl) (oN rfl (sq 1 (zjn (cD rfl (fun h168=>?_) (fun h168=>?_))))))
    ·obtain ⟨g3,g4⟩:=choice_at (s:=s) (t:=t) (n:=s.qC.length) (i:=i) (r:=r) qf qf
     refine qU (t_n (xU (qV ?_)))
     refine Qb rfl H [1,2] fun H=>?_
     have S:=H.jr [1,2] (zR 0 8)
     refine rtl 0 S ?_
     refine rtl 1 S ?_
     refine rtp 2 (yI i) S ?_
     refine tI 3 rfl rfl rfl S ?_
     refine tL 4 rfl rfl (fun _ h=>h.xW 1 rfl 0 rfl) S ?_
     refine rtp 5 (yI r) S ?_
     obtain ⟨b170,o171,rfl⟩:=H.addr 0 rfl qf
     have S:=H.jr [1,2] (zR 0 8)
     refine tI 6 rfl rfl rfl S ?_
     refine tL 7 rfl rfl (fun _ h=>h.zB 0 rfl r qf) S ?_
     refine rtl 8 S ?_
     refine rtp 9 (yI i) S ?_
     refine tI 10 rfl rfl rfl S ?_
     refine tL 11 rfl rfl (fun _ h=>h.xW 3 rfl 0 rfl) S ?_
     refine rtp 12 (yI x) S ?_
     obtain ⟨b173,o174,rfl⟩:=H.addr 2 rfl qf
     obtain ⟨ae176,ce176,Fe176,H⟩:=H.ji 2 rfl x x qf qf qf
     have S:=H.jr [1,2] (zR 2 8)
     refine tI 13 rfl rfl rfl S ?_
     refine rtp 15 (yI r) S ?_
     refine ro 14 rfl (zK (Sv ae176 ((((zl s t s.qC.length)[i]!)[x]!).length) ce176) isAgg27 rfl (H.xW 1 rfl 0 rfl) (⟨H.pick [1,2] (zR 2 8),?_⟩))
     obtain ⟨b177,o178,rfl⟩:=H.addr 0 rfl qf
     refine tI 16 rfl rfl rfl (H.pick [1,2] (zR 2 8)) ?_
     refine ro 17 rfl (zK (yI ((((zl s t s.qC.length)[i]!)[x]!)[r]!)) isAgg2 rfl (H.zB 0 rfl r qf) (⟨H.pick [1,2] (zR 2 8),?_⟩))
     obtain ⟨b180,rfl⟩:=H.y5 0 rfl qf
     refine tI 18 rfl rfl rfl (H.pick [1,2] (zR 2 8)) ?_
     refine ro 19 rfl (XB H 0 rfl ((((zl s t s.qC.length)[i]!)[x]!)[r]!) sizeOf2 rfl rfl (i:=((((xy s t s.qC.length)[i]!)[r]!).toNat)) qf qf fun w181 H=>⟨H.pick [1,2] (zR 2 8),(xA qh (b_n (t_n (xK (sp (yI r) (sw (zi r 1 rfl rfl qf (sq 1 (xP (qW (m' :=((((xy s t s.qC.length)[i]!).length) - ((r+1):Int)).toNat) qf ⟨_,r+1,_,uE9,?_,?_,rfl,N,H.pick [0,1,2] (zR 4 6)⟩))))))))))⟩)
     ·rfl
     ·omega
    refine zx4 (xK (sq 2 (sw (xx H underlying41 ti27 [Sv a158 (((Qa s.qE.length (xy s t s.qC.length) (zl s t s.qC.length) i)[k]!).length) c159] fun b182 w183 H=>?_))))
    obtain ⟨G187,N,hn188,H⟩:=H.zh 1 rfl N (H.vz [6,7,5,4])
    refine sw (zG H 2 rfl 0 rfl underlying41 ti27 rfl qj rfl rfl rfl qw qp qf fun a184 c185 w186 H=>?_)
    replace H:=H.yC 5 rfl 0 rfl
    replace N:Fresh w.heap.size [(XD++G187),G124,G121,yZ]:=(N.pick [4,0,1,2,3]).join
    refine sq 1 (xP (b_n (t_n (xK (sp (yI x) (sw (zi x 1 rfl rfl qf (sq 1 (xP (qW (m' :=((((zl s t s.qC.length)[i]!).length) - ((x+1):Int)).toNat) qf ⟨_,_,_,_,_,_,_,x+1,uE7,?_,?_,rfl,(N.pick [1,2,3,0]),H.pick [2,3] [0,7,8,9]⟩))))))))))
    ·exact nextX_succ qf (by rw [show r=((xy s t s.qC.length)[i]!).length by omega];rfl)
    ·omega
   refine c_exit (t_x (t_x (b_x (b_n (t_n (xK (sp (yI k) (sw (zi k 1 rfl rfl qf (sq 1 (xP (qW (m' :=(vC - ((k+1):Int)).toNat) qf ⟨_,_,_,_,_,_,_,k+1,uE6,?_,?_,rfl,N,H.pick [0,1] (zR 2 4)⟩))))))))))))
   ·exact nextX_end qf qf
   ·omega
  refine zx4 (xK (sq 2 (xP (b_n (t_n (xK (sp (yI i) (sw (zi i 1 rfl rfl qf (sq 1 (xP (qW (m' :=(n_all - ((i+1):Int)).toNat) qf ⟨_,_,_,_,_,_,_,i+1,uE4,?_,?_,rfl,(N.pick [0,1,3]),H.pick [0] [0,2,3]⟩))))))))))))
  ·rw [show k=(Qa s.qE.length (xy s t s.qC.length) (zl s t s.qC.length) i).length by omega];rfl
  ·omega
 refine zx4 (zcc (sp (yI 1) (zjn (qV ?_))))
 have on:0 < (Qa s.qE.length (xy s t s.qC.length) (zl s t s.qC.length) i).length:=by rw [QW,show i=(zl s t s.qC.length).length by omega];exact prod_mono kn (Nat.zero_le _) (Nat.le_refl _)
 have on2:=G_le (n:=s.qE.length) (rs:=(xy s t s.qC.length)) (i:=i) kn kc qf
 refine zA (fun m' ρ w189=>∃ (xQ:Env) (i_1:Nat) (out_1:yLL) (x_out_1:List Value) (F_out_1:yLN),ρ=upd (upd xQ 9 (Sv jl vC jh)) 16 (yI i_1)/\((i_1:Int)<=vC)/\((Qa s.qE.length (xy s t s.qC.length) (zl s t s.qC.length) (zl s t s.qC.length).length).Perm out_1)/\(∀ a b,a < b->b < i_1->¬ ahead (out_1[b]!) (out_1[a]!))/\m' =(vC - (i_1:Int)).toNat/\Fresh w.heap.size [F_out_1]/\St w w189 [rr jl vC jh 27 1 x_out_1] [xN true F_out_1 x_out_1 out_1]) ((vC - (1:Int)).toNat) ⟨_,1,(Qa s.qE.length (xy s t s.qC.length) (zl s t s.qC.length) i),Xk,yZ,uE2,qf,(by rw [show i=(zl s t s.qC.length).length by omega]),(by exact fun a b h1 h2=>by omega),rfl,(N.pick [2]),H.pick [0] [0]⟩ ?_
 clear H N
 rintro m' ρ w190 ⟨xQ,i_1,out_1,x_out_1,F_out_1,rfl,i0,o1,o2,rfl,N,H⟩
 have hn_out:=H.xB (α:=yLI) 0 rfl 0 rfl qj
 refine zcc (sq 2 (oN rfl (sq 1 (zjn (cD rfl (fun h191=>?_) (fun h191=>?_))))))
 ·refine qU (t_n (xU (qV (zcr (sq 2 (zjn (qV ?_)))))))
  refine zA (fun m' ρ w192=>∃ (xQ:Env) (k:Int) (out_51:yLL) (x_out_51:List Value) (F_out_51:yLN),ρ=upd (upd (upd xQ 9 (Sv jl vC jh)) 16 (yI i_1)) 17 (yI k)/\((Qa s.qE.length (xy s t s.qC.length) (zl s t s.qC.length) (zl s t s.qC.length).length).Perm out_51)/\(InsTo out_51 i_1 k.toNat)/\(0<=k/\k<=i_1)/\m' =((k:Int)).toNat/\Fresh w.heap.size [F_out_51]/\St w w192 [rr jl vC jh 27 1 x_out_51] [xN true F_out_51 x_out_51 out_51]) (((i_1:Int)).toNat) ⟨_,i_1,out_1,x_out_1,F_out_1,uE3,ql,(by exact InsTo.start o2),qf,rfl,N,H⟩ ?_
  clear H N
  rintro m' ρ w193 ⟨xQ,k,out_51,x_out_51,F_out_51,rfl,o3,o4,o5,rfl,N,H⟩
  have hn_out:=H.xB (α:=yLI) 0 rfl 0 rfl qj
  refine xU (xU ?_)
  refine jw rfl H fun H=>rtp 0 (yI k) H ?_
  refine rtp 1 (Bv (decide ((k:Int) > 0))) H ?_
  refine rtp 2 (Bv (decide ((k:Int) > 0))) H ?_
  cases h195:(decide ((k:Int) > 0))
  ·replace h195:=of_decide_eq_false h195
   refine zS (zR 3 10) 10 (H) (rtp 13 (Bv false) H ?_)
   refine xA qh (t_n (cFr rfl (c_exit (t_x (t_x (b_x (b_n (t_n (xK (sq 1 (sw (zi i_1 1 rfl rfl qf (sq 1 (xP (qW (m' :=(vC - ((i_1+1):Int)).toNat) qf ⟨_,i_1+1,_,_,_,uE2,?_,?_,?_,rfl,N,H⟩)))))))))))))))
   ·omega
   ·assumption
   ·exact o4.stop (perm_rows o3) qf qf (by first | exact .inl qf | exact .inr (by rw [show k.toNat - 1=(k - 1).toNat by omega];assumption))
  replace h195:=of_decide_eq_true h195
  refine rgl 3 110 H ?_
  refine rgp 4 (yI k) 110 H ?_
  obtain ⟨b196,rfl⟩:=H.y5 0 rfl qf
  refine gI 5 rfl rfl rfl H ?_
  obtain ⟨a197,c198,G199,s200,h201,hx202,hy203,H⟩:=H.rowElemX 0 rfl 0 rfl (iv:=k) k.toNat qf qf
  have S:=H.jr [0] [1]
  refine gL 6 rfl rfl (fun _ h=>h.rowGet 0 rfl hx202) S ?_
  refine rgl 7 110 S ?_
  refine rgp 8 (yI k) 110 S ?_
  refine rg 9 _ 110 (y_sub k 1 rfl rfl qf) S ?_
  refine gI 10 rfl rfl rfl S ?_
  obtain ⟨a204,c205,G206,s207,h208,hx209,hy210,H⟩:=H.rowElemX 0 rfl 1 rfl (iv:=k - 1) ((k - 1).toNat) qf qf
  refine gL 11 rfl rfl (fun _ h=>h.rowGet 0 rfl hx209) (H.pick [0] [2]) ?_
  refine jb [12] qh qm (XI rfl (e:=110) rfl rfl ?_ jd)
  have g5:=perm_rows o3
  have g6:=g5 k.toNat qf
  have g7:=g5 (k - 1).toNat qf
  refine oq (l03Before_ok _ (out_51[k.toNat]!) (out_51[(k - 1).toNat]!) (H.get 1 rfl).1 (H.get 0 rfl).1 qg) H fun w212 H=>⟨H.pick [0] [2],(rtl 13 (H.pick [0] [2]) ?_)⟩
  refine xA qh (t_n (cP rfl (fun h214=>?_) (fun h214=>?_)))
  ·refine qU (t_n (xU (qV (zcr (sq 1 (sp (yI k) (oI rfl rfl ?_)))))))
   obtain ⟨a215,c216,G217,s218,h219,hx220,hy221,H⟩:=H.rowElemX 0 rfl 2 rfl (iv:=k) k.toNat qf qf
   refine oL rfl (H.rowGet 0 rfl hx220) (sq 1 (zjc (sq 1 (sp (yI k) (sq 1 (sp (yI k) (sw (o_sub k 1 rfl rfl qf (oI rfl rfl ?_)))))))))
   obtain ⟨a222,c223,G224,s225,h226,hx227,hy228,H⟩:=H.rowElemX 0 rfl 3 rfl (iv:=k - 1) ((k - 1).toNat) qf qf
   refine oL rfl (H.rowGet 0 rfl hx227) (oI rfl rfl (sw (o_storeRow1 H 0 rfl (Sv a222 ((out_51[(k - 1).toNat]!).length) c223) sizeOf27 rfl rfl rfl qf fun w229 H=>zjn (xK (sq 1 (sp (yI k) (sw (o_sub k 1 rfl rfl qf (sq 1 (oI rfl rfl (sw (o_storeRow1 H 0 rfl (Sv a215 ((out_51[k.toNat]!).length) c216) sizeOf27 rfl rfl rfl qf fun w230 H=>?_))))))))))))
   obtain ⟨F231,hF232,H⟩:=H.swapR 4 rfl (k:=(k:Int).toNat) (i:=(k - 1:Int).toNat) qf qf qf hy228 hy221
   replace N:Fresh w.heap.size [F231]:=Fresh.perm N hF232
   refine xP (b_n (t_n (xK (sp (yI k) (sw (o_sub k 1 rfl rfl qf (sq 1 (xP (qW (m' :=(((k - 1):Int)).toNat) qf ⟨_,_,_,_,_,uE3,?_,?_,?_,rfl,N,H.pick [0] [0]⟩)))))))))
   ·exact perm_swap o3 qf qf
   ·rw [show (k - 1).toNat=k.toNat - 1 by omega];exact o4.down (perm_rows o3) qf qf qf (by rw [show k.toNat - 1=(k - 1).toNat by omega];assumption)
   ·omega
  refine c_exit (t_x (t_x (b_x (b_n (t_n (xK (sq 1 (sw (zi i_1 1 rfl rfl qf (sq 1 (xP (qW (m' :=(vC - ((i_1+1):Int)).toNat) qf ⟨_,i_1+1,_,_,_,uE2,?_,?_,?_,rfl,N,H.pick [0] [2]⟩))))))))))))
  ·omega
  ·assumption
  ·exact o4.stop (perm_rows o3) qf qf (by first | exact .inl qf | exact .inr (by rw [show k.toNat - 1=(k - 1).toNat by omega];assumption))
 refine zx4 (zcr (sq 2 (sp (yI 0) (zjr (ret2 (Sv jl vC jh) (yI 0) rfl rfl rfl ⟨_,rfl,?_,H.base⟩)))))
 rw [cho_0 gp kc o1 (in_order qf o2)]
 exact ⟨jl,vC,jh,x_out_1,F_out_1,rfl,N,H.pick [0] [0]⟩
end
end Go.Proofs.YtjfmcaiombkobaaGreat
