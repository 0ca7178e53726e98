/- Walks and laws, printed by program and by hand: what each function comes to, for all arguments, part 4. -/
import Derived.Test.YtkgdkfkgnodheaaGreatA3
namespace Go.Proofs.YtkgdkfkgnodheaaGreat
set_option linter.unusedVariables false
set_option linter.unusedSimpArgs false
open Go.Proofs.YtkgdkfkgnodheaaGreat.Tot (tot)
open Go.Proofs.YtkgdkfkgnodheaaGreat.Mark (cnt mrk mkd mkd_mark cnt_mark)
section
open Go.RowKit
set_option linter.unusedVariables false
set_option linter.unusedSimpArgs false
set_option maxRecDepth 100000
set_option maxHeartbeats 4000000
variable {qH cpFree qM csCells qP ca cb os ctCells QE cl : Nat}
theorem step_ok (w:World) (p:qW) (s:qZ) (counts:yLI) {qI:yOA} {xe:yLN} {apFree:yOA} {FpFree:yLN} {qR:yOA} {xx:yLN} {asCells:yOA} {FsCells:yLN} {qQ:yOA} {xw:yLN} {acounts:yOA} {ccounts:Nat} {Fcounts:yLN} (qX:qV.rep w xe [.slice qI p.qC.length qH] p.qC) (hpFree:qV.rep w FpFree [.slice apFree p.qL.length cpFree] p.qL) (xn:qV.rep w xx [.slice qR p.qB.length qM] p.qB) (hsCells:qV.rep w FsCells [.slice asCells s.qG.length csCells] s.qG) (xu:qV.rep w xw [.slice qQ s.qF.length qP] s.qF) (hcounts:qV.rep w Fcounts [.slice acounts counts.length ccounts] counts) (p0:zi p) (p1:xG p s) (p2:Cnts1 p counts):Calls Tryz.prog 40 #[.agg #[.int .i64 p.qJ,.slice qI p.qC.length qH,.slice apFree p.qL.length cpFree,.slice qR p.qB.length qM],.agg #[.slice asCells s.qG.length csCells,.slice qQ s.qF.length qP],.slice acounts counts.length ccounts] w (Ret (fun v w' =>∃ (ra0Cells:yOA) (rn0Cells:Nat) (rc0Cells:Nat) (rx0Cells:List Value) (rF0Cells:yLN) (ra0Around:yOA) (rn0Around:Nat) (rc0Around:Nat),v=.tuple #[.agg #[.slice ra0Cells rn0Cells rc0Cells,.slice ra0Around rn0Around rc0Around],.int .i64 ((xk p s counts).2)]∧Fresh w.heap.size [rF0Cells]∧St w w' [rr ra0Cells rn0Cells rc0Cells 22 1 rx0Cells,rr ra0Around rn0Around rc0Around 2 1 ((((xk p s counts).1).qF).map (Value.int .i64))] [xW true rF0Cells rx0Cells (((xk p s counts).1).qG)]) w):=by
 refine en Tryz.func40 Tryz.ntmps40 ?_
 have H:=((((((St.start w).arg hcounts).arg xu).arg hsCells).arg xn).arg hpFree).arg qX
 have zF:=qO qX
 have nhpFree:=qO hpFree
 have vC:=qO xn
 have nhsCells:=qO hsCells
 have vV:=qO xu
 have nhcounts:=qO hcounts
 clear qX hpFree xn hsCells xu hcounts
 have N:=Fresh.nil w.heap.size
 have p3:=p2.1
 have p4:=p0.1.2.2.2.1
 have p5:=p0.1.2.1
 have p6:=p1.1
 have p7:=p0.1.2.2.1
 refine zcr (sw (jd H [.int .i64 p.qJ,.slice qI p.qC.length qH,.slice apFree p.qL.length cpFree,.slice qR p.qB.length qM] fun b1 w2 H=>sw (jd H [.slice asCells s.qG.length csCells,.slice qQ s.qF.length qP] fun b3 w4 H=>sw (ja H ti39 [.slice none 0 0,.slice none 0 0] fun b5 w6 H=>sp (.int .i64 0) (zjc (sw (xZ [.int .i64 p.qJ,.slice qI p.qC.length qH,.slice apFree p.qL.length cpFree,.slice qR p.qB.length qM] Tryz.isAgg37 Tryz.sizeOf37 rfl (qN (H.cells 2 rfl) 0 4) ?_)))))))
 refine sw (xZ [.slice asCells s.qG.length csCells,.slice qQ s.qF.length qP] Tryz.isAgg39 Tryz.sizeOf39 rfl (qN (H.cells 1 rfl) 0 2) (sp (.slice acounts counts.length ccounts) (sw (jG #[.agg #[.int .i64 p.qJ,.slice qI p.qC.length qH,.slice apFree p.qL.length cpFree,.slice qR p.qB.length qM],.agg #[.slice asCells s.qG.length csCells,.slice qQ s.qF.length qP],.slice acounts counts.length ccounts,.bool true] rfl rfl Tryz.call67 (en Tryz.func67 Tryz.ntmps67 ?_)))))
 refine zcr (sw (jd H [.int .i64 p.qJ,.slice qI p.qC.length qH,.slice apFree p.qL.length cpFree,.slice qR p.qB.length qM] fun b7 w8 H=>sw (jd H [.slice asCells s.qG.length csCells,.slice qQ s.qF.length qP] fun b9 w10 H=>sp (.slice none 0 0) (zjn (xP ?_)))))
 refine c_cut (fun ρ w15=>∃ (zu:Env) (a11:yOA) (c12:Nat) (rx13:List Value) (rF14:yLN),ρ=upd (upd (upd (upd zu 2 (.slice acounts counts.length ccounts)) 3 (.bool true)) 4 (.pointer (some ⟨b7,0,none⟩))) 9 (.slice a11 (s.qG.length+1) c12)∧Fresh w.heap.size []∧St w w15 [rr a11 (s.qG.length+1) c12 22 1 (rx13++[.slice qQ s.qF.length qP]),.box b9 [.slice asCells s.qG.length csCells,.slice qQ s.qF.length qP] 39,.box b7 [.int .i64 p.qJ,.slice qI p.qC.length qH,.slice apFree p.qL.length cpFree,.slice qR p.qB.length qM] 37,.box b5 [.slice none 0 0,.slice none 0 0] 39,.box b3 [.slice asCells s.qG.length csCells,.slice qQ s.qF.length qP] 39,.box b1 [.int .i64 p.qJ,.slice qI p.qC.length qH,.slice apFree p.qL.length cpFree,.slice qR p.qB.length qM] 37] [xW false (rF14++xw) (rx13++[.slice qQ s.qF.length qP]) (s.qG++[s.qF]),sF false xe qI qH p.qC,sF false FpFree apFree cpFree p.qL,sF false xx qR qM p.qB,sF false FsCells asCells csCells s.qG,sF false xw qQ qP s.qF,sF false Fcounts acounts ccounts counts]) ?_ ?_
 ·skip
  refine vK rfl H fun H=>tF 0 rfl rfl H ?_
  refine tL 1 rfl rfl (fun _ h=>h.cell 0 rfl rfl) H ?_
  refine tF 3 rfl rfl H ?_
  refine tL 4 rfl rfl (fun _ h=>h.cell 0 rfl rfl) H ?_
  refine yz [2,5] qi qo (r_op rfl ?_ (r_op rfl ?_ yA))
  ·skip
   have sz20:=H.base.size
   refine oc (cloneSS_ok _ s.qG (H.get 3 rfl).1 qh) ?_
   rintro _ w18 ⟨ra17,rn17,rc17,rx17,rF17,rfl,hG22,K⟩ _
   replace H:=H.mergeIn K 3 rfl hG22
   obtain rfl:=H.zB (α:=yLI) 0 rfl 0 rfl qj
   refine ⟨H.pick [1,2,3,4,5] [1,2,3,4,5,6],(ro 5 rfl (zt H Tryz.underlying27 ti22 [.slice qQ s.qF.length qP] fun b23 w24 H=>⟨H.pick [2,3,4,5,6] [1,2,3,4,5,6],(ro 6 rfl (zA H 1 rfl 0 rfl Tryz.underlying27 ti22 rfl qj rfl rfl rfl qx qw qg fun a25 c26 w27 H=>?_))⟩))⟩
   replace H:=H.jy 0 rfl 5 rfl
   refine ⟨H.pick [2,3,4,5,6] [2,3,4,5,6,7],(rtp 7 (.slice a25 (s.qG.length+1) c26) (H.pick [2,3,4,5,6] [2,3,4,5,6,7]) ?_)⟩
   refine xI qi ((meet ⟨_,a25,c26,rx17,rF17,uE4,N,H.pick [1,2,3,4,5,6] [0,2,3,4,5,6,7]⟩))
  ·skip
   refine zt H Tryz.underlying27 ti22 [.slice qQ s.qF.length qP] fun b28 w29 H=>⟨H.pick [1,2,3,4,5] [0,1,2,3,4,5],(ro 2 rfl ?_)⟩
   have sz33:=H.base.size
   refine oc (cloneSS_ok _ s.qG (H.get 3 rfl).1 qh) ?_
   rintro _ w31 ⟨ra30,rn30,rc30,rx30,rF30,rfl,hG35,K⟩ _
   replace H:=H.mergeIn K 3 rfl hG35
   obtain rfl:=H.zB (α:=yLI) 0 rfl 0 rfl qj
   refine ⟨H.pick [2,3,4,5,6] [1,2,3,4,5,6],(ro 6 rfl (zA H 0 rfl 1 rfl Tryz.underlying27 ti22 rfl qj rfl rfl rfl qx qw qg fun a36 c37 w38 H=>?_))⟩
   replace H:=H.jy 0 rfl 5 rfl
   refine ⟨H.pick [2,3,4,5,6] [2,3,4,5,6,7],(rtp 7 (.slice a36 (s.qG.length+1) c37) (H.pick [2,3,4,5,6] [2,3,4,5,6,7]) ?_)⟩
   refine xI qi ((meet ⟨_,a36,c37,rx30,rF30,uE4,N,H.pick [0,2,3,4,5,6] [0,2,3,4,5,6,7]⟩))
 ·skip
  clear H N
  rintro ρ w39 ⟨zu,a11,c12,rx13,rF14,rfl,N,H⟩
  refine t_n (zcc (sp (.slice acounts counts.length ccounts) (oN rfl (sp (.int .i64 0) (zjn (xm ?_))))))
  refine zK (fun m' ρ w40=>∃ (zu:Env) (i:Nat) (bags:yLL) (x_bags:List Value) (F_bags:yLN),ρ=upd (upd (upd (upd (upd (upd zu 3 (.bool true)) 4 (.pointer (some ⟨b7,0,none⟩))) 9 (.slice a11 (s.qG.length+1) c12)) 23 (.slice acounts counts.length ccounts)) 24 (.int .i64 counts.length)) 25 (.int .i64 i)∧bags=(zD p s true counts i)∧((i:Int)≤counts.length)∧m' =(counts.length - (i:Int)).toNat∧Fresh w.heap.size []∧St w w40 [rr a11 (s.qG.length+1) c12 22 1 x_bags,.box b9 [.slice asCells s.qG.length csCells,.slice qQ s.qF.length qP] 39,.box b7 [.int .i64 p.qJ,.slice qI p.qC.length qH,.slice apFree p.qL.length cpFree,.slice qR p.qB.length qM] 37,.box b5 [.slice none 0 0,.slice none 0 0] 39,.box b3 [.slice asCells s.qG.length csCells,.slice qQ s.qF.length qP] 39,.box b1 [.int .i64 p.qJ,.slice qI p.qC.length qH,.slice apFree p.qL.length cpFree,.slice qR p.qB.length qM] 37] [xW false F_bags x_bags bags,sF false xe qI qH p.qC,sF false FpFree apFree cpFree p.qL,sF false xx qR qM p.qB,sF false FsCells asCells csCells s.qG,sF false xw qQ qP s.qF,sF false Fcounts acounts ccounts counts]) ((counts.length - (0:Int)).toNat) ⟨_,0,(s.qG++[s.qF]),rx13++[.slice qQ s.qF.length qP],(rF14++xw),uE6,(by rfl),qg,rfl,N,H⟩ ?_
  clear H N
  rintro m' ρ w41 ⟨zu,i,bags,x_bags,F_bags,rfl,rfl,i0,rfl,N,H⟩
  have hn_bags:=H.zB (α:=yLI) 0 rfl 0 rfl qj
  refine zcr (sp (.bool (decide ((i:Int) < counts.length))) (zjn (xP (cD rfl (fun h42=>?_) (fun h42=>?_)))))
  ·skip
   have cr:=p0.2 i qg
   have c1:=cr.1
   have gq:=geo p0.1 cr
   have gc:=gq.cell
   have gu:=gq.up
   have E:=cg_PB p0 p1 p2 true i qg
   have El:=E.1
   have tb:=p2.2 i qg
   have mo:=MO.bag p0.1 cr.2.1
   have mi:=MO.bag p0.1 cr.2.2.1
   have f0:p.qL.length≤(p.qB[i]!).fIn.length:=by have:=mi.1;have:=pK_eq p0.1;have:=p0.1.2.2.1;omega
   have f1:p.qL.length≤(p.qB[i]!).qU.length:=by have:=mo.1;have:=pK_eq p0.1;have:=p0.1.2.2.1;omega
   refine xf (t_n (xP (xm (zcr (sp (.int .i64 i) ?_)))))
   obtain ⟨b43,o44,rfl⟩:=H.addr 6 rfl qg
   refine oI rfl rfl (oL rfl (H.vY 6 rfl i qg qg) (sps [.int .i64 i,.int .i64 (counts[i]!)] (zjc (oF rfl (oL rfl (H.cell 2 rfl rfl) (sp (.int .i64 i) ?_))))))
   obtain ⟨b46,o47,rfl⟩:=H.addr 3 rfl qg
   obtain ⟨ae49Out,ce49Out,Fe49Out,ae49In,ce49In,Fe49In,H⟩:=H.zW 3 rfl i i qg qg qg
   refine oI rfl rfl (sw (xZ [.int .i64 ((p.qB[i]!).qE),.slice ae49Out (((p.qB[i]!).qU).length) ce49Out,.slice ae49In (((p.qB[i]!).fIn).length) ce49In] Tryz.isAgg93 Tryz.sizeOf93 rfl (qN (H.get 2 rfl) 0 3) (sw (ja H ti93 [.int .i64 0,.slice none 0 0,.slice none 0 0] fun b50 w51 H=>sw (jA H 0 [.int .i64 ((p.qB[i]!).qE),.slice ae49Out (((p.qB[i]!).qU).length) ce49Out,.slice ae49In (((p.qB[i]!).fIn).length) ce49In] Tryz.sizeOf93 fun w52 H=>zjc ?_)))))
   refine sw (xZ [.int .i64 p.qJ,.slice qI p.qC.length qH,.slice apFree p.qL.length cpFree,.slice (some ⟨b46,o47,none⟩) p.qB.length qM] Tryz.isAgg37 Tryz.sizeOf37 rfl (qN (H.cells 3 rfl) 0 4) (oF rfl (oL rfl (H.cell 0 rfl rfl) (sw (oq (parent_ok _ p ((p.qB[i]!).qE) (H.get 4 rfl).1 (H.get 5 rfl).1 (H.get 6 rfl).1 (by exact p0.1) (by exact cr.1)) H fun w54 H=>sp (.int .i64 (pUp p ((p.qB[i]!).qE))) (zjn (xP ?_)))))))
   refine vK rfl H fun H=>tF 0 rfl rfl H ?_
   refine tL 1 rfl rfl (fun _ h=>h.cell 0 rfl rfl) H ?_
   refine tF 2 rfl rfl H ?_
   refine tL 3 rfl rfl (fun _ h=>h.cell 0 rfl rfl) H ?_
   refine rtp 4 (.slice ae49In (((p.qB[i]!).fIn).length) ce49In) H ?_
   refine rtp 5 (.slice ae49Out (((p.qB[i]!).qU).length) ce49Out) H ?_
   refine xI qi (t_n (zcc (sp (.int .i64 (pUp p ((p.qB[i]!).qE))) (sw (xZ [.int .i64 p.qJ,.slice qI p.qC.length qH,.slice apFree p.qL.length cpFree,.slice (some ⟨b46,o47,none⟩) p.qB.length qM] Tryz.isAgg37 Tryz.sizeOf37 rfl (qN (H.cells 3 rfl) 0 4) (sw (oq (outside_ok _ p (H.get 4 rfl).1 (H.get 5 rfl).1 (H.get 6 rfl).1) H fun w58 H=>sp (.bool (((pUp p ((p.qB[i]!).qE)):Int) == p.qC.length)) (zjn (cE rfl (fun h60=>?_) (fun h60=>?_))))))))))
   ·skip
    refine vK rfl H fun H=>rt 0 (.agg #[.int .i64 p.qJ,.slice qI p.qC.length qH,.slice apFree p.qL.length cpFree,.slice (some ⟨b46,o47,none⟩) p.qB.length qM]) (Qc (cs:=[.int .i64 p.qJ,.slice qI p.qC.length qH,.slice apFree p.qL.length cpFree,.slice (some ⟨b46,o47,none⟩) p.qB.length qM]) Tryz.isAgg37 Tryz.sizeOf37 rfl (fun _ h=>qN (h.cells 3 rfl) 0 4)) H ?_
    refine rtp 1 (.slice ae49In (((p.qB[i]!).fIn).length) ce49In) H ?_
    refine rt 3 (.agg #[.int .i64 p.qJ,.slice qI p.qC.length qH,.slice apFree p.qL.length cpFree,.slice (some ⟨b46,o47,none⟩) p.qB.length qM]) (Qc (cs:=[.int .i64 p.qJ,.slice qI p.qC.length qH,.slice apFree p.qL.length cpFree,.slice (some ⟨b46,o47,none⟩) p.qB.length qM]) Tryz.isAgg37 Tryz.sizeOf37 rfl (fun _ h=>qN (h.cells 3 rfl) 0 4)) H ?_
    refine rtp 4 (.slice ae49Out (((p.qB[i]!).qU).length) ce49Out) H ?_
    refine ro 2 rfl ?_
    have sz65:=H.base.size
    refine oc (bound_ok _ p ((p.qB[i]!).fIn) (H.get 4 rfl).1 (H.get 5 rfl).1 (H.get 6 rfl).1 (H.get 1 rfl).1 (by exact p0.1) (by first | assumption | exact cr.2.1 | exact cr.2.2.1)) ?_
    rintro _ w63 ⟨ra62,rn62,rc62,rfl,M,K⟩ _
    replace H:=H.merge K M
    obtain rfl:=H.y9 0 rfl
    refine ⟨H.pick [1,2,3,4,5,6,7] [0,1,2,3,4,5,6,7,8,9],(ro 5 rfl ?_)⟩
    have sz71:=H.base.size
    refine oc (bound_ok _ p ((p.qB[i]!).qU) (H.get 4 rfl).1 (H.get 5 rfl).1 (H.get 6 rfl).1 (H.get 0 rfl).1 (by exact p0.1) (by first | assumption | exact cr.2.1 | exact cr.2.2.1)) ?_
    rintro _ w69 ⟨ra68,rn68,rc68,rfl,M,K⟩ _
    replace H:=H.merge K M
    obtain rfl:=H.y9 0 rfl
    refine ⟨H.pick [2,3,4,5,6,7,8] [0,1,2,3,4,5,6,7,8,9],?_⟩
    have S:=H.zq [2,3,4,5,6,7,8] [0,1,2,3,4,5,6,7,8,9]
    refine rtp 6 (.slice ra62 ((bdTo p ((p.qB[i]!).fIn) p.qL.length).length) rc62) S ?_
    refine rtp 7 (.slice ra68 ((bdTo p ((p.qB[i]!).qU) p.qL.length).length) rc68) S ?_
    refine xI qi (t_n (xP ?_))
    refine jO rfl H [0,1,2,4,5,6,7,8] fun H=>?_
    have S:=H.zq [0,1,2,4,5,6,7,8] [0,1,2,3,4,5,6,7,8,9]
    refine rtp 0 (.slice a11 (s.qG.length+1) c12) S ?_
    refine tF 1 rfl rfl S ?_
    refine tL 2 rfl rfl (fun _ h=>h.cell 2 rfl rfl) S ?_
    refine rtp 3 (.slice a11 (s.qG.length+1) c12) S ?_
    refine tF 4 rfl rfl S ?_
    refine tL 5 rfl rfl (fun _ h=>h.cell 2 rfl rfl) S ?_
    obtain ⟨b75,rfl⟩:=H.yg 3 rfl qg
    have S:=H.zq [0,1,2,4,5,6,7,8] [0,1,2,3,4,5,6,7,8,9]
    refine tI 6 rfl rfl rfl S ?_
    refine tF 8 rfl rfl S ?_
    refine tL 9 rfl rfl (fun _ h=>h.cell 2 rfl rfl) S ?_
    refine rtp 10 (.int .i64 (counts[i]!)) S ?_
    refine rt 11 (.int .i64 (-(counts[i]!))) (y_neg (counts[i]!) rfl qg) S ?_
    refine ro 7 rfl ?_
    obtain ⟨a76,c77,G78,s79,h80,H⟩:=H.jX 3 rfl 3 rfl (iv:=(p.qB[i]!).qE) (((p.qB[i]!).qE).toNat) qg qg
    refine xY (.slice a76 (((zD p s true counts i)[((p.qB[i]!).qE).toNat]!).length) c77) Tryz.isAgg22 rfl (h80) (⟨H.pick [0,1,2,4,5,6,7,8] [1,2,3,4,5,6,7,8,9,10],(ro 12 rfl ?_)⟩)
    obtain ⟨u1,u2,u3⟩:=E.row p0.1 qg (i:=((p.qB[i]!).qE).toNat) qg
    have u4:=mo.smallT (t:= -(counts[i]!)) qg
    have u5:=mo.1
    have sz81:=H.base.size
    refine oc (plus_ok _ ((zD p s true counts i)[((p.qB[i]!).qE).toNat]!) ((p.qB[i]!).qU) (-(counts[i]!)) (H.get 0 rfl).1 (H.get 1 rfl).1 qh qh qh) ?_
    rintro v86 w84 r86 x85
    replace H:=H.zg x85 r86
    obtain ⟨a87,c88,rfl,hc89,hm90⟩:=H.vO 0 rfl
    refine ⟨H.pick [1,2,3,5,6,7,8,9] [1,2,3,4,5,6,7,8,9,10],(tI 13 rfl rfl rfl (H.pick [1,2,3,5,6,7,8,9] [1,2,3,4,5,6,7,8,9,10]) ?_)⟩
    refine ro 14 rfl ?_
    obtain ⟨G92,N,hn93,H⟩:=H.vw 0 rfl N (H.jL [])
    refine jS false H 4 rfl 5 rfl (.slice a87 ((zo ((zD p s true counts i)[((p.qB[i]!).qE).toNat]!) ((p.qB[i]!).qU) (-(counts[i]!))).length) c88) 0 rfl rfl Tryz.sizeOf22 rfl rfl (i:=(((p.qB[i]!).qE).toNat)) qg qg qo fun w91 xs94 F95 hs96 H=>⟨H.pick [1,2,3,5,6,7,8,9] [3,4,5,6,7,8,9,10,11,12],(xI qi (t_n (xP ?_)))⟩
    have E1:=E.plus (i:=(p.qB[i]!).qE.toNat) qg mo (t:= -(counts[i]!)) qg
    refine xJ (sps [.slice (some ⟨b75,0,none⟩) (s.qG.length+1) c12,.int .i64 (pUp p ((p.qB[i]!).qE)),.slice (some ⟨b75,0,none⟩) (s.qG.length+1) c12,.int .i64 (pUp p ((p.qB[i]!).qE))] (oI rfl rfl ?_))
    obtain ⟨a97,c98,G99,s100,h101,H⟩:=H.jX 4 rfl 0 rfl (iv:=(pUp p ((p.qB[i]!).qE))) (pUp p ((p.qB[i]!).qE)) qg qg
    refine oL rfl (h101) (sps [.slice ra62 ((bdTo p ((p.qB[i]!).fIn) p.qL.length).length) rc62,.int .i64 (counts[i]!)] (sw (o_neg (counts[i]!) rfl qg ?_)))
    obtain ⟨G102,hn103,h104⟩:=H.Qa 2 rfl
    obtain ⟨u1,u2,u3⟩:=E1.row p0.1 qg (i:=(pUp p ((p.qB[i]!).qE))) qg
    have u4:=(mi.bd f0).smallT (t:= -(counts[i]!)) qg
    have u5:=(mi.bd f0).1
    have sz105:=H.base.size
    have lt106:=H.ltN (L:=[G92]) [2]
    refine sw (oc (plus_ok _ (((zD p s true counts i).set (((p.qB[i]!).qE).toNat) (zo ((zD p s true counts i)[((p.qB[i]!).qE).toNat]!) ((p.qB[i]!).qU) (-(counts[i]!))))[(pUp p ((p.qB[i]!).qE))]!) (bdTo p ((p.qB[i]!).fIn) p.qL.length) (-(counts[i]!)) (H.get 0 rfl).1 h104 qh qh qh) ?_)
    rintro v110 w108 r110 x109
    replace H:=H.zg x109 r110
    obtain ⟨a111,c112,rfl,hc113,hm114⟩:=H.vO 0 rfl
    refine oI rfl rfl ?_
    obtain ⟨G116,N,hn117,H⟩:=H.vw 0 rfl N (H.jL [2])
    refine sw (jS false H 5 rfl 2 rfl (.slice a111 ((zo (((zD p s true counts i).set (((p.qB[i]!).qE).toNat) (zo ((zD p s true counts i)[((p.qB[i]!).qE).toNat]!) ((p.qB[i]!).qU) (-(counts[i]!))))[(pUp p ((p.qB[i]!).qE))]!) (bdTo p ((p.qB[i]!).fIn) p.qL.length) (-(counts[i]!))).length) c112) 0 rfl rfl Tryz.sizeOf22 rfl rfl (i:=(pUp p ((p.qB[i]!).qE))) qg qg qo fun w115 xs118 F119 hs120 H=>zjc (sp (.bool true) (zjn (xC true rfl (fun _=>xP ?_) (fun h=>absurd h qj)))))
    have E2:=E1.plus (i:=(pUp p (p.qB[i]!).qE)) gu (mi.bd f0) (t:= -(counts[i]!)) qg
    refine jO rfl H [0,1,2,3,4,6,7,8,9,10] fun H=>?_
    have S:=H.zq [0,1,2,3,4,6,7,8,9,10] [0,1,2,3,4,5,6,7,8,9,10,11,12,13,14,15]
    refine rtp 0 (.slice (some ⟨b75,0,none⟩) (s.qG.length+1) c12) S ?_
    refine tF 1 rfl rfl S ?_
    refine tL 2 rfl rfl (fun _ h=>h.cell 4 rfl rfl) S ?_
    refine rtp 3 (.slice (some ⟨b75,0,none⟩) (s.qG.length+1) c12) S ?_
    refine tF 4 rfl rfl S ?_
    refine tL 5 rfl rfl (fun _ h=>h.cell 4 rfl rfl) S ?_
    refine tI 6 rfl rfl rfl S ?_
    refine tF 8 rfl rfl S ?_
    refine tL 9 rfl rfl (fun _ h=>h.cell 4 rfl rfl) S ?_
    refine rtp 10 (.int .i64 (counts[i]!)) S ?_
    refine ro 7 rfl ?_
    obtain ⟨a122,c123,G124,s125,h126,H⟩:=H.jX 5 rfl 0 rfl (iv:=(p.qB[i]!).qE) (((p.qB[i]!).qE).toNat) qg qg
    refine xY (.slice a122 (((((zD p s true counts i).set (((p.qB[i]!).qE).toNat) (zo ((zD p s true counts i)[((p.qB[i]!).qE).toNat]!) ((p.qB[i]!).qU) (-(counts[i]!)))).set (pUp p ((p.qB[i]!).qE)) (zo (((zD p s true counts i).set (((p.qB[i]!).qE).toNat) (zo ((zD p s true counts i)[((p.qB[i]!).qE).toNat]!) ((p.qB[i]!).qU) (-(counts[i]!))))[(pUp p ((p.qB[i]!).qE))]!) (bdTo p ((p.qB[i]!).fIn) p.qL.length) (-(counts[i]!))))[((p.qB[i]!).qE).toNat]!).length) c123) Tryz.isAgg22 rfl (h126) (⟨H.pick [0,1,2,3,4,6,7,8,9,10] [1,2,3,4,5,6,7,8,9,10,11,12,13,14,15,16],(ro 11 rfl ?_)⟩)
    obtain ⟨u1,u2,u3⟩:=E2.row p0.1 qg (i:=((p.qB[i]!).qE).toNat) qg
    have u4:=mi.smallT (t:=counts[i]!) qg
    have u5:=mi.1
    have sz127:=H.base.size
    have lt128:=H.ltN (L:=[G116,G92]) [2,5]
    refine oc (plus_ok _ ((((zD p s true counts i).set (((p.qB[i]!).qE).toNat) (zo ((zD p s true counts i)[((p.qB[i]!).qE).toNat]!) ((p.qB[i]!).qU) (-(counts[i]!)))).set (pUp p ((p.qB[i]!).qE)) (zo (((zD p s true counts i).set (((p.qB[i]!).qE).toNat) (zo ((zD p s true counts i)[((p.qB[i]!).qE).toNat]!) ((p.qB[i]!).qU) (-(counts[i]!))))[(pUp p ((p.qB[i]!).qE))]!) (bdTo p ((p.qB[i]!).fIn) p.qL.length) (-(counts[i]!))))[((p.qB[i]!).qE).toNat]!) ((p.qB[i]!).fIn) (counts[i]!) (H.get 0 rfl).1 (H.get 8 rfl).1 qh qh qh) ?_
    rintro v132 w130 r132 x131
    replace H:=H.zg x131 r132
    obtain ⟨a133,c134,rfl,hc135,hm136⟩:=H.vO 0 rfl
    refine ⟨H.pick [1,2,3,4,5,7,8,9,10,11] [1,2,3,4,5,6,7,8,9,10,11,12,13,14,15,16],(tI 12 rfl rfl rfl (H.pick [1,2,3,4,5,7,8,9,10,11] [1,2,3,4,5,6,7,8,9,10,11,12,13,14,15,16]) ?_)⟩
    refine ro 13 rfl ?_
    obtain ⟨G138,N,hn139,H⟩:=H.vw 0 rfl N (H.jL [2,5])
    refine jS false H 6 rfl 2 rfl (.slice a133 ((zo ((((zD p s true counts i).set (((p.qB[i]!).qE).toNat) (zo ((zD p s true counts i)[((p.qB[i]!).qE).toNat]!) ((p.qB[i]!).qU) (-(counts[i]!)))).set (pUp p ((p.qB[i]!).qE)) (zo (((zD p s true counts i).set (((p.qB[i]!).qE).toNat) (zo ((zD p s true counts i)[((p.qB[i]!).qE).toNat]!) ((p.qB[i]!).qU) (-(counts[i]!))))[(pUp p ((p.qB[i]!).qE))]!) (bdTo p ((p.qB[i]!).fIn) p.qL.length) (-(counts[i]!))))[((p.qB[i]!).qE).toNat]!) ((p.qB[i]!).fIn) (counts[i]!)).length) c134) 0 rfl rfl Tryz.sizeOf22 rfl rfl (i:=(((p.qB[i]!).qE).toNat)) qg qg qo fun w137 xs140 F141 hs142 H=>?_
    refine ⟨H.pick [1,2,3,4,5,7,8,9,10,11] [3,4,5,6,7,8,9,10,11,12,13,14,15,16,17,18],(xI qi (t_n ?_))⟩
    have E3:=E2.plus (i:=(p.qB[i]!).qE.toNat) qg mi (t:=(counts[i]!)) qg
    refine xJ (sps [.slice (some ⟨b75,0,none⟩) (s.qG.length+1) c12,.int .i64 (pUp p ((p.qB[i]!).qE)),.slice (some ⟨b75,0,none⟩) (s.qG.length+1) c12,.int .i64 (pUp p ((p.qB[i]!).qE))] (oI rfl rfl ?_))
    obtain ⟨a143,c144,G145,s146,h147,H⟩:=H.jX 6 rfl 0 rfl (iv:=(pUp p ((p.qB[i]!).qE))) (pUp p ((p.qB[i]!).qE)) qg qg
    refine oL rfl (h147) (sps [.slice ra68 ((bdTo p ((p.qB[i]!).qU) p.qL.length).length) rc68,.int .i64 (counts[i]!)] ?_)
    obtain ⟨G148,hn149,h150⟩:=H.Qa 3 rfl
    obtain ⟨u1,u2,u3⟩:=E3.row p0.1 qg (i:=(pUp p ((p.qB[i]!).qE))) qg
    have u4:=(mo.bd f1).smallT (t:=counts[i]!) qg
    have u5:=(mo.bd f1).1
    have sz151:=H.base.size
    have lt152:=H.ltN (L:=[G138,G116,G92]) [2,5,8]
    refine sw (oc (plus_ok _ (((((zD p s true counts i).set (((p.qB[i]!).qE).toNat) (zo ((zD p s true counts i)[((p.qB[i]!).qE).toNat]!) ((p.qB[i]!).qU) (-(counts[i]!)))).set (pUp p ((p.qB[i]!).qE)) (zo (((zD p s true counts i).set (((p.qB[i]!).qE).toNat) (zo ((zD p s true counts i)[((p.qB[i]!).qE).toNat]!) ((p.qB[i]!).qU) (-(counts[i]!))))[(pUp p ((p.qB[i]!).qE))]!) (bdTo p ((p.qB[i]!).fIn) p.qL.length) (-(counts[i]!)))).set (((p.qB[i]!).qE).toNat) (zo ((((zD p s true counts i).set (((p.qB[i]!).qE).toNat) (zo ((zD p s true counts i)[((p.qB[i]!).qE).toNat]!) ((p.qB[i]!).qU) (-(counts[i]!)))).set (pUp p ((p.qB[i]!).qE)) (zo (((zD p s true counts i).set (((p.qB[i]!).qE).toNat) (zo ((zD p s true counts i)[((p.qB[i]!).qE).toNat]!) ((p.qB[i]!).qU) (-(counts[i]!))))[(pUp p ((p.qB[i]!).qE))]!) (bdTo p ((p.qB[i]!).fIn) p.qL.length) (-(counts[i]!))))[((p.qB[i]!).qE).toNat]!) ((p.qB[i]!).fIn) (counts[i]!)))[(pUp p ((p.qB[i]!).qE))]!) (bdTo p ((p.qB[i]!).qU) p.qL.length) (counts[i]!) (H.get 0 rfl).1 h150 qh qh qh) ?_)
    rintro v156 w154 r156 x155
    replace H:=H.zg x155 r156
    obtain ⟨a157,c158,rfl,hc159,hm160⟩:=H.vO 0 rfl
    refine oI rfl rfl ?_
    obtain ⟨G162,N,hn163,H⟩:=H.vw 0 rfl N (H.jL [2,5,8])
    refine sw (jS false H 7 rfl 2 rfl (.slice a157 ((zo (((((zD p s true counts i).set (((p.qB[i]!).qE).toNat) (zo ((zD p s true counts i)[((p.qB[i]!).qE).toNat]!) ((p.qB[i]!).qU) (-(counts[i]!)))).set (pUp p ((p.qB[i]!).qE)) (zo (((zD p s true counts i).set (((p.qB[i]!).qE).toNat) (zo ((zD p s true counts i)[((p.qB[i]!).qE).toNat]!) ((p.qB[i]!).qU) (-(counts[i]!))))[(pUp p ((p.qB[i]!).qE))]!) (bdTo p ((p.qB[i]!).fIn) p.qL.length) (-(counts[i]!)))).set (((p.qB[i]!).qE).toNat) (zo ((((zD p s true counts i).set (((p.qB[i]!).qE).toNat) (zo ((zD p s true counts i)[((p.qB[i]!).qE).toNat]!) ((p.qB[i]!).qU) (-(counts[i]!)))).set (pUp p ((p.qB[i]!).qE)) (zo (((zD p s true counts i).set (((p.qB[i]!).qE).toNat) (zo ((zD p s true counts i)[((p.qB[i]!).qE).toNat]!) ((p.qB[i]!).qU) (-(counts[i]!))))[(pUp p ((p.qB[i]!).qE))]!) (bdTo p ((p.qB[i]!).fIn) p.qL.length) (-(counts[i]!))))[((p.qB[i]!).qE).toNat]!) ((p.qB[i]!).fIn) (counts[i]!)))[(pUp p ((p.qB[i]!).qE))]!) (bdTo p ((p.qB[i]!).qU) p.qL.length) (counts[i]!)).length) c158) 0 rfl rfl Tryz.sizeOf22 rfl rfl (i:=(pUp p ((p.qB[i]!).qE))) qg qg qo fun w161 xs164 F165 hs166 H=>?_)
    refine xN (b_n (t_n (xJ (sw (xX i 1 rfl rfl qg (sp (.int .i64 (i+1)) (xN ?_)))))))
    refine xg (m' :=(counts.length - ((i+1):Int)).toNat) qg ⟨_,i+1,(((((zD p s true counts i).set (((p.qB[i]!).qE).toNat) (zo ((zD p s true counts i)[((p.qB[i]!).qE).toNat]!) ((p.qB[i]!).qU) (-(counts[i]!)))).set (pUp p ((p.qB[i]!).qE)) (zo (((zD p s true counts i).set (((p.qB[i]!).qE).toNat) (zo ((zD p s true counts i)[((p.qB[i]!).qE).toNat]!) ((p.qB[i]!).qU) (-(counts[i]!))))[(pUp p ((p.qB[i]!).qE))]!) (bdTo p ((p.qB[i]!).fIn) p.qL.length) (-(counts[i]!)))).set (((p.qB[i]!).qE).toNat) (zo ((((zD p s true counts i).set (((p.qB[i]!).qE).toNat) (zo ((zD p s true counts i)[((p.qB[i]!).qE).toNat]!) ((p.qB[i]!).qU) (-(counts[i]!)))).set (pUp p ((p.qB[i]!).qE)) (zo (((zD p s true counts i).set (((p.qB[i]!).qE).toNat) (zo ((zD p s true counts i)[((p.qB[i]!).qE).toNat]!) ((p.qB[i]!).qU) (-(counts[i]!))))[(pUp p ((p.qB[i]!).qE))]!) (bdTo p ((p.qB[i]!).fIn) p.qL.length) (-(counts[i]!))))[((p.qB[i]!).qE).toNat]!) ((p.qB[i]!).fIn) (counts[i]!))).set (pUp p ((p.qB[i]!).qE)) (zo (((((zD p s true counts i).set (((p.qB[i]!).qE).toNat) (zo ((zD p s true counts i)[((p.qB[i]!).qE).toNat]!) ((p.qB[i]!).qU) (-(counts[i]!)))).set (pUp p ((p.qB[i]!).qE)) (zo (((zD p s true counts i).set (((p.qB[i]!).qE).toNat) (zo ((zD p s true counts i)[((p.qB[i]!).qE).toNat]!) ((p.qB[i]!).qU) (-(counts[i]!))))[(pUp p ((p.qB[i]!).qE))]!) (bdTo p ((p.qB[i]!).fIn) p.qL.length) (-(counts[i]!)))).set (((p.qB[i]!).qE).toNat) (zo ((((zD p s true counts i).set (((p.qB[i]!).qE).toNat) (zo ((zD p s true counts i)[((p.qB[i]!).qE).toNat]!) ((p.qB[i]!).qU) (-(counts[i]!)))).set (pUp p ((p.qB[i]!).qE)) (zo (((zD p s true counts i).set (((p.qB[i]!).qE).toNat) (zo ((zD p s true counts i)[((p.qB[i]!).qE).toNat]!) ((p.qB[i]!).qU) (-(counts[i]!))))[(pUp p ((p.qB[i]!).qE))]!) (bdTo p ((p.qB[i]!).fIn) p.qL.length) (-(counts[i]!))))[((p.qB[i]!).qE).toNat]!) ((p.qB[i]!).fIn) (counts[i]!)))[(pUp p ((p.qB[i]!).qE))]!) (bdTo p ((p.qB[i]!).qU) p.qL.length) (counts[i]!))),xs164,F165,uE6,?_,?_,rfl,(N.pick []),H.pick [7,8,9,10,11,12] [0,16,17,18,19,20,21]⟩
    · first | (have hh:pUp p (p.qB[i]!).qE=p.qC.length:=qg;rw [zD,if_pos rfl,cgGive,cgTake,fi_out hh,fi_out hh]) | (have hh:¬ pUp p (p.qB[i]!).qE=p.qC.length:=qg;rw [zD,if_pos rfl,cgGive,cgTake,fi_in hh,fi_in hh])
    · omega
   ·skip
    refine xf (t_n (xP ?_))
    refine jO rfl H [0,2,3,4,5,6] fun H=>?_
    have S:=H.zq [0,2,3,4,5,6] [0,1,2,3,4,5,6,7,8,9]
    refine rtp 0 (.slice a11 (s.qG.length+1) c12) S ?_
    refine tF 1 rfl rfl S ?_
    refine tL 2 rfl rfl (fun _ h=>h.cell 0 rfl rfl) S ?_
    refine rtp 3 (.slice a11 (s.qG.length+1) c12) S ?_
    refine tF 4 rfl rfl S ?_
    refine tL 5 rfl rfl (fun _ h=>h.cell 0 rfl rfl) S ?_
    obtain ⟨b168,rfl⟩:=H.yg 1 rfl qg
    have S:=H.zq [0,2,3,4,5,6] [0,1,2,3,4,5,6,7,8,9]
    refine tI 6 rfl rfl rfl S ?_
    refine tF 8 rfl rfl S ?_
    refine tL 9 rfl rfl (fun _ h=>h.cell 0 rfl rfl) S ?_
    refine rtp 10 (.int .i64 (counts[i]!)) S ?_
    refine rt 11 (.int .i64 (-(counts[i]!))) (y_neg (counts[i]!) rfl qg) S ?_
    refine ro 7 rfl ?_
    obtain ⟨a169,c170,G171,s172,h173,H⟩:=H.jX 1 rfl 3 rfl (iv:=(p.qB[i]!).qE) (((p.qB[i]!).qE).toNat) qg qg
    refine xY (.slice a169 (((zD p s true counts i)[((p.qB[i]!).qE).toNat]!).length) c170) Tryz.isAgg22 rfl (h173) (⟨H.pick [0,2,3,4,5,6] [1,2,3,4,5,6,7,8,9,10],(ro 12 rfl ?_)⟩)
    obtain ⟨u1,u2,u3⟩:=E.row p0.1 qg (i:=((p.qB[i]!).qE).toNat) qg
    have u4:=mo.smallT (t:= -(counts[i]!)) qg
    have u5:=mo.1
    have sz174:=H.base.size
    refine oc (plus_ok _ ((zD p s true counts i)[((p.qB[i]!).qE).toNat]!) ((p.qB[i]!).qU) (-(counts[i]!)) (H.get 0 rfl).1 (H.get 1 rfl).1 qh qh qh) ?_
    rintro v179 w177 r179 x178
    replace H:=H.zg x178 r179
    obtain ⟨a180,c181,rfl,hc182,hm183⟩:=H.vO 0 rfl
    refine ⟨H.pick [1,3,4,5,6,7] [1,2,3,4,5,6,7,8,9,10],(tI 13 rfl rfl rfl (H.pick [1,3,4,5,6,7] [1,2,3,4,5,6,7,8,9,10]) ?_)⟩
    refine ro 14 rfl ?_
    obtain ⟨G185,N,hn186,H⟩:=H.vw 0 rfl N (H.jL [])
    refine jS false H 2 rfl 5 rfl (.slice a180 ((zo ((zD p s true counts i)[((p.qB[i]!).qE).toNat]!) ((p.qB[i]!).qU) (-(counts[i]!))).length) c181) 0 rfl rfl Tryz.sizeOf22 rfl rfl (i:=(((p.qB[i]!).qE).toNat)) qg qg qo fun w184 xs187 F188 hs189 H=>⟨H.pick [1,3,4,5,6,7] [3,4,5,6,7,8,9,10,11,12],(xI qi (t_n (xP ?_)))⟩
    have E1:=E.plus (i:=(p.qB[i]!).qE.toNat) qg mo (t:= -(counts[i]!)) qg
    refine xJ (sps [.slice (some ⟨b168,0,none⟩) (s.qG.length+1) c12,.int .i64 (pUp p ((p.qB[i]!).qE)),.slice (some ⟨b168,0,none⟩) (s.qG.length+1) c12,.int .i64 (pUp p ((p.qB[i]!).qE))] (oI rfl rfl ?_))
    obtain ⟨a190,c191,G192,s193,h194,H⟩:=H.jX 2 rfl 0 rfl (iv:=(pUp p ((p.qB[i]!).qE))) (pUp p ((p.qB[i]!).qE)) qg qg
    refine oL rfl (h194) (sps [.slice ae49In (((p.qB[i]!).fIn).length) ce49In,.int .i64 (counts[i]!)] (sw (o_neg (counts[i]!) rfl qg ?_)))
    obtain ⟨u1,u2,u3⟩:=E1.row p0.1 qg (i:=(pUp p ((p.qB[i]!).qE))) qg
    have u4:=mi.smallT (t:= -(counts[i]!)) qg
    have u5:=mi.1
    have sz195:=H.base.size
    have lt196:=H.ltN (L:=[G185]) [2]
    refine sw (oc (plus_ok _ (((zD p s true counts i).set (((p.qB[i]!).qE).toNat) (zo ((zD p s true counts i)[((p.qB[i]!).qE).toNat]!) ((p.qB[i]!).qU) (-(counts[i]!))))[(pUp p ((p.qB[i]!).qE))]!) ((p.qB[i]!).fIn) (-(counts[i]!)) (H.get 0 rfl).1 (H.get 5 rfl).1 qh qh qh) ?_)
    rintro v200 w198 r200 x199
    replace H:=H.zg x199 r200
    obtain ⟨a201,c202,rfl,hc203,hm204⟩:=H.vO 0 rfl
    refine oI rfl rfl ?_
    obtain ⟨G206,N,hn207,H⟩:=H.vw 0 rfl N (H.jL [2])
    refine sw (jS false H 3 rfl 2 rfl (.slice a201 ((zo (((zD p s true counts i).set (((p.qB[i]!).qE).toNat) (zo ((zD p s true counts i)[((p.qB[i]!).qE).toNat]!) ((p.qB[i]!).qU) (-(counts[i]!))))[(pUp p ((p.qB[i]!).qE))]!) ((p.qB[i]!).fIn) (-(counts[i]!))).length) c202) 0 rfl rfl Tryz.sizeOf22 rfl rfl (i:=(pUp p ((p.qB[i]!).qE))) qg qg qo fun w205 xs208 F209 hs210 H=>zjc (sp (.bool true) (zjn (xC true rfl (fun _=>xP ?_) (fun h=>absurd h qj)))))
    have E2:=E1.plus (i:=(pUp p (p.qB[i]!).qE)) gu mi (t:= -(counts[i]!)) qg
    refine jO rfl H [0,1,2,4,5,6,7,8] fun H=>?_
    have S:=H.zq [0,1,2,4,5,6,7,8] [0,1,2,3,4,5,6,7,8,9,10,11,12,13,14,15]
    refine rtp 0 (.slice (some ⟨b168,0,none⟩) (s.qG.length+1) c12) S ?_
    refine tF 1 rfl rfl S ?_
    refine tL 2 rfl rfl (fun _ h=>h.cell 2 rfl rfl) S ?_
    refine rtp 3 (.slice (some ⟨b168,0,none⟩) (s.qG.length+1) c12) S ?_
    refine tF 4 rfl rfl S ?_
    refine tL 5 rfl rfl (fun _ h=>h.cell 2 rfl rfl) S ?_
    refine tI 6 rfl rfl rfl S ?_
    refine tF 8 rfl rfl S ?_
    refine tL 9 rfl rfl (fun _ h=>h.cell 2 rfl rfl) S ?_
    refine rtp 10 (.int .i64 (counts[i]!)) S ?_
    refine ro 7 rfl ?_
    obtain ⟨a212,c213,G214,s215,h216,H⟩:=H.jX 3 rfl 0 rfl (iv:=(p.qB[i]!).qE) (((p.qB[i]!).qE).toNat) qg qg
    refine xY (.slice a212 (((((zD p s true counts i).set (((p.qB[i]!).qE).toNat) (zo ((zD p s true counts i)[((p.qB[i]!).qE).toNat]!) ((p.qB[i]!).qU) (-(counts[i]!)))).set (pUp p ((p.qB[i]!).qE)) (zo (((zD p s true counts i).set (((p.qB[i]!).qE).toNat) (zo ((zD p s true counts i)[((p.qB[i]!).qE).toNat]!) ((p.qB[i]!).qU) (-(counts[i]!))))[(pUp p ((p.qB[i]!).qE))]!) ((p.qB[i]!).fIn) (-(counts[i]!))))[((p.qB[i]!).qE).toNat]!).length) c213) Tryz.isAgg22 rfl (h216) (⟨H.pick [0,1,2,4,5,6,7,8] [1,2,3,4,5,6,7,8,9,10,11,12,13,14,15,16],(ro 11 rfl ?_)⟩)
    obtain ⟨u1,u2,u3⟩:=E2.row p0.1 qg (i:=((p.qB[i]!).qE).toNat) qg
    have u4:=mi.smallT (t:=counts[i]!) qg
    have u5:=mi.1
    have sz217:=H.base.size
    have lt218:=H.ltN (L:=[G206,G185]) [2,5]
    refine oc (plus_ok _ ((((zD p s true counts i).set (((p.qB[i]!).qE).toNat) (zo ((zD p s true counts i)[((p.qB[i]!).qE).toNat]!) ((p.qB[i]!).qU) (-(counts[i]!)))).set (pUp p ((p.qB[i]!).qE)) (zo (((zD p s true counts i).set (((p.qB[i]!).qE).toNat) (zo ((zD p s true counts i)[((p.qB[i]!).qE).toNat]!) ((p.qB[i]!).qU) (-(counts[i]!))))[(pUp p ((p.qB[i]!).qE))]!) ((p.qB[i]!).fIn) (-(counts[i]!))))[((p.qB[i]!).qE).toNat]!) ((p.qB[i]!).fIn) (counts[i]!) (H.get 0 rfl).1 (H.get 8 rfl).1 qh qh qh) ?_
    rintro v222 w220 r222 x221
    replace H:=H.zg x221 r222
    obtain ⟨a223,c224,rfl,hc225,hm226⟩:=H.vO 0 rfl
    refine ⟨H.pick [1,2,3,5,6,7,8,9] [1,2,3,4,5,6,7,8,9,10,11,12,13,14,15,16],(tI 12 rfl rfl rfl (H.pick [1,2,3,5,6,7,8,9] [1,2,3,4,5,6,7,8,9,10,11,12,13,14,15,16]) ?_)⟩
    refine ro 13 rfl ?_
    obtain ⟨G228,N,hn229,H⟩:=H.vw 0 rfl N (H.jL [2,5])
    refine jS false H 4 rfl 2 rfl (.slice a223 ((zo ((((zD p s true counts i).set (((p.qB[i]!).qE).toNat) (zo ((zD p s true counts i)[((p.qB[i]!).qE).toNat]!) ((p.qB[i]!).qU) (-(counts[i]!)))).set (pUp p ((p.qB[i]!).qE)) (zo (((zD p s true counts i).set (((p.qB[i]!).qE).toNat) (zo ((zD p s true counts i)[((p.qB[i]!).qE).toNat]!) ((p.qB[i]!).qU) (-(counts[i]!))))[(pUp p ((p.qB[i]!).qE))]!) ((p.qB[i]!).fIn) (-(counts[i]!))))[((p.qB[i]!).qE).toNat]!) ((p.qB[i]!).fIn) (counts[i]!)).length) c224) 0 rfl rfl Tryz.sizeOf22 rfl rfl (i:=(((p.qB[i]!).qE).toNat)) qg qg qo fun w227 xs230 F231 hs232 H=>?_
    refine ⟨H.pick [1,2,3,5,6,7,8,9] [3,4,5,6,7,8,9,10,11,12,13,14,15,16,17,18],(xI qi (t_n ?_))⟩
    have E3:=E2.plus (i:=(p.qB[i]!).qE.toNat) qg mi (t:=(counts[i]!)) qg
    refine xJ (sps [.slice (some ⟨b168,0,none⟩) (s.qG.length+1) c12,.int .i64 (pUp p ((p.qB[i]!).qE)),.slice (some ⟨b168,0,none⟩) (s.qG.length+1) c12,.int .i64 (pUp p ((p.qB[i]!).qE))] (oI rfl rfl ?_))
    obtain ⟨a233,c234,G235,s236,h237,H⟩:=H.jX 4 rfl 0 rfl (iv:=(pUp p ((p.qB[i]!).qE))) (pUp p ((p.qB[i]!).qE)) qg qg
    refine oL rfl (h237) (sps [.slice ae49Out (((p.qB[i]!).qU).length) ce49Out,.int .i64 (counts[i]!)] ?_)
    obtain ⟨u1,u2,u3⟩:=E3.row p0.1 qg (i:=(pUp p ((p.qB[i]!).qE))) qg
    have u4:=mo.smallT (t:=counts[i]!) qg
    have u5:=mo.1
    have sz238:=H.base.size
    have lt239:=H.ltN (L:=[G228,G206,G185]) [2,5,8]
    refine sw (oc (plus_ok _ (((((zD p s true counts i).set (((p.qB[i]!).qE).toNat) (zo ((zD p s true counts i)[((p.qB[i]!).qE).toNat]!) ((p.qB[i]!).qU) (-(counts[i]!)))).set (pUp p ((p.qB[i]!).qE)) (zo (((zD p s true counts i).set (((p.qB[i]!).qE).toNat) (zo ((zD p s true counts i)[((p.qB[i]!).qE).toNat]!) ((p.qB[i]!).qU) (-(counts[i]!))))[(pUp p ((p.qB[i]!).qE))]!) ((p.qB[i]!).fIn) (-(counts[i]!)))).set (((p.qB[i]!).qE).toNat) (zo ((((zD p s true counts i).set (((p.qB[i]!).qE).toNat) (zo ((zD p s true counts i)[((p.qB[i]!).qE).toNat]!) ((p.qB[i]!).qU) (-(counts[i]!)))).set (pUp p ((p.qB[i]!).qE)) (zo (((zD p s true counts i).set (((p.qB[i]!).qE).toNat) (zo ((zD p s true counts i)[((p.qB[i]!).qE).toNat]!) ((p.qB[i]!).qU) (-(counts[i]!))))[(pUp p ((p.qB[i]!).qE))]!) ((p.qB[i]!).fIn) (-(counts[i]!))))[((p.qB[i]!).qE).toNat]!) ((p.qB[i]!).fIn) (counts[i]!)))[(pUp p ((p.qB[i]!).qE))]!) ((p.qB[i]!).qU) (counts[i]!) (H.get 0 rfl).1 (H.get 10 rfl).1 qh qh qh) ?_)
    rintro v243 w241 r243 x242
    replace H:=H.zg x242 r243
    obtain ⟨a244,c245,rfl,hc246,hm247⟩:=H.vO 0 rfl
    refine oI rfl rfl ?_
    obtain ⟨G249,N,hn250,H⟩:=H.vw 0 rfl N (H.jL [2,5,8])
    refine sw (jS false H 5 rfl 2 rfl (.slice a244 ((zo (((((zD p s true counts i).set (((p.qB[i]!).qE).toNat) (zo ((zD p s true counts i)[((p.qB[i]!).qE).toNat]!) ((p.qB[i]!).qU) (-(counts[i]!)))).set (pUp p ((p.qB[i]!).qE)) (zo (((zD p s true counts i).set (((p.qB[i]!).qE).toNat) (zo ((zD p s true counts i)[((p.qB[i]!).qE).toNat]!) ((p.qB[i]!).qU) (-(counts[i]!))))[(pUp p ((p.qB[i]!).qE))]!) ((p.qB[i]!).fIn) (-(counts[i]!)))).set (((p.qB[i]!).qE).toNat) (zo ((((zD p s true counts i).set (((p.qB[i]!).qE).toNat) (zo ((zD p s true counts i)[((p.qB[i]!).qE).toNat]!) ((p.qB[i]!).qU) (-(counts[i]!)))).set (pUp p ((p.qB[i]!).qE)) (zo (((zD p s true counts i).set (((p.qB[i]!).qE).toNat) (zo ((zD p s true counts i)[((p.qB[i]!).qE).toNat]!) ((p.qB[i]!).qU) (-(counts[i]!))))[(pUp p ((p.qB[i]!).qE))]!) ((p.qB[i]!).fIn) (-(counts[i]!))))[((p.qB[i]!).qE).toNat]!) ((p.qB[i]!).fIn) (counts[i]!)))[(pUp p ((p.qB[i]!).qE))]!) ((p.qB[i]!).qU) (counts[i]!)).length) c245) 0 rfl rfl Tryz.sizeOf22 rfl rfl (i:=(pUp p ((p.qB[i]!).qE))) qg qg qo fun w248 xs251 F252 hs253 H=>?_)
    refine xN (b_n (t_n (xJ (sw (xX i 1 rfl rfl qg (sp (.int .i64 (i+1)) (xN ?_)))))))
    refine xg (m' :=(counts.length - ((i+1):Int)).toNat) qg ⟨_,i+1,(((((zD p s true counts i).set (((p.qB[i]!).qE).toNat) (zo ((zD p s true counts i)[((p.qB[i]!).qE).toNat]!) ((p.qB[i]!).qU) (-(counts[i]!)))).set (pUp p ((p.qB[i]!).qE)) (zo (((zD p s true counts i).set (((p.qB[i]!).qE).toNat) (zo ((zD p s true counts i)[((p.qB[i]!).qE).toNat]!) ((p.qB[i]!).qU) (-(counts[i]!))))[(pUp p ((p.qB[i]!).qE))]!) ((p.qB[i]!).fIn) (-(counts[i]!)))).set (((p.qB[i]!).qE).toNat) (zo ((((zD p s true counts i).set (((p.qB[i]!).qE).toNat) (zo ((zD p s true counts i)[((p.qB[i]!).qE).toNat]!) ((p.qB[i]!).qU) (-(counts[i]!)))).set (pUp p ((p.qB[i]!).qE)) (zo (((zD p s true counts i).set (((p.qB[i]!).qE).toNat) (zo ((zD p s true counts i)[((p.qB[i]!).qE).toNat]!) ((p.qB[i]!).qU) (-(counts[i]!))))[(pUp p ((p.qB[i]!).qE))]!) ((p.qB[i]!).fIn) (-(counts[i]!))))[((p.qB[i]!).qE).toNat]!) ((p.qB[i]!).fIn) (counts[i]!))).set (pUp p ((p.qB[i]!).qE)) (zo (((((zD p s true counts i).set (((p.qB[i]!).qE).toNat) (zo ((zD p s true counts i)[((p.qB[i]!).qE).toNat]!) ((p.qB[i]!).qU) (-(counts[i]!)))).set (pUp p ((p.qB[i]!).qE)) (zo (((zD p s true counts i).set (((p.qB[i]!).qE).toNat) (zo ((zD p s true counts i)[((p.qB[i]!).qE).toNat]!) ((p.qB[i]!).qU) (-(counts[i]!))))[(pUp p ((p.qB[i]!).qE))]!) ((p.qB[i]!).fIn) (-(counts[i]!)))).set (((p.qB[i]!).qE).toNat) (zo ((((zD p s true counts i).set (((p.qB[i]!).qE).toNat) (zo ((zD p s true counts i)[((p.qB[i]!).qE).toNat]!) ((p.qB[i]!).qU) (-(counts[i]!)))).set (pUp p ((p.qB[i]!).qE)) (zo (((zD p s true counts i).set (((p.qB[i]!).qE).toNat) (zo ((zD p s true counts i)[((p.qB[i]!).qE).toNat]!) ((p.qB[i]!).qU) (-(counts[i]!))))[(pUp p ((p.qB[i]!).qE))]!) ((p.qB[i]!).fIn) (-(counts[i]!))))[((p.qB[i]!).qE).toNat]!) ((p.qB[i]!).fIn) (counts[i]!)))[(pUp p ((p.qB[i]!).qE))]!) ((p.qB[i]!).qU) (counts[i]!))),xs251,F252,uE6,?_,?_,rfl,(N.pick []),H.pick [5,6,7,8,9,10] [0,16,17,18,19,20,21]⟩
    · first | (have hh:pUp p (p.qB[i]!).qE=p.qC.length:=qg;rw [zD,if_pos rfl,cgGive,cgTake,fi_out hh,fi_out hh]) | (have hh:¬ pUp p (p.qB[i]!).qE=p.qC.length:=qg;rw [zD,if_pos rfl,cgGive,cgTake,fi_in hh,fi_in hh])
    · omega
  ·skip
   have ei:i=counts.length:=by omega
   refine zx4 (zcr (sps [.slice a11 (s.qG.length+1) c12,.slice a11 (s.qG.length+1) c12] (zjr (ret1 (.slice a11 (s.qG.length+1) c12) rfl rfl ⟨_,rfl,?_⟩))))
   replace H:=H.erases [2,1]
   dsimp only [Qg,List.eraseIdx] at H
   refine sp (.slice a11 (s.qG.length+1) c12) (zjc (sw (o_build [.slice none 0 0,.slice none 0 0] [] (sw (ja H ti39 [.slice none 0 0,.slice none 0 0] fun b254 w255 H=>sw (jA H 0 [.slice none 0 0,.slice none 0 0] Tryz.sizeOf39 fun w256 H=>zjcc (sp (.slice a11 (s.qG.length+1) c12) (oN rfl (sp (.int .i64 0) (zjn (xm ?_)))))))))))
   replace H:=H.nilRow 22 1
   replace H:=H.jC (α:=yLI)
   replace H:=H.nilRowI 2
   have EN:=cg_PB p0 p1 p2 true i qg
   have EL:=EN.1
   refine zK (fun m' ρ w257=>∃ (zu:Env) (i_1:Nat) (xR:yOA) (xy:Nat) (xQ:Nat) (out_Cells:yLL) (zQ:List Value) (xK:yLN) (jq:yOA) (jh:Nat) (jm:Nat) (out_Around:yLI),ρ=upd (upd (upd (upd (upd (upd zu 3 (.pointer (some ⟨b1,0,none⟩))) 6 (.pointer (some ⟨b5,0,none⟩))) 9 (.pointer (some ⟨b254,0,none⟩))) 17 (.slice a11 (s.qG.length+1) c12)) 18 (.int .i64 (s.qG.length+1))) 19 (.int .i64 i_1)∧out_Cells=(csTo p.qC.length (zD p s true counts i) i_1)∧out_Around=(arTo p.qC.length (zD p s true counts i) i_1)∧((i_1:Int)≤(s.qG.length+1))∧m' =((s.qG.length+1) - (i_1:Int)).toNat∧Fresh w.heap.size [xK]∧St w w257 [rr jq jh jm 2 1 (out_Around.map (Value.int .i64)),rr xR xy xQ 22 1 zQ,.box b254 [.slice xR xy xQ,.slice jq jh jm] 39,rr a11 (s.qG.length+1) c12 22 1 x_bags,.box b5 [.slice none 0 0,.slice none 0 0] 39,.box b3 [.slice asCells s.qG.length csCells,.slice qQ s.qF.length qP] 39,.box b1 [.int .i64 p.qJ,.slice qI p.qC.length qH,.slice apFree p.qL.length cpFree,.slice qR p.qB.length qM] 37] [xW true xK zQ out_Cells,xW false F_bags x_bags (zD p s true counts i),sF false xe qI qH p.qC,sF false FpFree apFree cpFree p.qL,sF false xx qR qM p.qB,sF false FsCells asCells csCells s.qG,sF false xw qQ qP s.qF]) (((s.qG.length+1) - (0:Int)).toNat) ⟨_,0,none,0,0,([]:yLL),[],[],none,0,0,[],uE6,(by exact cs_zero _ _),(by exact ar_zero _ _),qg,rfl,N.emp,H.pick [0,1,2,3,4,5,6] [0,1,2,3,4,5,6]⟩ ?_
   clear H N
   rintro m' ρ w258 ⟨zu,i_1,xR,xy,xQ,out_Cells,zQ,xK,jq,jh,jm,out_Around,rfl,rfl,rfl,i0,rfl,N,H⟩
   have hn_out_Cells:=H.zB (α:=yLI) 1 rfl 0 rfl qj
   have hn_out_Around:=H.y9 0 rfl
   have cl:=csTo_len p.qC.length (zD p s true counts i) i_1
   refine zcr (sp (.bool (decide ((i_1:Int) < (s.qG.length+1)))) (zjn (xP (cD rfl (fun h259=>?_) (fun h259=>?_)))))
   ·skip
    obtain ⟨v1,v2,v3⟩:=EN.row p0.1 qg (i:=i_1) qg
    refine xf (t_n (xP (xm (zcr (sp (.int .i64 i_1) ?_)))))
    obtain ⟨b260,rfl⟩:=H.yg 3 rfl qg
    refine oI rfl rfl ?_
    obtain ⟨a261,c262,G263,s264,h265,H⟩:=H.jX 3 rfl 1 rfl (iv:=i_1) i_1 qg qg
    refine oL rfl (h265) (sps [.int .i64 i_1,.slice a261 (((zD p s true counts i)[i_1]!).length) c262] (zjc (sp (.int .i64 i_1) (sw (xZ [.int .i64 p.qJ,.slice qI p.qC.length qH,.slice apFree p.qL.length cpFree,.slice qR p.qB.length qM] Tryz.isAgg37 Tryz.sizeOf37 rfl (qN (H.cells 6 rfl) 0 4) (sw (oq (outside_ok _ p (H.get 3 rfl).1 (H.get 4 rfl).1 (H.get 5 rfl).1) H fun w267 H=>sp (.bool ((i_1:Int) == p.qC.length)) (zjn (cE rfl (fun h269=>?_) (fun h269=>?_))))))))))
    ·skip
     refine xJ (sp (.slice a261 (((zD p s true counts i)[i_1]!).length) c262) ?_)
     have sz270:=H.base.size
     have lt271:=H.ltN (L:=[xK]) [1]
     refine sw (oc (cloneI_ok _ ((zD p s true counts i)[i_1]!) (H.get 0 rfl).1 qh) ?_)
     rintro v275 w273 r275 x274
     replace H:=H.zg x274 r275
     obtain ⟨a276,c277,rfl,hc278,hm279⟩:=H.vO 0 rfl
     refine oF rfl (sw (vz H 3 [.slice xR xy xQ,.slice a276 (((zD p s true counts i)[i_1]!).length) c277] Tryz.sizeOf22 fun w280 H=>xN (b_n (t_n (xJ (sw (xX i_1 1 rfl rfl qg (sp (.int .i64 (i_1+1)) (xN (xg (m' :=((s.qG.length+1) - ((i_1+1):Int)).toNat) qg ⟨_,i_1+1,xR,xy,xQ,(csTo p.qC.length (zD p s true counts i) i_1),zQ,xK,a276,((zD p s true counts i)[i_1]!).length,c277,((zD p s true counts i)[i_1]!),uE6,?_,?_,?_,rfl,N,H.pick [0,2,3,4,5,6,7] [1,2,3,4,5,6,7]⟩))))))))))
     · first | exact cs_in qg qg | exact cs_out qg
     · first | exact ar_in qg | exact ar_out qg
     · omega
    ·skip
     refine c_cut (fun ρ w286=>∃ (zu:Env) (a281:yOA) (c282:Nat) (a283:yOA) (c284:Nat) (G285:yLN),ρ=upd (upd (upd (upd (upd (upd zu 3 (.pointer (some ⟨b1,0,none⟩))) 6 (.pointer (some ⟨b5,0,none⟩))) 9 (.pointer (some ⟨b254,0,none⟩))) 17 (.slice (some ⟨b260,0,none⟩) (s.qG.length+1) c12)) 18 (.int .i64 (s.qG.length+1))) 19 (.int .i64 i_1)∧Fresh w.heap.size [(xK++G285)]∧St w w286 [rr jq jh jm 2 1 ((arTo p.qC.length (zD p s true counts i) i_1).map (Value.int .i64)),rr a281 (xy+1) c282 22 1 (zQ++[.slice a283 (((zD p s true counts i)[i_1]!).length) c284]),.box b254 [.slice a281 (xy+1) c282,.slice jq jh jm] 39,rr (some ⟨b260,0,none⟩) (s.qG.length+1) c12 22 1 x_bags,.box b5 [.slice none 0 0,.slice none 0 0] 39,.box b3 [.slice asCells s.qG.length csCells,.slice qQ s.qF.length qP] 39,.box b1 [.int .i64 p.qJ,.slice qI p.qC.length qH,.slice apFree p.qL.length cpFree,.slice qR p.qB.length qM] 37] [xW true (xK++G285) (zQ++[.slice a283 (((zD p s true counts i)[i_1]!).length) c284]) ((csTo p.qC.length (zD p s true counts i) i_1)++[((zD p s true counts i)[i_1]!)]),sF true G285 a283 c284 ((zD p s true counts i)[i_1]!),xW false F_bags x_bags (zD p s true counts i),sF false xe qI qH p.qC,sF false FpFree apFree cpFree p.qL,sF false xx qR qM p.qB,sF false FsCells asCells csCells s.qG,sF false xw qQ qP s.qF]) ?_ ?_
     ·skip
      refine jO rfl H [0,3,4,5,6] fun H=>?_
      have S:=H.zq [0,3,4,5,6] [0,1,2,3,4,5,6,7]
      refine tF 0 rfl rfl S ?_
      refine rtp 2 (.slice a261 (((zD p s true counts i)[i_1]!).length) c262) S ?_
      refine yz [1,3] qi qo (r_op rfl ?_ (r_op rfl ?_ yA))
      ·skip
       refine xY (.slice xR xy xQ) Tryz.isAgg27 rfl (H.cell 2 rfl rfl) (⟨H.pick [0,3,4,5,6] [0,1,2,3,4,5,6,7],(ro 3 rfl ?_)⟩)
       have sz288:=H.base.size
       have lt289:=H.ltN (L:=[xK]) [1]
       refine oc (cloneI_ok _ ((zD p s true counts i)[i_1]!) (H.get 0 rfl).1 qh) ?_
       rintro v293 w291 r293 x292
       replace H:=H.zg x292 r293
       obtain ⟨a294,c295,rfl,hc296,hm297⟩:=H.vO 0 rfl
       refine ⟨H.pick [1,4,5,6,7] [0,1,2,3,4,5,6,7],(ro 4 rfl (zt H Tryz.underlying27 ti22 [.slice a294 (((zD p s true counts i)[i_1]!).length) c295] fun b298 w299 H=>⟨H.pick [2,5,6,7,8] [0,1,2,3,4,5,6,7],(ro 5 rfl ?_)⟩))⟩
       obtain ⟨G303,N,hn304,H⟩:=H.vw 1 rfl N (H.jL [1])
       refine zA H 3 rfl 0 rfl Tryz.underlying27 ti22 rfl qj rfl rfl rfl qx qw qg fun a300 c301 w302 H=>?_
       replace H:=H.jy 2 rfl 0 rfl
       replace N:Fresh w.heap.size [(xK++G303)]:=(N.pick [1,0]).join
       refine ⟨H.pick [2,5,6,7,8] [2,3,4,5,6,7,8,9],(tF 6 rfl rfl (H.pick [2,5,6,7,8] [2,3,4,5,6,7,8,9]) ?_)⟩
       refine ro 7 rfl (vz H 4 [.slice a300 (xy+1) c301,.slice jq jh jm] Tryz.sizeOf27 fun w305 H=>⟨H.pick [2,5,6,7,8] [2,3,4,5,6,7,8,9],(xI qi ((meet ⟨_,a300,c301,a294,c295,G303,uE6,N,H.pick [2,3,4,5,6,7,8] [0,1,4,5,6,7,8,9]⟩)))⟩)
      ·skip
       have sz306:=H.base.size
       have lt307:=H.ltN (L:=[xK]) [1]
       refine oc (cloneI_ok _ ((zD p s true counts i)[i_1]!) (H.get 0 rfl).1 qh) ?_
       rintro v311 w309 r311 x310
       replace H:=H.zg x310 r311
       obtain ⟨a312,c313,rfl,hc314,hm315⟩:=H.vO 0 rfl
       refine ⟨H.pick [1,4,5,6,7] [0,1,2,3,4,5,6,7],(yz [1,4] qi qo (r_op rfl ?_ (r_op rfl ?_ yA)))⟩
       ·skip
        refine xY (.slice xR xy xQ) Tryz.isAgg27 rfl (H.cell 3 rfl rfl) (⟨H.pick [1,4,5,6,7] [0,1,2,3,4,5,6,7],(ro 4 rfl (zt H Tryz.underlying27 ti22 [.slice a312 (((zD p s true counts i)[i_1]!).length) c313] fun b316 w317 H=>⟨H.pick [2,5,6,7,8] [0,1,2,3,4,5,6,7],(ro 5 rfl ?_)⟩))⟩)
        obtain ⟨G321,N,hn322,H⟩:=H.vw 1 rfl N (H.jL [1])
        refine zA H 3 rfl 0 rfl Tryz.underlying27 ti22 rfl qj rfl rfl rfl qx qw qg fun a318 c319 w320 H=>?_
        replace H:=H.jy 2 rfl 0 rfl
        replace N:Fresh w.heap.size [(xK++G321)]:=(N.pick [1,0]).join
        refine ⟨H.pick [2,5,6,7,8] [2,3,4,5,6,7,8,9],(tF 6 rfl rfl (H.pick [2,5,6,7,8] [2,3,4,5,6,7,8,9]) ?_)⟩
        refine ro 7 rfl (vz H 4 [.slice a318 (xy+1) c319,.slice jq jh jm] Tryz.sizeOf27 fun w323 H=>⟨H.pick [2,5,6,7,8] [2,3,4,5,6,7,8,9],(xI qi ((meet ⟨_,a318,c319,a312,c313,G321,uE6,N,H.pick [2,3,4,5,6,7,8] [0,1,4,5,6,7,8,9]⟩)))⟩)
       ·skip
        refine zt H Tryz.underlying27 ti22 [.slice a312 (((zD p s true counts i)[i_1]!).length) c313] fun b324 w325 H=>⟨H.pick [2,5,6,7,8] [0,1,2,3,4,5,6,7],(ro 1 rfl (xY (.slice xR xy xQ) Tryz.isAgg27 rfl (H.cell 4 rfl rfl) (⟨H.pick [2,5,6,7,8] [0,1,2,3,4,5,6,7],(ro 5 rfl ?_)⟩)))⟩
        obtain ⟨G329,N,hn330,H⟩:=H.vw 1 rfl N (H.jL [1])
        refine zA H 3 rfl 0 rfl Tryz.underlying27 ti22 rfl qj rfl rfl rfl qx qw qg fun a326 c327 w328 H=>?_
        replace H:=H.jy 2 rfl 0 rfl
        replace N:Fresh w.heap.size [(xK++G329)]:=(N.pick [1,0]).join
        refine ⟨H.pick [2,5,6,7,8] [2,3,4,5,6,7,8,9],(tF 6 rfl rfl (H.pick [2,5,6,7,8] [2,3,4,5,6,7,8,9]) ?_)⟩
        refine ro 7 rfl (vz H 4 [.slice a326 (xy+1) c327,.slice jq jh jm] Tryz.sizeOf27 fun w331 H=>⟨H.pick [2,5,6,7,8] [2,3,4,5,6,7,8,9],(xI qi ((meet ⟨_,a326,c327,a312,c313,G329,uE6,N,H.pick [2,3,4,5,6,7,8] [0,1,4,5,6,7,8,9]⟩)))⟩)
     ·skip
      clear H N
      rintro ρ w332 ⟨zu,a281,c282,a283,c284,G285,rfl,N,H⟩
      refine b_n (t_n (xJ (sw (xX i_1 1 rfl rfl qg (sp (.int .i64 (i_1+1)) (xN (xg (m' :=((s.qG.length+1) - ((i_1+1):Int)).toNat) qg ⟨_,i_1+1,a281,xy+1,c282,((csTo p.qC.length (zD p s true counts i) i_1)++[((zD p s true counts i)[i_1]!)]),zQ++[.slice a283 (((zD p s true counts i)[i_1]!).length) c284],(xK++G285),jq,jh,jm,(arTo p.qC.length (zD p s true counts i) i_1),uE6,?_,?_,?_,rfl,N,H.pick [0,1,2,3,4,5,6] [0,2,3,4,5,6,7]⟩)))))))
      · first | exact cs_in qg qg | exact cs_out qg
      · first | exact ar_in qg | exact ar_out qg
      · omega
   ·skip
    refine zx4 (zcc (sw (xZ [.int .i64 p.qJ,.slice qI p.qC.length qH,.slice apFree p.qL.length cpFree,.slice qR p.qB.length qM] Tryz.isAgg37 Tryz.sizeOf37 rfl (qN (H.cells 6 rfl) 0 4) (sw (xZ [.slice xR xy xQ,.slice jq jh jm] Tryz.isAgg39 Tryz.sizeOf39 rfl (qN (H.cells 2 rfl) 0 2) ?_)))))
    obtain ⟨G333,hn334,h335⟩:=H.rowIsR (α:=yLI) 1 rfl 0 rfl qj
    obtain ⟨G336,hn337,h338⟩:=H.Qa 0 rfl
    refine sw (oq (args_eq (by rw [← hn334,← hn337]) (validStock_ok _ p (⟨(csTo p.qC.length (zD p s true counts i) i_1),(arTo p.qC.length (zD p s true counts i) i_1)⟩:qZ) (H.get 2 rfl).1 (H.get 3 rfl).1 (H.get 4 rfl).1 (hn334▸h335) (hn337▸h338))) H fun w340 H=>sp (.bool (!(dec (zi p∧xG p (⟨(csTo p.qC.length (zD p s true counts i) i_1),(arTo p.qC.length (zD p s true counts i) i_1)⟩:qZ))))) (zjn (cQ rfl (fun h342=>?_) (fun h342=>?_))))
    ·skip
     refine zcr (sw (o_build [.slice none 0 0,.slice none 0 0] [] (sw (jA H 4 [.slice none 0 0,.slice none 0 0] Tryz.sizeOf39 fun w343 H=>sp (.int .i64 3) (zjr (t_r ?_))))))
     replace H:=H.nilRow 22 1
     replace H:=H.jC (α:=yLI)
     replace H:=H.nilRowI 2
     refine retC2 H 6 rfl (.int .i64 3) rfl Tryz.isAgg39 Tryz.sizeOf39 rfl rfl ⟨_,rfl,?_,H.base⟩
     have e1:vH p s counts=⟨csTo p.qC.length (zD p s true counts i) i_1,arTo p.qC.length (zD p s true counts i) i_1⟩:=by unfold vH;rw [← ei,show i_1=p.qC.length+1 by omega]
     rw [pstep_no (by rw [e1];exact fun h=>(‹¬ _›:¬ (zi p∧xG p _)) ⟨p0,h⟩)]
     exact ⟨none,0,0,[],[],none,0,0,rfl,(N.emp.pick [0]),H.pick [1,0] [0]⟩
    ·skip
     refine xf (t_n (zcr (sw (xZ [.slice xR xy xQ,.slice jq jh jm] Tryz.isAgg39 Tryz.sizeOf39 rfl (qN (H.cells 2 rfl) 0 2) (sw (jA H 4 [.slice xR xy xQ,.slice jq jh jm] Tryz.sizeOf39 fun w344 H=>sp (.int .i64 0) (zjr (retC2 H 4 rfl (.int .i64 0) rfl Tryz.isAgg39 Tryz.sizeOf39 rfl rfl ⟨_,rfl,?_,H.base⟩))))))))
     have e1:vH p s counts=⟨csTo p.qC.length (zD p s true counts i) i_1,arTo p.qC.length (zD p s true counts i) i_1⟩:=by unfold vH;rw [← ei,show i_1=p.qC.length+1 by omega]
     rw [pstep_yes (by rw [e1];exact (by assumption:zi p∧xG p _).2),e1]
     exact ⟨xR,xy,xQ,zQ,xK,jq,jh,jm,rfl,N,H.pick [1,0] [0]⟩
theorem l00Same_ok (w:World) (a:yLI) (b:yLI) {aa:yOA} {Fa:yLN} {ab:yOA} {Fb:yLN} (ha:qV.rep w Fa [.slice aa a.length ca] a) (hb:qV.rep w Fb [.slice ab b.length cb] b):Calls Tryz.prog 106 #[.slice aa a.length ca,.slice ab b.length cb] w (Ret (fun v w' =>v=.bool (decide (a=b))) w):=by
 refine en Tryz.func106 Tryz.ntmps106 ?_
 have H:=((St.start w).arg hb).arg ha
 have nha:=qO ha
 have nhb:=qO hb
 clear ha hb
 have N:=Fresh.nil w.heap.size
 refine zcr (sp (.bool false) (zjcc (sp (.slice aa a.length ca) (oN rfl (sp (.slice ab b.length cb) (oN rfl (sp (.bool ((a.length:Int) != b.length)) (zjn (xC ((a.length:Int) != b.length) rfl (fun h1=>?_) (fun h1=>?_))))))))))
 ·skip
  replace h1:=bne_iff_ne.1 h1
  refine zcr (sp (.bool false) (zjr (t_r (ret1 (.bool false) rfl rfl ⟨_,rfl,?_,H.base⟩))))
  first | rw [decide_eq_false (fun e=>by subst e;omega)] | rw [decide_eq_false (vX (k:=i) ‹_›)] | rw [decide_eq_true (vN (k:=i) qg qg ‹_›)]
 ·skip
  replace h1:=xA h1
  refine xf (t_n (zcc (sp (.int .i64 0) (zjn (xm ?_)))))
  refine zK (fun m' ρ w2=>∃ (zu:Env) (i:Nat),ρ=upd (upd (upd zu 0 (.slice aa a.length ca)) 1 (.slice ab b.length cb)) 5 (.int .i64 i)∧((i:Int)≤a.length)∧(a.take i=b.take i)∧m' =(a.length - (i:Int)).toNat∧Fresh w.heap.size []∧St w w2 [] [sF false Fa aa ca a,sF false Fb ab cb b]) ((a.length - (0:Int)).toNat) ⟨_,0,uE3,qg,(by rfl),rfl,N,H⟩ ?_
  clear H N
  rintro m' ρ w3 ⟨zu,i,rfl,i0,i1,rfl,N,H⟩
  refine zcc (sps [.int .i64 i,.slice aa a.length ca] (oN rfl (sp (.bool (decide ((i:Int) < a.length))) (zjn (cD rfl (fun h4=>?_) (fun h4=>?_))))))
  ·skip
   refine xf (t_n (xP (xm (xP ?_))))
   refine vK rfl H fun H=>rtp 0 (.slice aa a.length ca) H ?_
   refine rtp 1 (.int .i64 i) H ?_
   obtain ⟨b6,o7,rfl⟩:=H.addr 0 rfl qg
   refine tI 2 rfl rfl rfl H ?_
   refine tL 3 rfl rfl (fun _ h=>h.vT 0 rfl i qg) H ?_
   refine rtp 4 (.slice ab b.length cb) H ?_
   refine rtp 5 (.int .i64 i) H ?_
   obtain ⟨b9,o10,rfl⟩:=H.addr 1 rfl qg
   refine tI 6 rfl rfl rfl H ?_
   refine tL 7 rfl rfl (fun _ h=>h.vT 1 rfl i qg) H ?_
   refine rtp 8 (.bool ((a[i]! :Int) != (b[i]!))) H ?_
   refine xI qi (t_n (xC ((a[i]! :Int) != (b[i]!)) rfl (fun h12=>?_) (fun h12=>?_)))
   ·skip
    replace h12:=bne_iff_ne.1 h12
    refine zcr (sp (.bool false) (zjr (zr5 (ret1 (.bool false) rfl rfl ⟨_,rfl,?_,H.base⟩))))
    first | rw [decide_eq_false (fun e=>by subst e;omega)] | rw [decide_eq_false (vX (k:=i) ‹_›)] | rw [decide_eq_true (vN (k:=i) qg qg ‹_›)]
   ·skip
    replace h12:=xA h12
    refine xf (b_n (t_n (xJ (sp (.int .i64 i) (sw (xX i 1 rfl rfl qg (sp (.int .i64 (i+1)) (xN (xg (m' :=(a.length - ((i+1):Int)).toNat) qg ⟨_,i+1,uE3,?_,?_,rfl,N,H⟩)))))))))
    · omega
    · exact QD qg qg ‹_› qh
  ·skip
   refine zx4 (zcr (sp (.bool true) (zjr (ret1 (.bool true) rfl rfl ⟨_,rfl,?_,H.base⟩))))
   first | rw [decide_eq_false (fun e=>by subst e;omega)] | rw [decide_eq_false (vX (k:=i) ‹_›)] | rw [decide_eq_true (vN (k:=i) qg qg ‹_›)]

theorem l06Same_ok (w:World) (s:qZ) (t:qZ) {bs:Nat} {asCells:yOA} {FsCells:yLN} {qQ:yOA} {xw:yLN} {bt ot:Nat} {atCells:yOA} {FtCells:yLN} {QF:yOA} {FtAround:yLN} (hs:zM w bs os [.slice asCells s.qG.length csCells,.slice qQ s.qF.length qP]) (hsCells:qV.rep w FsCells [.slice asCells s.qG.length csCells] s.qG) (xu:qV.rep w xw [.slice qQ s.qF.length qP] s.qF) (ht:zM w bt ot [.slice atCells t.qG.length ctCells,.slice QF t.qF.length QE]) (htCells:qV.rep w FtCells [.slice atCells t.qG.length ctCells] t.qG) (htAround:qV.rep w FtAround [.slice QF t.qF.length QE] t.qF):Calls Tryz.prog 87 #[.pointer (some ⟨bs,os,none⟩),.pointer (some ⟨bt,ot,none⟩)] w (Ret (fun v w' =>v=.bool (decide (s=t))) w):=by
 refine en Tryz.func87 Tryz.ntmps87 ?_
 have H:=((((((St.start w).arg htAround).arg htCells).argAt ht).arg xu).arg hsCells).argAt hs
 have nhsCells:=qO hsCells
 have vV:=qO xu
 have nhtCells:=qO htCells
 have nhtAround:=qO htAround
 clear hs hsCells xu ht htCells htAround
 have N:=Fresh.nil w.heap.size
 refine zcr (sp (.bool false) (zjn (xP (xP ?_))))
 refine vK rfl H fun H=>rtp 0 (.pointer (some ⟨bs,os,none⟩)) H ?_
 refine rtp 1 (.pointer (some ⟨bs,os,none⟩)) H ?_
 refine tF 2 rfl rfl H ?_
 refine tL 3 rfl rfl (fun _ h=>h.xU 0 rfl 1 rfl) H ?_
 refine rtp 4 (.pointer (some ⟨bt,ot,none⟩)) H ?_
 refine rtp 5 (.pointer (some ⟨bt,ot,none⟩)) H ?_
 refine tF 6 rfl rfl H ?_
 refine tL 7 rfl rfl (fun _ h=>h.xU 3 rfl 1 rfl) H ?_
 refine ro 8 rfl (oq (l00Same_ok _ s.qF t.qF (H.get 2 rfl).1 (H.get 5 rfl).1) H fun w3 H=>⟨H,(rtp 9 (.bool (!(decide (s.qF=t.qF)))) H ?_)⟩)
 refine rtp 10 (.bool (!(decide (s.qF=t.qF)))) H ?_
 cases h5:(!(decide (s.qF=t.qF)))
 ·skip
  replace h5:=xq h5
  replace h5:=of_decide_eq_true h5
  refine rgp 11 (.pointer (some ⟨bs,os,none⟩)) 16 H ?_
  refine rgp 12 (.pointer (some ⟨bs,os,none⟩)) 16 H ?_
  refine gF 13 rfl rfl H ?_
  refine gL 14 rfl rfl (fun _ h=>h.xU 0 rfl 0 rfl) H ?_
  refine gN 15 rfl rfl H ?_
  refine rgp 16 (.pointer (some ⟨bt,ot,none⟩)) 16 H ?_
  refine rgp 17 (.pointer (some ⟨bt,ot,none⟩)) 16 H ?_
  refine gF 18 rfl rfl H ?_
  refine gL 19 rfl rfl (fun _ h=>h.xU 3 rfl 0 rfl) H ?_
  refine gN 20 rfl rfl H ?_
  refine rgp 21 (.bool ((s.qG.length:Int) != t.qG.length)) 16 H ?_
  refine rtp 22 (.bool ((s.qG.length:Int) != t.qG.length)) H ?_
  refine xI qi (t_n (xC ((s.qG.length:Int) != t.qG.length) rfl (fun h6=>?_) (fun h6=>?_)))
  ·skip
   replace h6:=bne_iff_ne.1 h6
   refine zcr (sp (.bool false) (zjr (t_r (ret1 (.bool false) rfl rfl ⟨_,rfl,?_,H.base⟩))))
   rw [decide_eq_false (fun e=>by subst e;first | contradiction | omega)]
  ·skip
   replace h6:=xA h6
   refine xf (t_n (zcc (sp (.int .i64 0) (zjn (xm ?_)))))
   refine zK (fun m' ρ w7=>∃ (zu:Env) (i:Nat),ρ=upd (upd (upd zu 0 (.pointer (some ⟨bs,os,none⟩))) 1 (.pointer (some ⟨bt,ot,none⟩))) 5 (.int .i64 i)∧((i:Int)≤s.qG.length)∧(s.qG.take i=t.qG.take i)∧m' =(s.qG.length - (i:Int)).toNat∧Fresh w.heap.size []∧St w w7 [] [atF bs os [.slice asCells s.qG.length csCells,.slice qQ s.qF.length qP],sF false FsCells asCells csCells s.qG,sF false xw qQ qP s.qF,atF bt ot [.slice atCells t.qG.length ctCells,.slice QF t.qF.length QE],sF false FtCells atCells ctCells t.qG,sF false FtAround QF QE t.qF]) ((s.qG.length - (0:Int)).toNat) ⟨_,0,uE3,qg,(by rfl),rfl,N,H⟩ ?_
   clear H N
   rintro m' ρ w8 ⟨zu,i,rfl,i0,i1,rfl,N,H⟩
   refine zcc (sps [.int .i64 i,.pointer (some ⟨bs,os,none⟩),.pointer (some ⟨bs,os,none⟩)] (oF rfl (oL rfl (H.xU 0 rfl 0 rfl) (oN rfl (sp (.bool (decide ((i:Int) < s.qG.length))) (zjn (cD rfl (fun h9=>?_) (fun h9=>?_))))))))
   ·skip
    refine xf (t_n (xP (xm (xP ?_))))
    obtain ⟨b10,o11,rfl⟩:=H.addr 1 rfl qg
    obtain ⟨b13,o14,rfl⟩:=H.addr 4 rfl qg
    refine c_cut (fun ρ w22=>∃ (zu:Env) (F16:yLN) (a17:yOA) (c18:Nat) (F19:yLN) (a20:yOA) (c21:Nat),ρ=upd (upd (upd (upd zu 0 (.pointer (some ⟨bs,os,none⟩))) 1 (.pointer (some ⟨bt,ot,none⟩))) 5 (.int .i64 i)) 53 (.bool (!(decide ((s.qG[i]!)=(t.qG[i]!)))))∧Fresh w.heap.size []∧St w w22 [] [sF false F16 a17 c18 (t.qG[i]!),atF b13 (o14+(i:Int).toNat * 1) [.slice a17 ((t.qG[i]!).length) c18],sF false F19 a20 c21 (s.qG[i]!),atF b10 (o11+(i:Int).toNat * 1) [.slice a20 ((s.qG[i]!).length) c21],atF bs os [.slice (some ⟨b10,o11,none⟩) s.qG.length csCells,.slice qQ s.qF.length qP],sF false FsCells (some ⟨b10,o11,none⟩) csCells s.qG,sF false xw qQ qP s.qF,atF bt ot [.slice (some ⟨b13,o14,none⟩) t.qG.length ctCells,.slice QF t.qF.length QE],sF false FtCells (some ⟨b13,o14,none⟩) ctCells t.qG,sF false FtAround QF QE t.qF]) ?_ ?_
    ·skip
     refine vK rfl H fun H=>rtp 0 (.pointer (some ⟨bs,os,none⟩)) H ?_
     refine rtp 1 (.pointer (some ⟨bs,os,none⟩)) H ?_
     refine tF 2 rfl rfl H ?_
     refine tL 3 rfl rfl (fun _ h=>h.xU 0 rfl 0 rfl) H ?_
     refine rtp 4 (.int .i64 i) H ?_
     obtain ⟨ae24,ce24,Fe24,H⟩:=H.Qm 1 rfl i i qg qg qg
     have S:=H.zq [] [2,3,4,5,6,7]
     refine tI 5 rfl rfl rfl S ?_
     refine rtp 7 (.pointer (some ⟨bt,ot,none⟩)) S ?_
     refine rtp 8 (.pointer (some ⟨bt,ot,none⟩)) S ?_
     refine tF 9 rfl rfl S ?_
     refine tL 10 rfl rfl (fun _ h=>h.xU 3 rfl 0 rfl) S ?_
     refine rtp 11 (.int .i64 i) S ?_
     obtain ⟨ae25,ce25,Fe25,H⟩:=H.Qm 6 rfl i i qg qg qg
     refine tI 12 rfl rfl rfl (H.pick [] [4,5,6,7,8,9]) ?_
     refine yz [6,13] qi qo (r_op rfl ?_ (r_op rfl ?_ yA))
     ·skip
      refine xY (.slice ae24 ((s.qG[i]!).length) ce24) Tryz.isAgg22 rfl (H.xU 3 rfl 0 rfl) (⟨H.pick [] [4,5,6,7,8,9],(ro 13 rfl (xY (.slice ae25 ((t.qG[i]!).length) ce25) Tryz.isAgg22 rfl (H.xU 1 rfl 0 rfl) (⟨H.pick [] [4,5,6,7,8,9],(ro 14 rfl (oq (l00Same_ok _ (s.qG[i]!) (t.qG[i]!) (H.get 2 rfl).1 (H.get 0 rfl).1) H fun w27 H=>⟨H.pick [] [4,5,6,7,8,9],(rtp 15 (.bool (!(decide ((s.qG[i]!)=(t.qG[i]!))))) (H.pick [] [4,5,6,7,8,9]) ?_)⟩))⟩)))⟩)
      refine xI qi ((meet ⟨_,Fe25,ae25,ce25,Fe24,ae24,ce24,uE4,N,H⟩))
     ·skip
      refine xY (.slice ae25 ((t.qG[i]!).length) ce25) Tryz.isAgg22 rfl (H.xU 1 rfl 0 rfl) (⟨H.pick [] [4,5,6,7,8,9],(ro 6 rfl (xY (.slice ae24 ((s.qG[i]!).length) ce24) Tryz.isAgg22 rfl (H.xU 3 rfl 0 rfl) (⟨H.pick [] [4,5,6,7,8,9],(ro 14 rfl (oq (l00Same_ok _ (s.qG[i]!) (t.qG[i]!) (H.get 2 rfl).1 (H.get 0 rfl).1) H fun w30 H=>⟨H.pick [] [4,5,6,7,8,9],(rtp 15 (.bool (!(decide ((s.qG[i]!)=(t.qG[i]!))))) (H.pick [] [4,5,6,7,8,9]) ?_)⟩))⟩)))⟩)
      refine xI qi ((meet ⟨_,Fe25,ae25,ce25,Fe24,ae24,ce24,uE4,N,H⟩))
    ·skip
     clear H N
     rintro ρ w32 ⟨zu,F16,a17,c18,F19,a20,c21,rfl,N,H⟩
     refine t_n (xC (!(decide ((s.qG[i]!)=(t.qG[i]!)))) rfl (fun h33=>?_) (fun h33=>?_))
     ·skip
      replace h33:=xB h33
      replace h33:=of_decide_eq_false h33
      refine zcr (sp (.bool false) (zjr (zr5 (ret1 (.bool false) rfl rfl ⟨_,rfl,?_,H.base⟩))))
      rw [decide_eq_false (fun e=>by subst e;first | contradiction | omega)]
     ·skip
      replace h33:=xq h33
      replace h33:=of_decide_eq_true h33
      refine xf (b_n (t_n (xJ (sp (.int .i64 i) (sw (xX i 1 rfl rfl qg (sp (.int .i64 (i+1)) (xN (xg (m' :=(s.qG.length - ((i+1):Int)).toNat) qg ⟨_,i+1,uE3,?_,?_,rfl,N,H.pick [] [4,5,6,7,8,9]⟩)))))))))
      · omega
      · exact QD qg qg ‹_› qh
   ·skip
    refine zx4 (zcr (sp (.bool true) (zjr (ret1 (.bool true) rfl rfl ⟨_,rfl,?_,H.base⟩))))
    rw [decide_eq_true (by have e1:=vN (k:=i) qg qg i1;cases s;cases t;simp_all)]
 ·skip
  replace h5:=xB h5
  replace h5:=of_decide_eq_false h5
  refine zL [11,12,13,14,15,16,17,18,19,20,21] 11 (H) (rtp 22 (.bool true) H ?_)
  refine xI qi (t_n (xC true rfl (fun _=>zcr (sp (.bool false) (zjr (t_r (ret1 (.bool false) rfl rfl ⟨_,rfl,?_,H.base⟩))))) (fun h=>absurd h qj)))
  rw [decide_eq_false (fun e=>by subst e;first | contradiction | omega)]

theorem l06Find_ok (w:World) (l:List qZ) (u:qZ) {al:yOA} {Fl:yLN} {bu ou:Nat} {auCells:yOA} {cuCells:Nat} {FuCells:yLN} {auAround:yOA} {cuAround:Nat} {FuAround:yLN} (hl:qV.rep w Fl [.slice al l.length cl] l) (hu:zM w bu ou [.slice auCells u.qG.length cuCells,.slice auAround u.qF.length cuAround]) (huCells:qV.rep w FuCells [.slice auCells u.qG.length cuCells] u.qG) (huAround:qV.rep w FuAround [.slice auAround u.qF.length cuAround] u.qF):Calls Tryz.prog 63 #[.slice al l.length cl,.pointer (some ⟨bu,ou,none⟩)] w (Ret (fun v w' =>v=.int .i64 (firstIdx (fun zz=>decide (l[zz]! =u)) l.length)) w):=by
 refine en Tryz.func63 Tryz.ntmps63 ?_
 have H:=((((St.start w).arg huAround).arg huCells).argAt hu).arg hl
 have nhl:=qO hl
 have nhuCells:=qO huCells
 have nhuAround:=qO huAround
 clear hl hu huCells huAround
 have N:=Fresh.nil w.heap.size
 refine zcr (sp (.int .i64 0) (zjcc (sp (.int .i64 0) (zjn (xm ?_)))))
 refine zK (fun m' ρ w1=>∃ (zu:Env) (i:Nat),ρ=upd (upd (upd zu 0 (.slice al l.length cl)) 1 (.pointer (some ⟨bu,ou,none⟩))) 5 (.int .i64 i)∧((i:Int)≤l.length)∧(noneTo (fun zz=>decide (l[zz]! =u)) i)∧m' =(l.length - (i:Int)).toNat∧Fresh w.heap.size []∧St w w1 [] [sF false Fl al cl l,atF bu ou [.slice auCells u.qG.length cuCells,.slice auAround u.qF.length cuAround],sF false FuCells auCells cuCells u.qG,sF false FuAround auAround cuAround u.qF]) ((l.length - (0:Int)).toNat) ⟨_,0,uE3,qg,qy,rfl,N,H⟩ ?_
 clear H N
 rintro m' ρ w2 ⟨zu,i,rfl,i0,i1,rfl,N,H⟩
 refine zcc (sps [.int .i64 i,.slice al l.length cl] (oN rfl (sp (.bool (decide ((i:Int) < l.length))) (zjn (cD rfl (fun h3=>?_) (fun h3=>?_))))))
 ·skip
  refine xf (t_n (xP (xm (zcr (sps [.slice al l.length cl,.int .i64 i] ?_)))))
  obtain ⟨b4,o5,rfl⟩:=H.addr 0 rfl qg
  obtain ⟨ae7Cells,ce7Cells,Fe7Cells,ae7Around,ce7Around,Fe7Around,H⟩:=H.elem_StockD 0 rfl i i qg qg qg
  refine oI rfl rfl (sp (.pointer (some ⟨bu,ou,none⟩)) (sw (oq (l06Same_ok _ (l[i]!) u (qN (H.get 2 rfl) 0 2) (H.get 0 rfl).1 (H.get 1 rfl).1 (qN (H.get 4 rfl) 0 2) (H.get 5 rfl).1 (H.get 6 rfl).1) H fun w9 H=>zjn (cD rfl (fun h11=>?_) (fun h11=>?_)))))
  ·skip
   refine zcr (sps [.int .i64 i,.int .i64 i] (zjr (zr5 (ret1 (.int .i64 i) rfl rfl ⟨_,rfl,?_,H.base⟩))))
   rw [firstIdx_some (k:=i) qg i1 (decide_eq_true ‹_›)]
  ·skip
   refine xf (b_n (t_n (xJ (sp (.int .i64 i) (sw (xX i 1 rfl rfl qg (sp (.int .i64 (i+1)) (xN (xg (m' :=(l.length - ((i+1):Int)).toNat) qg ⟨_,i+1,uE3,?_,?_,rfl,N,H.pick [] [3,4,5,6]⟩)))))))))
   · omega
   · exact noneTo_succ i1 (decide_eq_false ‹_›)
 ·skip
  refine zx4 (zcr (sp (.int .i64 (-1)) (zjr (ret1 (.int .i64 (-1)) rfl rfl ⟨_,rfl,?_,H.base⟩))))
  rw [firstIdx_none (fun j hj=>i1 j qg)]

theorem l06OwnStock_ok (w:World) (s:qZ) {bs:Nat} {asCells:yOA} {FsCells:yLN} {qQ:yOA} {xw:yLN} (hs:zM w bs os [.slice asCells s.qG.length csCells,.slice qQ s.qF.length qP]) (hsCells:qV.rep w FsCells [.slice asCells s.qG.length csCells] s.qG) (xu:qV.rep w xw [.slice qQ s.qF.length qP] s.qF) (p0:s.qF.length≤1000000) (p1:s.qG.length≤1000000) (p2:∀ k,k < s.qG.length→(s.qG[k]!).length≤1000000):Calls Tryz.prog 60 #[.pointer (some ⟨bs,os,none⟩)] w (Ret (fun v w' =>∃ (raCells:yOA) (rnCells:Nat) (rcCells:Nat) (rxCells:List Value) (rFCells:yLN) (raAround:yOA) (rnAround:Nat) (rcAround:Nat),v=.agg #[.slice raCells rnCells rcCells,.slice raAround rnAround rcAround]∧Fresh w.heap.size [rFCells]∧St w w' [rr raCells rnCells rcCells 22 1 rxCells,rr raAround rnAround rcAround 2 1 (s.qF.map (Value.int .i64))] [xW true rFCells rxCells s.qG]) w):=by
 refine en Tryz.func60 Tryz.ntmps60 ?_
 have H:=(((St.start w).arg xu).arg hsCells).argAt hs
 have nhsCells:=qO hsCells
 have vV:=qO xu
 clear hs hsCells xu
 have N:=Fresh.nil w.heap.size
 refine zcr (sw (ja H ti39 [.slice none 0 0,.slice none 0 0] fun b1 w2 H=>zjc (sps [.pointer (some ⟨bs,os,none⟩),.pointer (some ⟨bs,os,none⟩)] (oF rfl (oL rfl (H.xU 0 rfl 1 rfl) ?_)))))
 have sz3:=H.base.size
 refine sw (oc (yY _ s.qF (H.get 2 rfl).1 qh) ?_)
 rintro v8 w6 r8 x7
 replace H:=H.zg x7 r8
 obtain ⟨a9,c10,rfl,hc11,hm12⟩:=H.vO 0 rfl
 refine sw (o_build [.slice none 0 0,.slice a9 s.qF.length c10] [(1,.slice a9 s.qF.length c10)] (sw (ja H ti39 [.slice none 0 0,.slice none 0 0] fun b13 w14 H=>sw (jA H 0 [.slice none 0 0,.slice a9 s.qF.length c10] Tryz.sizeOf39 fun w15 H=>zjcc (sp (.int .i64 0) (zjn (xm ?_)))))))
 replace H:=H.nilRow 22 1
 replace H:=H.jC (α:=yLI)
 refine zK (fun m' ρ w16=>∃ (zu:Env) (i:Nat) (xR:yOA) (xy:Nat) (xQ:Nat) (out_Cells:yLL) (zQ:List Value) (xK:yLN),ρ=upd (upd (upd (upd zu 0 (.pointer (some ⟨bs,os,none⟩))) 2 (.pointer (some ⟨b1,0,none⟩))) 3 (.pointer (some ⟨b13,0,none⟩))) 4 (.int .i64 i)∧out_Cells=s.qG.take i∧((i:Int)≤s.qG.length)∧m' =(s.qG.length - (i:Int)).toNat∧Fresh w.heap.size [xK]∧St w w16 [rr xR xy xQ 22 1 zQ,.box b13 [.slice xR xy xQ,.slice a9 s.qF.length c10] 39,rr a9 s.qF.length c10 2 1 (s.qF.map (Value.int .i64)),.box b1 [.slice none 0 0,.slice none 0 0] 39] [xW true xK zQ out_Cells,atF bs os [.slice asCells s.qG.length csCells,.slice qQ s.qF.length qP],sF false FsCells asCells csCells s.qG,sF false xw qQ qP s.qF]) ((s.qG.length - (0:Int)).toNat) ⟨_,0,none,0,0,([]:yLL),[],[],uE4,(by rfl),qg,rfl,N.emp,H⟩ ?_
 clear H N
 rintro m' ρ w17 ⟨zu,i,xR,xy,xQ,out_Cells,zQ,xK,rfl,rfl,i0,rfl,N,H⟩
 have hn_out_Cells:=H.zB (α:=yLI) 0 rfl 0 rfl qj
 have p4:=p2 i
 rw [List.length_take_of_le qg] at hn_out_Cells
 refine zcc (sps [.int .i64 i,.pointer (some ⟨bs,os,none⟩),.pointer (some ⟨bs,os,none⟩)] (oF rfl (oL rfl (H.xU 1 rfl 0 rfl) (oN rfl (sp (.bool (decide ((i:Int) < s.qG.length))) (zjn (cD rfl (fun h18=>?_) (fun h18=>?_))))))))
 ·skip
  refine xf (t_n (xP (xm ?_)))
  obtain ⟨b19,o20,rfl⟩:=H.addr 2 rfl qg
  refine c_cut (fun ρ w30=>∃ (zu:Env) (a22:yOA) (c23:Nat) (a24:yOA) (c25:Nat) (G26:yLN) (F27:yLN) (a28:yOA) (c29:Nat),ρ=upd (upd (upd (upd zu 0 (.pointer (some ⟨bs,os,none⟩))) 2 (.pointer (some ⟨b1,0,none⟩))) 3 (.pointer (some ⟨b13,0,none⟩))) 4 (.int .i64 i)∧Fresh w.heap.size [(xK++G26)]∧St w w30 [rr a22 (xy+1) c23 22 1 (zQ++[.slice a24 ((s.qG[i]!).length) c25]),.box b13 [.slice a22 (xy+1) c23,.slice a9 s.qF.length c10] 39,rr a9 s.qF.length c10 2 1 (s.qF.map (Value.int .i64)),.box b1 [.slice none 0 0,.slice none 0 0] 39] [xW true (xK++G26) (zQ++[.slice a24 ((s.qG[i]!).length) c25]) ((s.qG.take i)++[(s.qG[i]!)]),sF true G26 a24 c25 (s.qG[i]!),sF false F27 a28 c29 (s.qG[i]!),atF b19 (o20+(i:Int).toNat * 1) [.slice a28 ((s.qG[i]!).length) c29],atF bs os [.slice (some ⟨b19,o20,none⟩) s.qG.length csCells,.slice qQ s.qF.length qP],sF false FsCells (some ⟨b19,o20,none⟩) csCells s.qG,sF false xw qQ qP s.qF]) ?_ ?_
  ·skip
   refine jO rfl H [2,3] fun H=>?_
   have S:=H.zq [2,3] [0,1,2,3]
   refine tF 0 rfl rfl S ?_
   refine rtp 2 (.pointer (some ⟨bs,os,none⟩)) S ?_
   refine rtp 3 (.pointer (some ⟨bs,os,none⟩)) S ?_
   refine tF 4 rfl rfl S ?_
   refine tL 5 rfl rfl (fun _ h=>h.xU 1 rfl 0 rfl) S ?_
   refine rtp 6 (.int .i64 i) S ?_
   obtain ⟨ae32,ce32,Fe32,H⟩:=H.Qm 2 rfl i i qg qg qg
   refine tI 7 rfl rfl rfl (H.pick [2,3] [2,3,4,5]) ?_
   refine yz [1,8] qi qo (r_op rfl ?_ (r_op rfl ?_ yA))
   ·skip
    refine xY (.slice xR xy xQ) Tryz.isAgg27 rfl (H.cell 1 rfl rfl) (⟨H.pick [2,3] [2,3,4,5],(ro 8 rfl (xY (.slice ae32 ((s.qG[i]!).length) ce32) Tryz.isAgg22 rfl (H.xU 1 rfl 0 rfl) (⟨H.pick [2,3] [2,3,4,5],(ro 9 rfl ?_)⟩)))⟩)
    have sz33:=H.base.size
    have lt34:=H.ltN (L:=[xK]) [2]
    refine oc (yY _ (s.qG[i]!) (H.get 0 rfl).1 qh) ?_
    rintro v38 w36 r38 x37
    replace H:=H.zg x37 r38
    obtain ⟨a39,c40,rfl,hc41,hm42⟩:=H.vO 0 rfl
    refine ⟨H.pick [3,4] [2,3,4,5],(ro 10 rfl (zt H Tryz.underlying27 ti22 [.slice a39 ((s.qG[i]!).length) c40] fun b43 w44 H=>⟨H.pick [4,5] [2,3,4,5],(ro 11 rfl ?_)⟩))⟩
    obtain ⟨G48,N,hn49,H⟩:=H.vw 1 rfl N (H.jL [2])
    refine zA H 2 rfl 0 rfl Tryz.underlying27 ti22 rfl qj rfl rfl rfl qx qw qg fun a45 c46 w47 H=>?_
    replace H:=H.jy 3 rfl 0 rfl
    replace N:Fresh w.heap.size [(xK++G48)]:=(N.pick [1,0]).join
    refine ⟨H.pick [4,5] [4,5,6,7],(tF 12 rfl rfl (H.pick [4,5] [4,5,6,7]) ?_)⟩
    refine ro 13 rfl (vz H 3 [.slice a45 (xy+1) c46,.slice a9 s.qF.length c10] Tryz.sizeOf27 fun w50 H=>⟨H.pick [4,5] [4,5,6,7],(xI qi ((meet ⟨_,a45,c46,a39,c40,G48,Fe32,ae32,ce32,uE4,N,H.pick [2,3,4,5] [0,1,2,3,5,6,7]⟩)))⟩)
   ·skip
    refine xY (.slice ae32 ((s.qG[i]!).length) ce32) Tryz.isAgg22 rfl (H.xU 1 rfl 0 rfl) (⟨H.pick [2,3] [2,3,4,5],(yz [1,9] qi qo (r_op rfl ?_ (r_op rfl ?_ yA)))⟩)
    ·skip
     refine xY (.slice xR xy xQ) Tryz.isAgg27 rfl (H.cell 1 rfl rfl) (⟨H.pick [2,3] [2,3,4,5],(ro 9 rfl ?_)⟩)
     have sz51:=H.base.size
     have lt52:=H.ltN (L:=[xK]) [2]
     refine oc (yY _ (s.qG[i]!) (H.get 0 rfl).1 qh) ?_
     rintro v56 w54 r56 x55
     replace H:=H.zg x55 r56
     obtain ⟨a57,c58,rfl,hc59,hm60⟩:=H.vO 0 rfl
     refine ⟨H.pick [3,4] [2,3,4,5],(ro 10 rfl (zt H Tryz.underlying27 ti22 [.slice a57 ((s.qG[i]!).length) c58] fun b61 w62 H=>⟨H.pick [4,5] [2,3,4,5],(ro 11 rfl ?_)⟩))⟩
     obtain ⟨G66,N,hn67,H⟩:=H.vw 1 rfl N (H.jL [2])
     refine zA H 2 rfl 0 rfl Tryz.underlying27 ti22 rfl qj rfl rfl rfl qx qw qg fun a63 c64 w65 H=>?_
     replace H:=H.jy 3 rfl 0 rfl
     replace N:Fresh w.heap.size [(xK++G66)]:=(N.pick [1,0]).join
     refine ⟨H.pick [4,5] [4,5,6,7],(tF 12 rfl rfl (H.pick [4,5] [4,5,6,7]) ?_)⟩
     refine ro 13 rfl (vz H 3 [.slice a63 (xy+1) c64,.slice a9 s.qF.length c10] Tryz.sizeOf27 fun w68 H=>⟨H.pick [4,5] [4,5,6,7],(xI qi ((meet ⟨_,a63,c64,a57,c58,G66,Fe32,ae32,ce32,uE4,N,H.pick [2,3,4,5] [0,1,2,3,5,6,7]⟩)))⟩)
    ·skip
     have sz69:=H.base.size
     have lt70:=H.ltN (L:=[xK]) [2]
     refine oc (yY _ (s.qG[i]!) (H.get 0 rfl).1 qh) ?_
     rintro v74 w72 r74 x73
     replace H:=H.zg x73 r74
     obtain ⟨a75,c76,rfl,hc77,hm78⟩:=H.vO 0 rfl
     refine ⟨H.pick [3,4] [2,3,4,5],(yz [1,10] qi qo (r_op rfl ?_ (r_op rfl ?_ yA)))⟩
     ·skip
      refine xY (.slice xR xy xQ) Tryz.isAgg27 rfl (H.cell 2 rfl rfl) (⟨H.pick [3,4] [2,3,4,5],(ro 10 rfl (zt H Tryz.underlying27 ti22 [.slice a75 ((s.qG[i]!).length) c76] fun b79 w80 H=>⟨H.pick [4,5] [2,3,4,5],(ro 11 rfl ?_)⟩))⟩)
      obtain ⟨G84,N,hn85,H⟩:=H.vw 1 rfl N (H.jL [2])
      refine zA H 2 rfl 0 rfl Tryz.underlying27 ti22 rfl qj rfl rfl rfl qx qw qg fun a81 c82 w83 H=>?_
      replace H:=H.jy 3 rfl 0 rfl
      replace N:Fresh w.heap.size [(xK++G84)]:=(N.pick [1,0]).join
      refine ⟨H.pick [4,5] [4,5,6,7],(tF 12 rfl rfl (H.pick [4,5] [4,5,6,7]) ?_)⟩
      refine ro 13 rfl (vz H 3 [.slice a81 (xy+1) c82,.slice a9 s.qF.length c10] Tryz.sizeOf27 fun w86 H=>⟨H.pick [4,5] [4,5,6,7],(xI qi ((meet ⟨_,a81,c82,a75,c76,G84,Fe32,ae32,ce32,uE4,N,H.pick [2,3,4,5] [0,1,2,3,5,6,7]⟩)))⟩)
     ·skip
      refine zt H Tryz.underlying27 ti22 [.slice a75 ((s.qG[i]!).length) c76] fun b87 w88 H=>⟨H.pick [4,5] [2,3,4,5],(ro 1 rfl (xY (.slice xR xy xQ) Tryz.isAgg27 rfl (H.cell 3 rfl rfl) (⟨H.pick [4,5] [2,3,4,5],(ro 11 rfl ?_)⟩)))⟩
      obtain ⟨G92,N,hn93,H⟩:=H.vw 1 rfl N (H.jL [2])
      refine zA H 2 rfl 0 rfl Tryz.underlying27 ti22 rfl qj rfl rfl rfl qx qw qg fun a89 c90 w91 H=>?_
      replace H:=H.jy 3 rfl 0 rfl
      replace N:Fresh w.heap.size [(xK++G92)]:=(N.pick [1,0]).join
      refine ⟨H.pick [4,5] [4,5,6,7],(tF 12 rfl rfl (H.pick [4,5] [4,5,6,7]) ?_)⟩
      refine ro 13 rfl (vz H 3 [.slice a89 (xy+1) c90,.slice a9 s.qF.length c10] Tryz.sizeOf27 fun w94 H=>⟨H.pick [4,5] [4,5,6,7],(xI qi ((meet ⟨_,a89,c90,a75,c76,G92,Fe32,ae32,ce32,uE4,N,H.pick [2,3,4,5] [0,1,2,3,5,6,7]⟩)))⟩)
  ·skip
   clear H N
   rintro ρ w95 ⟨zu,a22,c23,a24,c25,G26,F27,a28,c29,rfl,N,H⟩
   refine b_n (t_n (xJ (sp (.int .i64 i) (sw (xX i 1 rfl rfl qg (sp (.int .i64 (i+1)) (xN (xg (m' :=(s.qG.length - ((i+1):Int)).toNat) qg ⟨_,i+1,a22,xy+1,c23,((s.qG.take i)++[(s.qG[i]!)]),zQ++[.slice a24 ((s.qG[i]!).length) c25],(xK++G26),uE4,?_,?_,rfl,N,H.pick [0,1,2,3] [0,4,5,6]⟩))))))))
   · exact take_snoc qg
   · omega
 ·skip
  refine zx4 (zcr (sw (xZ [.slice xR xy xQ,.slice a9 s.qF.length c10] Tryz.isAgg39 Tryz.sizeOf39 rfl (qN (H.cells 1 rfl) 0 2) (sw (jA H 3 [.slice xR xy xQ,.slice a9 s.qF.length c10] Tryz.sizeOf39 fun w96 H=>zjr (retC H 3 rfl rfl Tryz.isAgg39 Tryz.sizeOf39 rfl ⟨_,rfl,?_,H.base⟩))))))
  obtain rfl:i=s.qG.length:=by omega
  rw [List.take_length] at H
  exact ⟨xR,xy,xQ,zQ,xK,a9,s.qF.length,c10,rfl,N,H.pick [0,2] [0]⟩
theorem equalI_ok (w:World) (a:yLI) (b:yLI) {aa:yOA} {Fa:yLN} {ab:yOA} {Fb:yLN} (ha:qV.rep w Fa [.slice aa a.length ca] a) (hb:qV.rep w Fb [.slice ab b.length cb] b):Calls Tryz.prog 76 #[.slice aa a.length ca,.slice ab b.length cb] w (Ret (fun v w' =>v=.bool (decide (a=b))) w):=by
 refine en Tryz.func76 Tryz.ntmps76 ?_
 have H:=((St.start w).arg hb).arg ha
 have nha:=qO ha
 have nhb:=qO hb
 clear ha hb
 have N:=Fresh.nil w.heap.size
 refine zcr (sp (.bool false) (zjcc (sp (.slice aa a.length ca) (oN rfl (sp (.slice ab b.length cb) (oN rfl (sp (.bool ((a.length:Int) != b.length)) (zjn (xC ((a.length:Int) != b.length) rfl (fun h1=>?_) (fun h1=>?_))))))))))
 ·skip
  replace h1:=bne_iff_ne.1 h1
  refine zcr (sp (.bool false) (zjr (t_r (ret1 (.bool false) rfl rfl ⟨_,rfl,?_,H.base⟩))))
  first | rw [decide_eq_false (fun e=>by subst e;omega)] | rw [decide_eq_false (vX (k:=i) ‹_›)] | rw [decide_eq_false (vX (k:=i) (by simpa using ‹_›))]
 ·skip
  replace h1:=xA h1
  refine xf (t_n (zcc (sp (.slice aa a.length ca) (oN rfl (sp (.int .i64 0) (zjn (xm ?_)))))))
  refine zK (fun m' ρ w2=>∃ (zu:Env) (i:Nat),ρ=upd (upd (upd (upd zu 0 (.slice aa a.length ca)) 1 (.slice ab b.length cb)) 12 (.int .i64 a.length)) 13 (.int .i64 i)∧((i:Int)≤a.length)∧(a.take i=b.take i)∧m' =(a.length - (i:Int)).toNat∧Fresh w.heap.size []∧St w w2 [] [sF false Fa aa ca a,sF false Fb ab cb b]) ((a.length - (0:Int)).toNat) ⟨_,0,uE4,qg,(by rfl),rfl,N,H⟩ ?_
  clear H N
  rintro m' ρ w3 ⟨zu,i,rfl,i0,i1,rfl,N,H⟩
  refine zcr (sp (.bool (decide ((i:Int) < a.length))) (zjn (xP (cD rfl (fun h4=>?_) (fun h4=>?_)))))
  ·skip
   refine xf (t_n (xP (xm (zcr (sps [.int .i64 i,.int .i64 i] (zjn (xP ?_)))))))
   refine vK rfl H fun H=>rtp 0 (.slice aa a.length ca) H ?_
   refine rtp 1 (.int .i64 i) H ?_
   obtain ⟨b6,o7,rfl⟩:=H.addr 0 rfl qg
   refine tI 2 rfl rfl rfl H ?_
   refine tL 3 rfl rfl (fun _ h=>h.vT 0 rfl i qg) H ?_
   refine rtp 4 (.slice ab b.length cb) H ?_
   refine rtp 5 (.int .i64 i) H ?_
   obtain ⟨b9,o10,rfl⟩:=H.addr 1 rfl qg
   refine tI 6 rfl rfl rfl H ?_
   refine tL 7 rfl rfl (fun _ h=>h.vT 1 rfl i qg) H ?_
   refine rtp 8 (.bool ((a[i]! :Int) != (b[i]!))) H ?_
   refine xI qi (t_n (xC ((a[i]! :Int) != (b[i]!)) rfl (fun h12=>?_) (fun h12=>?_)))
   ·skip
    replace h12:=bne_iff_ne.1 h12
    refine zcr (sp (.bool false) (zjr (zr5 (ret1 (.bool false) rfl rfl ⟨_,rfl,?_,H.base⟩))))
    first | rw [decide_eq_false (fun e=>by subst e;omega)] | rw [decide_eq_false (vX (k:=i) ‹_›)] | rw [decide_eq_false (vX (k:=i) (by simpa using ‹_›))]
   ·skip
    replace h12:=xA h12
    refine xf (b_n (t_n (xJ (sw (xX i 1 rfl rfl qg (sp (.int .i64 (i+1)) (xN (xg (m' :=(a.length - ((i+1):Int)).toNat) qg ⟨_,i+1,uE4,?_,?_,rfl,N,H⟩))))))))
    · omega
    · exact QD qg qg i1 qh
  ·skip
   refine zx4 (zcr (sp (.bool true) (zjr (ret1 (.bool true) rfl rfl ⟨_,rfl,?_,H.base⟩))))
   rw [decide_eq_true (vN (k:=i) qg qg i1)]

theorem sameStock_ok (w:World) (s:qZ) (t:qZ) {asCells:yOA} {FsCells:yLN} {qQ:yOA} {xw:yLN} {atCells:yOA} {FtCells:yLN} {QF:yOA} {FtAround:yLN} (hsCells:qV.rep w FsCells [.slice asCells s.qG.length csCells] s.qG) (xu:qV.rep w xw [.slice qQ s.qF.length qP] s.qF) (htCells:qV.rep w FtCells [.slice atCells t.qG.length ctCells] t.qG) (htAround:qV.rep w FtAround [.slice QF t.qF.length QE] t.qF):Calls Tryz.prog 44 #[.agg #[.slice asCells s.qG.length csCells,.slice qQ s.qF.length qP],.agg #[.slice atCells t.qG.length ctCells,.slice QF t.qF.length QE]] w (Ret (fun v w' =>v=.bool (decide (s=t))) w):=by
 refine en Tryz.func44 Tryz.ntmps44 ?_
 have H:=((((St.start w).arg htAround).arg htCells).arg xu).arg hsCells
 have nhsCells:=qO hsCells
 have vV:=qO xu
 have nhtCells:=qO htCells
 have nhtAround:=qO htAround
 clear hsCells xu htCells htAround
 have N:=Fresh.nil w.heap.size
 refine zcr (sw (jd H [.slice asCells s.qG.length csCells,.slice qQ s.qF.length qP] fun b1 w2 H=>sw (jd H [.slice atCells t.qG.length ctCells,.slice QF t.qF.length QE] fun b3 w4 H=>sp (.bool false) (zjc (oF rfl (oL rfl (H.cell 1 rfl rfl) (oF rfl (oL rfl (H.cell 0 rfl rfl) (sw (jG #[.slice asCells s.qG.length csCells,.slice atCells t.qG.length ctCells,.func (.func 76) #[] #[]] rfl rfl Tryz.call75 (en Tryz.func75 Tryz.ntmps75 ?_)))))))))))
 refine zcr (sp (.bool false) (zjcc (sp (.slice asCells s.qG.length csCells) (oN rfl (sp (.slice atCells t.qG.length ctCells) (oN rfl (sp (.bool ((s.qG.length:Int) != t.qG.length)) (zjn (xC ((s.qG.length:Int) != t.qG.length) rfl (fun h5=>?_) (fun h5=>?_))))))))))
 ·skip
  replace h5:=bne_iff_ne.1 h5
  refine zcr (sp (.bool false) (zjr (t_r (ret1 (.bool false) rfl rfl ⟨_,rfl,(sp (.bool false) (zG [11,12,13,14,15] (sps [.bool false,.bool false] (zjr (ret1 (.bool false) rfl rfl ⟨_,rfl,?_,H.base⟩)))))⟩))))
  rw [decide_eq_false (fun e=>by subst e;first | contradiction | omega)]
 ·skip
  replace h5:=xA h5
  refine xf (t_n (zcc (sp (.slice asCells s.qG.length csCells) (oN rfl (sp (.int .i64 0) (zjn (xm ?_)))))))
  refine zK (fun m' ρ w6=>∃ (zu:Env) (i:Nat),ρ=upd (upd (upd (upd (upd zu 1 (.slice atCells t.qG.length ctCells)) 2 (.func (.func 76) #[] #[])) 15 (.slice asCells s.qG.length csCells)) 16 (.int .i64 s.qG.length)) 17 (.int .i64 i)∧((i:Int)≤s.qG.length)∧(s.qG.take i=t.qG.take i)∧m' =(s.qG.length - (i:Int)).toNat∧Fresh w.heap.size []∧St w w6 [.box b3 [.slice atCells t.qG.length ctCells,.slice QF t.qF.length QE] 39,.box b1 [.slice asCells s.qG.length csCells,.slice qQ s.qF.length qP] 39] [sF false FsCells asCells csCells s.qG,sF false xw qQ qP s.qF,sF false FtCells atCells ctCells t.qG,sF false FtAround QF QE t.qF]) ((s.qG.length - (0:Int)).toNat) ⟨_,0,uE5,qg,(by rfl),rfl,N,H⟩ ?_
  clear H N
  rintro m' ρ w7 ⟨zu,i,rfl,i0,i2,rfl,N,H⟩
  refine zcr (sp (.bool (decide ((i:Int) < s.qG.length))) (zjn (xP (cD rfl (fun h8=>?_) (fun h8=>?_)))))
  ·skip
   refine xf (t_n (xP (xm (zcr (sp (.int .i64 i) ?_)))))
   obtain ⟨b9,o10,rfl⟩:=H.addr 0 rfl qg
   obtain ⟨ae12,ce12,Fe12,H⟩:=H.Qm 0 rfl i i qg qg qg
   refine oI rfl rfl (oL rfl (H.xU 1 rfl 0 rfl) (sps [.int .i64 i,.slice ae12 ((s.qG[i]!).length) ce12] (zjc (sps [.slice atCells t.qG.length ctCells,.int .i64 i] ?_))))
   obtain ⟨b13,o14,rfl⟩:=H.addr 4 rfl qg
   obtain ⟨ae16,ce16,Fe16,H⟩:=H.Qm 4 rfl i i qg qg qg
   refine oI rfl rfl (oL rfl (H.xU 1 rfl 0 rfl) (sp (.slice ae16 ((t.qG[i]!).length) ce16) (zjc (sps [.func (.func 76) #[] #[],.slice ae12 ((s.qG[i]!).length) ce12,.slice ae16 ((t.qG[i]!).length) ce16] (sw (oq (equalI_ok _ (s.qG[i]!) (t.qG[i]!) (H.get 2 rfl).1 (H.get 0 rfl).1) H fun w18 H=>sp (.bool (!(decide ((s.qG[i]!)=(t.qG[i]!))))) (zjn (xC (!(decide ((s.qG[i]!)=(t.qG[i]!)))) rfl (fun h20=>?_) (fun h20=>?_)))))))))
   ·skip
    replace h20:=xB h20
    replace h20:=of_decide_eq_false h20
    refine zcr (sp (.bool false) (zjr (zr5 (ret1 (.bool false) rfl rfl ⟨_,rfl,(sp (.bool false) (zG [11,12,13,14,15] (sps [.bool false,.bool false] (zjr (ret1 (.bool false) rfl rfl ⟨_,rfl,?_,H.base⟩)))))⟩))))
    rw [decide_eq_false (fun e=>by subst e;first | contradiction | omega)]
   ·skip
    replace h20:=xq h20
    replace h20:=of_decide_eq_true h20
    refine xf (b_n (t_n (xJ (sw (xX i 1 rfl rfl qg (sp (.int .i64 (i+1)) (xN (xg (m' :=(s.qG.length - ((i+1):Int)).toNat) qg ⟨_,i+1,uE5,?_,?_,rfl,N,H.pick [0,1] [4,5,6,7]⟩))))))))
    · omega
    · exact QD qg qg i2 qm
  ·skip
   refine zx4 (zcr (sp (.bool true) (zjr (ret1 (.bool true) rfl rfl ⟨_,rfl,(sp (.bool true) (qY 10 rfl rfl (oF rfl (qY 10 rfl rfl (oL rfl (H.cell 1 rfl rfl) (qY 10 rfl rfl (oF rfl (qY 10 rfl rfl (oL rfl (H.cell 0 rfl rfl) (qY 10 rfl rfl (sw (oq (equalI_ok _ s.qF t.qF (H.get 1 rfl).1 (H.get 3 rfl).1) H fun w22 H=>sps [.bool (decide (s.qF=t.qF)),.bool (decide (s.qF=t.qF))] (zjr (ret1 (.bool (decide (s.qF=t.qF))) rfl rfl ⟨_,rfl,?_,H.base⟩))))))))))))))⟩))))
   have e1:=vN (k:=i) qg qg i2
   refine congrArg Value.bool ?_
   cases s;cases t;simp_all
theorem l06Step_ok (w:World) (p:qW) (s:qZ) (counts:yLI) {bp op:Nat} {qI:yOA} {xe:yLN} {apFree:yOA} {FpFree:yLN} {qR:yOA} {xx:yLN} {bs:Nat} {asCells:yOA} {FsCells:yLN} {qQ:yOA} {xw:yLN} {acounts:yOA} {ccounts:Nat} {Fcounts:yLN} (hp:zM w bp op [.int .i64 p.qJ,.slice qI p.qC.length qH,.slice apFree p.qL.length cpFree,.slice qR p.qB.length qM]) (qX:qV.rep w xe [.slice qI p.qC.length qH] p.qC) (hpFree:qV.rep w FpFree [.slice apFree p.qL.length cpFree] p.qL) (xn:qV.rep w xx [.slice qR p.qB.length qM] p.qB) (hs:zM w bs os [.slice asCells s.qG.length csCells,.slice qQ s.qF.length qP]) (hsCells:qV.rep w FsCells [.slice asCells s.qG.length csCells] s.qG) (xu:qV.rep w xw [.slice qQ s.qF.length qP] s.qF) (hcounts:qV.rep w Fcounts [.slice acounts counts.length ccounts] counts) (p0:zi p) (p1:xG p s) (p2:Cnts p counts) (p3:Fits p s counts):Calls Tryz.prog 62 #[.pointer (some ⟨bp,op,none⟩),.pointer (some ⟨bs,os,none⟩),.slice acounts counts.length ccounts] w (Ret (fun v w' =>∃ (ra0Cells:yOA) (rn0Cells:Nat) (rc0Cells:Nat) (rx0Cells:List Value) (rF0Cells:yLN) (ra0Around:yOA) (rn0Around:Nat) (rc0Around:Nat),v=.tuple #[.agg #[.slice ra0Cells rn0Cells rc0Cells,.slice ra0Around rn0Around rc0Around],.int .i64 ((xk p s counts).2)]∧Fresh w.heap.size [rF0Cells]∧St w w' [rr ra0Cells rn0Cells rc0Cells 22 1 rx0Cells,rr ra0Around rn0Around rc0Around 2 1 ((((xk p s counts).1).qF).map (Value.int .i64))] [xW true rF0Cells rx0Cells (((xk p s counts).1).qG)]) w):=by
 refine en Tryz.func62 Tryz.ntmps62 ?_
 have H:=((((((((St.start w).arg hcounts).arg xu).arg hsCells).argAt hs).arg xn).arg hpFree).arg qX).argAt hp
 have zF:=qO qX
 have nhpFree:=qO hpFree
 have vC:=qO xn
 have nhsCells:=qO hsCells
 have vV:=qO xu
 have nhcounts:=qO hcounts
 clear hp qX hpFree xn hs hsCells xu hcounts
 have N:=Fresh.nil w.heap.size
 have p4:=p2.1
 have p5:=p0.1.2.2.2.1
 have p6:=p0.1.2.1
 refine zcr (sw (ja H ti39 [.slice none 0 0,.slice none 0 0] fun b1 w2 H=>sp (.int .i64 0) (zjc (sps [.pointer (some ⟨bp,op,none⟩),.pointer (some ⟨bs,os,none⟩),.slice acounts counts.length ccounts] ?_))))
 have sz6:=H.base.size
 refine sw (oc (l06Left_ok _ p s counts (qN (H.get 0 rfl) 0 4) (H.get 1 rfl).1 (H.get 2 rfl).1 (H.get 3 rfl).1 (qN (H.get 4 rfl) 0 2) (H.get 5 rfl).1 (H.get 6 rfl).1 (H.get 7 rfl).1 (by exact p0) qm qm qm) ?_)
 rintro _ w4 ⟨ra3a,rn3a,rc3a,rfl,M,K⟩ _
 replace H:=H.merge K M
 obtain rfl:=H.y9 0 rfl
 refine sps [.tuple #[.slice ra3a ((xF p s counts counts.length).length) rc3a,.bool true],.slice ra3a ((xF p s counts counts.length).length) rc3a,.bool true,.slice ra3a ((xF p s counts counts.length).length) rc3a,.bool true] (zjcc (sps [.bool true,.bool !true] (zjn (xC (!true) rfl (fun h9=>?_) (fun h9=>?_)))))
 ·skip
  replace h9:=xB h9
  refine zcr (sw (o_build [.slice none 0 0,.slice none 0 0] [] (sw (jA H 1 [.slice none 0 0,.slice none 0 0] Tryz.sizeOf39 fun w10 H=>sp (.int .i64 4) (zjr (t_r ?_))))))
  replace H:=H.nilRow 22 1
  replace H:=H.jC (α:=yLI)
  replace H:=H.nilRowI 2
  refine retC2 H 3 rfl (.int .i64 4) rfl Tryz.isAgg39 Tryz.sizeOf39 rfl rfl ⟨_,rfl,(absurd (by assumption:true=false) qj),H.base⟩
 ·skip
  replace h9:=xq h9
  refine xf (t_n (zcc (sp (.int .i64 0) (zjn (xm ?_)))))
  refine zK (fun m' ρ w11=>∃ (zu:Env) (k:Nat) (flat:yLI),ρ=upd (upd (upd (upd (upd zu 0 (.pointer (some ⟨bp,op,none⟩))) 2 (.slice acounts counts.length ccounts)) 6 (.pointer (some ⟨b1,0,none⟩))) 8 (.slice ra3a ((xF p s counts counts.length).length) rc3a)) 10 (.int .i64 k)∧flat=(zh p (xF p s counts counts.length) counts k)∧((k:Int)≤counts.length)∧m' =(counts.length - (k:Int)).toNat∧Fresh w.heap.size []∧St w w11 [rr ra3a ((xF p s counts counts.length).length) rc3a 2 1 (flat.map (Value.int .i64)),.box b1 [.slice none 0 0,.slice none 0 0] 39] [atF bp op [.int .i64 p.qJ,.slice qI p.qC.length qH,.slice apFree p.qL.length cpFree,.slice qR p.qB.length qM],sF false xe qI qH p.qC,sF false FpFree apFree cpFree p.qL,sF false xx qR qM p.qB,sF false Fcounts acounts ccounts counts]) ((counts.length - (0:Int)).toNat) ⟨_,0,(xF p s counts counts.length),uE5,(by rfl),qg,rfl,N,H.pick [0,1] [0,1,2,3,7]⟩ ?_
  clear H N
  rintro m' ρ w12 ⟨zu,k,flat,rfl,rfl,i0,rfl,N,H⟩
  have hn_flat:=H.y9 0 rfl
  refine zcc (sps [.int .i64 k,.slice acounts counts.length ccounts] (oN rfl (sp (.bool (decide ((k:Int) < counts.length))) (zjn (cD rfl (fun h13=>?_) (fun h13=>?_))))))
  ·skip
   refine xf (t_n (xP (xm ?_)))
   refine jO rfl H [1] fun H=>?_
   have S:=H.zq [1] [0,1,2,3,4]
   refine rtp 0 (.pointer (some ⟨bp,op,none⟩)) S ?_
   refine rtp 1 (.slice ra3a ((xF p s counts counts.length).length) rc3a) S ?_
   refine rtp 2 (.pointer (some ⟨bp,op,none⟩)) S ?_
   refine rtp 3 (.pointer (some ⟨bp,op,none⟩)) S ?_
   refine tF 4 rfl rfl S ?_
   refine tL 5 rfl rfl (fun _ h=>h.xU 0 rfl 3 rfl) S ?_
   refine rtp 6 (.int .i64 k) S ?_
   obtain ⟨b15,o16,rfl⟩:=H.addr 3 rfl qg
   obtain ⟨ae18Out,ce18Out,Fe18Out,ae18In,ce18In,Fe18In,H⟩:=H.zW 3 rfl k k qg qg qg
   have S:=H.zq [1] [3,4,5,6,7]
   refine tI 7 rfl rfl rfl S ?_
   refine rtp 8 (.slice acounts counts.length ccounts) S ?_
   refine rtp 9 (.int .i64 k) S ?_
   obtain ⟨b19,o20,rfl⟩:=H.addr 7 rfl qg
   have S:=H.zq [1] [3,4,5,6,7]
   refine tI 10 rfl rfl rfl S ?_
   refine tL 11 rfl rfl (fun _ h=>h.vT 4 rfl k qg) S ?_
   refine ro 12 rfl ?_
   have cr:=p0.2 k qg
   have c1:=cr.1
   have c2:=p0.1.2.1
   have c3:=p0.1.1
   have mb:=mul_bd8 (a:=(p.qB[k]!).qE) (b:=p.qJ) qg qg
   have fl:(zh p (xF p s counts counts.length) counts k).length=(p.qC.length+1) * pK p:=by rw [gvFrom_len,jB,yu p0.1 p1]
   have fb:=fun j hj=>gv_bd p0 p1 p2 p3 (i:=k) qg (j:=j) hj
   have tb:0≤counts[k]! ∧counts[k]! ≤1000:=⟨p2.2 k qg,p3.le p0 p1 p2 qg⟩
   refine jG #[.pointer (some ⟨bp,op,none⟩),.slice ra3a ((xF p s counts counts.length).length) rc3a,.pointer (some ⟨b15,o16+(k:Int).toNat * 3,none⟩),.int .i64 (counts[k]!)] rfl rfl Tryz.call86 (en Tryz.func86 Tryz.ntmps86 ?_)
   refine xP ?_
   refine vK rfl H fun H=>rtp 0 (.pointer (some ⟨b15,o16+(k:Int).toNat * 3,none⟩)) H ?_
   refine rtp 1 (.pointer (some ⟨b15,o16+(k:Int).toNat * 3,none⟩)) H ?_
   refine tF 2 rfl rfl H ?_
   refine tL 3 rfl rfl (fun _ h=>h.xU 2 rfl 0 rfl) H ?_
   refine rtp 4 (.pointer (some ⟨bp,op,none⟩)) H ?_
   refine rtp 5 (.pointer (some ⟨bp,op,none⟩)) H ?_
   refine tF 6 rfl rfl H ?_
   refine tL 7 rfl rfl (fun _ h=>h.xU 3 rfl 0 rfl) H ?_
   refine rt 8 (.int .i64 (((p.qB[k]!).qE) * p.qJ)) (y_mul ((p.qB[k]!).qE) p.qJ rfl rfl qg) H ?_
   refine rtp 9 (.int .i64 (((p.qB[k]!).qE) * p.qJ)) H ?_
   refine xI qi (t_n (xP ?_))
   have rok:yQ p (p.qB[k]!):=p0.2 _ qg
   obtain ⟨own,hown⟩:∃ z:Nat,z=pOwn p (p.qB[k]!):=⟨_,rfl⟩
   rw [show ((p.qB[k]!).qE) * p.qJ=(own:Int) by rw [hown];exact pown_eq p0.1 rok.1.1]
   have tq:=TkGeo.of p0.1 rok hown fl
   have qk:=pK_eq p0.1
   have lo:=jF p0.1 rok.2.1
   have li:=jF p0.1 rok.2.2.1
   have lf:=p0.1.2.2.1
   refine xJ (sps [.pointer (some ⟨bp,op,none⟩),.pointer (some ⟨b15,o16+(k:Int).toNat * 3,none⟩),.pointer (some ⟨b15,o16+(k:Int).toNat * 3,none⟩)] (oF rfl (oL rfl (H.xU 2 rfl 0 rfl) (sw (oq (l06At_ok _ p ((p.qB[k]!).qE) (qN (H.get 3 rfl) 0 4) (H.get 4 rfl).1 (H.get 5 rfl).1 (H.get 6 rfl).1 (by exact p0.1) (by exact rok.1)) H fun w24 H=>sp (.int .i64 (pAt p ((p.qB[k]!).qE))) (zjc (sp (.int .i64 0) (zjn (xm ?_)))))))))
   refine zK (fun m' ρ w26=>∃ (zu:Env) (k_52:Nat) (flat_52:yLI),ρ=upd (upd (upd (upd (upd (upd (upd zu 0 (.pointer (some ⟨bp,op,none⟩))) 1 (.slice ra3a ((xF p s counts counts.length).length) rc3a)) 2 (.pointer (some ⟨b15,o16+(k:Int).toNat * 3,none⟩))) 3 (.int .i64 (counts[k]!))) 8 (.int .i64 own)) 9 (.int .i64 (pAt p ((p.qB[k]!).qE)))) 10 (.int .i64 k_52)∧flat_52=(mvTo own (pAt p (p.qB[k]!).qE) (Opens p (p.qB[k]!).qE) (p.qB[k]!).fIn (p.qB[k]!).qU (counts[k]!) (zh p (xF p s counts counts.length) counts k) k_52)∧((k_52:Int)≤p.qJ)∧m' =(p.qJ - (k_52:Int)).toNat∧Fresh w.heap.size []∧St w w26 [rr ra3a ((xF p s counts counts.length).length) rc3a 2 1 (flat_52.map (Value.int .i64)),.box b1 [.slice none 0 0,.slice none 0 0] 39] [sF false Fe18Out ae18Out ce18Out ((p.qB[k]!).qU),sF false Fe18In ae18In ce18In ((p.qB[k]!).fIn),atF b15 (o16+(k:Int).toNat * 3) [.int .i64 ((p.qB[k]!).qE),.slice ae18Out (((p.qB[k]!).qU).length) ce18Out,.slice ae18In (((p.qB[k]!).fIn).length) ce18In],atF bp op [.int .i64 p.qJ,.slice qI p.qC.length qH,.slice apFree p.qL.length cpFree,.slice (some ⟨b15,o16,none⟩) p.qB.length qM],sF false xe qI qH p.qC,sF false FpFree apFree cpFree p.qL,sF false xx (some ⟨b15,o16,none⟩) qM p.qB,sF false Fcounts (some ⟨b19,o20,none⟩) ccounts counts]) ((p.qJ - (0:Int)).toNat) ⟨_,0,(zh p (xF p s counts counts.length) counts k),uE7,(by rfl),qg,rfl,N,H⟩ ?_
   clear H N
   rintro m' ρ w27 ⟨zu,k_52,flat_52,rfl,rfl,i0,rfl,N,H⟩
   have hn_flat:=H.y9 0 rfl
   refine zcc (sps [.int .i64 k_52,.pointer (some ⟨bp,op,none⟩),.pointer (some ⟨bp,op,none⟩)] (oF rfl (oL rfl (H.xU 3 rfl 0 rfl) (sp (.bool (decide ((k_52:Int) < p.qJ))) (zjn (cD rfl (fun h28=>?_) (fun h28=>?_)))))))
   ·skip
    have ta:GvAt p (p.qB[k]!) own (zh p (xF p s counts counts.length) counts k) (mvTo own (pAt p (p.qB[k]!).qE) (Opens p (p.qB[k]!).qE) (p.qB[k]!).fIn (p.qB[k]!).qU (counts[k]!) (zh p (xF p s counts counts.length) counts k) k_52) (counts[k]!) k_52:=GvAt.of p0.1 rok tq tb qg
    obtain ⟨y1,y2,y3,y5,y6,y7,y8⟩:=ta
    have z1:=fb _ y5
    have z2:=fb _ y6
    have fs:=flat_le p0.1 fl
    have y4:=y3 ((mvTo own (pAt p (p.qB[k]!).qE) (Opens p (p.qB[k]!).qE) (p.qB[k]!).fIn (p.qB[k]!).qU (counts[k]!) (zh p (xF p s counts counts.length) counts k) k_52)[own+k_52]! +(p.qB[k]!).fIn[k_52]! * (counts[k]!))
    refine xf (t_n (xP (xm (xP ?_))))
    refine jO rfl H [1] fun H=>?_
    have S:=H.zq [1] [0,1,2,3,4,5,6,7]
    refine rtp 0 (.slice ra3a ((xF p s counts counts.length).length) rc3a) S ?_
    refine rtp 1 (.int .i64 own) S ?_
    refine rtp 2 (.int .i64 k_52) S ?_
    refine rt 3 (.int .i64 (own+k_52)) (y_add own k_52 rfl rfl qg) S ?_
    obtain ⟨b30,rfl⟩:=H.yg 0 rfl qg
    have S:=H.zq [1] [0,1,2,3,4,5,6,7]
    refine tI 4 rfl rfl rfl S ?_
    refine rtp 6 (.pointer (some ⟨b15,o16+(k:Int).toNat * 3,none⟩)) S ?_
    refine rtp 7 (.pointer (some ⟨b15,o16+(k:Int).toNat * 3,none⟩)) S ?_
    refine tF 8 rfl rfl S ?_
    refine tL 9 rfl rfl (fun _ h=>h.xU 2 rfl 2 rfl) S ?_
    refine rtp 10 (.int .i64 k_52) S ?_
    obtain ⟨b31,o32,rfl⟩:=H.addr 1 rfl qg
    have S:=H.zq [1] [0,1,2,3,4,5,6,7]
    refine tI 11 rfl rfl rfl S ?_
    refine tL 12 rfl rfl (fun _ h=>h.vT 1 rfl k_52 qg) S ?_
    refine rtp 13 (.int .i64 (counts[k]!)) S ?_
    refine rt 14 (.int .i64 ((((p.qB[k]!).fIn)[k_52]!) * (counts[k]!))) (y_mul (((p.qB[k]!).fIn)[k_52]!) (counts[k]!) rfl rfl qg) S ?_
    refine ro 5 rfl (xY (.int .i64 ((mvTo own (pAt p (p.qB[k]!).qE) (Opens p (p.qB[k]!).qE) (p.qB[k]!).fIn (p.qB[k]!).qU (counts[k]!) (zh p (xF p s counts counts.length) counts k) k_52)[own+k_52]!)) Tryz.isAgg2 rfl (H.yE 0 rfl (iv:=own+k_52) (i:=(own+k_52)) qg qg) (⟨H.pick [1] [0,1,2,3,4,5,6,7],?_⟩))
    have S:=H.zq [1] [0,1,2,3,4,5,6,7]
    refine rt 15 (.int .i64 (((mvTo own (pAt p (p.qB[k]!).qE) (Opens p (p.qB[k]!).qE) (p.qB[k]!).fIn (p.qB[k]!).qU (counts[k]!) (zh p (xF p s counts counts.length) counts k) k_52)[own+k_52]!)+((((p.qB[k]!).fIn)[k_52]!) * (counts[k]!)))) (y_add ((mvTo own (pAt p (p.qB[k]!).qE) (Opens p (p.qB[k]!).qE) (p.qB[k]!).fIn (p.qB[k]!).qU (counts[k]!) (zh p (xF p s counts counts.length) counts k) k_52)[own+k_52]!) ((((p.qB[k]!).fIn)[k_52]!) * (counts[k]!)) rfl rfl qg) S ?_
    refine tI 16 rfl rfl rfl S ?_
    refine ro 17 rfl (vg H 0 rfl (((mvTo own (pAt p (p.qB[k]!).qE) (Opens p (p.qB[k]!).qE) (p.qB[k]!).fIn (p.qB[k]!).qU (counts[k]!) (zh p (xF p s counts counts.length) counts k) k_52)[own+k_52]!)+((((p.qB[k]!).fIn)[k_52]!) * (counts[k]!))) Tryz.sizeOf2 rfl rfl (i:=(own+k_52)) qg qg fun w34 H=>⟨H.pick [1] [0,1,2,3,4,5,6,7],(xI qi (t_n (zcr (sps [.pointer (some ⟨b15,o16+(k:Int).toNat * 3,none⟩),.pointer (some ⟨b15,o16+(k:Int).toNat * 3,none⟩)] (oF rfl (oL rfl (H.xU 2 rfl 0 rfl) ?_))))))⟩)
    refine sps [.bool (decide (((p.qB[k]!).qE:Int) > 0)),.bool (decide (((p.qB[k]!).qE:Int) > 0))] ?_
    cases h35:(decide (((p.qB[k]!).qE:Int) > 0))
    ·skip
     replace h35:=of_decide_eq_false h35
     refine qY 56 rfl rfl (sp (.pointer (some ⟨bp,op,none⟩)) (qY 56 rfl rfl (sp (.pointer (some ⟨bp,op,none⟩)) (qY 56 rfl rfl (oF rfl (qY 56 rfl rfl (oL rfl (H.xU 3 rfl 2 rfl) (qY 56 rfl rfl (sp (.int .i64 k_52) (qY 56 rfl rfl ?_))))))))))
     obtain ⟨b36,o37,rfl⟩:=H.addr 5 rfl qg
     refine oI rfl rfl (qY 56 rfl rfl (oL rfl (H.Qn 5 rfl k_52 qg qg) (qY 56 rfl rfl (sps [.bool (!(p.qL[k_52]!)),.bool (!(p.qL[k_52]!))] (zjn (xC (!(p.qL[k_52]!)) rfl (fun h39=>?_) (fun h39=>?_)))))))
     ·skip
      replace h39:=xB h39
      refine jO rfl H [1] fun H=>?_
      have S:=H.zq [1] [0,1,2,3,4,5,6,7]
      refine rtp 0 (.slice (some ⟨b30,0,none⟩) ((xF p s counts counts.length).length) rc3a) S ?_
      refine rtp 1 (.int .i64 (pAt p ((p.qB[k]!).qE))) S ?_
      refine rtp 2 (.int .i64 k_52) S ?_
      refine rt 3 (.int .i64 ((pAt p ((p.qB[k]!).qE))+k_52)) (y_add (pAt p ((p.qB[k]!).qE)) k_52 rfl rfl qg) S ?_
      refine tI 4 rfl rfl rfl S ?_
      refine rtp 6 (.pointer (some ⟨b15,o16+(k:Int).toNat * 3,none⟩)) S ?_
      refine rtp 7 (.pointer (some ⟨b15,o16+(k:Int).toNat * 3,none⟩)) S ?_
      refine tF 8 rfl rfl S ?_
      refine tL 9 rfl rfl (fun _ h=>h.xU 2 rfl 1 rfl) S ?_
      refine rtp 10 (.int .i64 k_52) S ?_
      obtain ⟨b41,o42,rfl⟩:=H.addr 0 rfl qg
      have S:=H.zq [1] [0,1,2,3,4,5,6,7]
      refine tI 11 rfl rfl rfl S ?_
      refine tL 12 rfl rfl (fun _ h=>h.vT 0 rfl k_52 qg) S ?_
      refine rtp 13 (.int .i64 (counts[k]!)) S ?_
      refine rt 14 (.int .i64 ((((p.qB[k]!).qU)[k_52]!) * (counts[k]!))) (y_mul (((p.qB[k]!).qU)[k_52]!) (counts[k]!) rfl rfl qg) S ?_
      refine ro 5 rfl (xY (.int .i64 (((mvTo own (pAt p (p.qB[k]!).qE) (Opens p (p.qB[k]!).qE) (p.qB[k]!).fIn (p.qB[k]!).qU (counts[k]!) (zh p (xF p s counts counts.length) counts k) k_52).set (own+k_52) (((mvTo own (pAt p (p.qB[k]!).qE) (Opens p (p.qB[k]!).qE) (p.qB[k]!).fIn (p.qB[k]!).qU (counts[k]!) (zh p (xF p s counts counts.length) counts k) k_52)[own+k_52]!)+((((p.qB[k]!).fIn)[k_52]!) * (counts[k]!))))[(pAt p ((p.qB[k]!).qE))+k_52]!)) Tryz.isAgg2 rfl (H.yE 0 rfl (iv:=(pAt p ((p.qB[k]!).qE))+k_52) (i:=((pAt p ((p.qB[k]!).qE))+k_52)) qg qg) ?_)
      refine ⟨H.pick [1] [0,1,2,3,4,5,6,7],?_⟩
      have S:=H.zq [1] [0,1,2,3,4,5,6,7]
      refine rt 15 (.int .i64 ((((mvTo own (pAt p (p.qB[k]!).qE) (Opens p (p.qB[k]!).qE) (p.qB[k]!).fIn (p.qB[k]!).qU (counts[k]!) (zh p (xF p s counts counts.length) counts k) k_52).set (own+k_52) (((mvTo own (pAt p (p.qB[k]!).qE) (Opens p (p.qB[k]!).qE) (p.qB[k]!).fIn (p.qB[k]!).qU (counts[k]!) (zh p (xF p s counts counts.length) counts k) k_52)[own+k_52]!)+((((p.qB[k]!).fIn)[k_52]!) * (counts[k]!))))[(pAt p ((p.qB[k]!).qE))+k_52]!)+((((p.qB[k]!).qU)[k_52]!) * (counts[k]!)))) (y_add (((mvTo own (pAt p (p.qB[k]!).qE) (Opens p (p.qB[k]!).qE) (p.qB[k]!).fIn (p.qB[k]!).qU (counts[k]!) (zh p (xF p s counts counts.length) counts k) k_52).set (own+k_52) (((mvTo own (pAt p (p.qB[k]!).qE) (Opens p (p.qB[k]!).qE) (p.qB[k]!).fIn (p.qB[k]!).qU (counts[k]!) (zh p (xF p s counts counts.length) counts k) k_52)[own+k_52]!)+((((p.qB[k]!).fIn)[k_52]!) * (counts[k]!))))[(pAt p ((p.qB[k]!).qE))+k_52]!) ((((p.qB[k]!).qU)[k_52]!) * (counts[k]!)) rfl rfl qg) S ?_
      refine tI 16 rfl rfl rfl S ?_
      refine ro 17 rfl (vg H 0 rfl ((((mvTo own (pAt p (p.qB[k]!).qE) (Opens p (p.qB[k]!).qE) (p.qB[k]!).fIn (p.qB[k]!).qU (counts[k]!) (zh p (xF p s counts counts.length) counts k) k_52).set (own+k_52) (((mvTo own (pAt p (p.qB[k]!).qE) (Opens p (p.qB[k]!).qE) (p.qB[k]!).fIn (p.qB[k]!).qU (counts[k]!) (zh p (xF p s counts counts.length) counts k) k_52)[own+k_52]!)+((((p.qB[k]!).fIn)[k_52]!) * (counts[k]!))))[(pAt p ((p.qB[k]!).qE))+k_52]!)+((((p.qB[k]!).qU)[k_52]!) * (counts[k]!))) Tryz.sizeOf2 rfl rfl (i:=((pAt p ((p.qB[k]!).qE))+k_52)) qg qg fun w44 H=>?_)
      refine ⟨H.pick [1] [0,1,2,3,4,5,6,7],(xI qi (b_n (t_n (xJ (sp (.int .i64 k_52) (sw (xX k_52 1 rfl rfl qg (sp (.int .i64 (k_52+1)) (xN ?_)))))))))⟩
      refine xg (m' :=(p.qJ - ((k_52+1):Int)).toNat) qg ⟨_,k_52+1,(((mvTo own (pAt p (p.qB[k]!).qE) (Opens p (p.qB[k]!).qE) (p.qB[k]!).fIn (p.qB[k]!).qU (counts[k]!) (zh p (xF p s counts counts.length) counts k) k_52).set (own+k_52) (((mvTo own (pAt p (p.qB[k]!).qE) (Opens p (p.qB[k]!).qE) (p.qB[k]!).fIn (p.qB[k]!).qU (counts[k]!) (zh p (xF p s counts counts.length) counts k) k_52)[own+k_52]!)+((((p.qB[k]!).fIn)[k_52]!) * (counts[k]!)))).set ((pAt p ((p.qB[k]!).qE))+k_52) ((((mvTo own (pAt p (p.qB[k]!).qE) (Opens p (p.qB[k]!).qE) (p.qB[k]!).fIn (p.qB[k]!).qU (counts[k]!) (zh p (xF p s counts counts.length) counts k) k_52).set (own+k_52) (((mvTo own (pAt p (p.qB[k]!).qE) (Opens p (p.qB[k]!).qE) (p.qB[k]!).fIn (p.qB[k]!).qU (counts[k]!) (zh p (xF p s counts counts.length) counts k) k_52)[own+k_52]!)+((((p.qB[k]!).fIn)[k_52]!) * (counts[k]!))))[(pAt p ((p.qB[k]!).qE))+k_52]!)+((((p.qB[k]!).qU)[k_52]!) * (counts[k]!)))),uE7,?_,?_,rfl,N,H⟩
      · first | exact gv_open (by first | exact .inl qg | exact .inr (by simp_all)) | exact gv_closed (by first | assumption | (rintro (h | h);omega;simp_all))
      · omega
     ·skip
      replace h39:=xq h39
      refine xf (b_n (t_n (xJ (sp (.int .i64 k_52) (sw (xX k_52 1 rfl rfl qg (sp (.int .i64 (k_52+1)) (xN (xg (m' :=(p.qJ - ((k_52+1):Int)).toNat) qg ⟨_,k_52+1,((mvTo own (pAt p (p.qB[k]!).qE) (Opens p (p.qB[k]!).qE) (p.qB[k]!).fIn (p.qB[k]!).qU (counts[k]!) (zh p (xF p s counts counts.length) counts k) k_52).set (own+k_52) (((mvTo own (pAt p (p.qB[k]!).qE) (Opens p (p.qB[k]!).qE) (p.qB[k]!).fIn (p.qB[k]!).qU (counts[k]!) (zh p (xF p s counts counts.length) counts k) k_52)[own+k_52]!)+((((p.qB[k]!).fIn)[k_52]!) * (counts[k]!)))),uE7,?_,?_,rfl,N,H⟩)))))))))
      · first | exact gv_open (by first | exact .inl qg | exact .inr (by simp_all)) | exact gv_closed (by first | assumption | (rintro (h | h);omega;simp_all))
      · omega
    ·skip
     replace h35:=of_decide_eq_true h35
     refine zG [57,58,59,60,61,62,63,64] (sp (.bool true) (zjn (xC true rfl (fun _=>?_) (fun h=>absurd h qj))))
     refine jO rfl H [1] fun H=>?_
     have S:=H.zq [1] [0,1,2,3,4,5,6,7]
     refine rtp 0 (.slice (some ⟨b30,0,none⟩) ((xF p s counts counts.length).length) rc3a) S ?_
     refine rtp 1 (.int .i64 (pAt p ((p.qB[k]!).qE))) S ?_
     refine rtp 2 (.int .i64 k_52) S ?_
     refine rt 3 (.int .i64 ((pAt p ((p.qB[k]!).qE))+k_52)) (y_add (pAt p ((p.qB[k]!).qE)) k_52 rfl rfl qg) S ?_
     refine tI 4 rfl rfl rfl S ?_
     refine rtp 6 (.pointer (some ⟨b15,o16+(k:Int).toNat * 3,none⟩)) S ?_
     refine rtp 7 (.pointer (some ⟨b15,o16+(k:Int).toNat * 3,none⟩)) S ?_
     refine tF 8 rfl rfl S ?_
     refine tL 9 rfl rfl (fun _ h=>h.xU 2 rfl 1 rfl) S ?_
     refine rtp 10 (.int .i64 k_52) S ?_
     obtain ⟨b46,o47,rfl⟩:=H.addr 0 rfl qg
     have S:=H.zq [1] [0,1,2,3,4,5,6,7]
     refine tI 11 rfl rfl rfl S ?_
     refine tL 12 rfl rfl (fun _ h=>h.vT 0 rfl k_52 qg) S ?_
     refine rtp 13 (.int .i64 (counts[k]!)) S ?_
     refine rt 14 (.int .i64 ((((p.qB[k]!).qU)[k_52]!) * (counts[k]!))) (y_mul (((p.qB[k]!).qU)[k_52]!) (counts[k]!) rfl rfl qg) S ?_
     refine ro 5 rfl (xY (.int .i64 (((mvTo own (pAt p (p.qB[k]!).qE) (Opens p (p.qB[k]!).qE) (p.qB[k]!).fIn (p.qB[k]!).qU (counts[k]!) (zh p (xF p s counts counts.length) counts k) k_52).set (own+k_52) (((mvTo own (pAt p (p.qB[k]!).qE) (Opens p (p.qB[k]!).qE) (p.qB[k]!).fIn (p.qB[k]!).qU (counts[k]!) (zh p (xF p s counts counts.length) counts k) k_52)[own+k_52]!)+((((p.qB[k]!).fIn)[k_52]!) * (counts[k]!))))[(pAt p ((p.qB[k]!).qE))+k_52]!)) Tryz.isAgg2 rfl (H.yE 0 rfl (iv:=(pAt p ((p.qB[k]!).qE))+k_52) (i:=((pAt p ((p.qB[k]!).qE))+k_52)) qg qg) ?_)
     refine ⟨H.pick [1] [0,1,2,3,4,5,6,7],?_⟩
     have S:=H.zq [1] [0,1,2,3,4,5,6,7]
     refine rt 15 (.int .i64 ((((mvTo own (pAt p (p.qB[k]!).qE) (Opens p (p.qB[k]!).qE) (p.qB[k]!).fIn (p.qB[k]!).qU (counts[k]!) (zh p (xF p s counts counts.length) counts k) k_52).set (own+k_52) (((mvTo own (pAt p (p.qB[k]!).qE) (Opens p (p.qB[k]!).qE) (p.qB[k]!).fIn (p.qB[k]!).qU (counts[k]!) (zh p (xF p s counts counts.length) counts k) k_52)[own+k_52]!)+((((p.qB[k]!).fIn)[k_52]!) * (counts[k]!))))[(pAt p ((p.qB[k]!).qE))+k_52]!)+((((p.qB[k]!).qU)[k_52]!) * (counts[k]!)))) (y_add (((mvTo own (pAt p (p.qB[k]!).qE) (Opens p (p.qB[k]!).qE) (p.qB[k]!).fIn (p.qB[k]!).qU (counts[k]!) (zh p (xF p s counts counts.length) counts k) k_52).set (own+k_52) (((mvTo own (pAt p (p.qB[k]!).qE) (Opens p (p.qB[k]!).qE) (p.qB[k]!).fIn (p.qB[k]!).qU (counts[k]!) (zh p (xF p s counts counts.length) counts k) k_52)[own+k_52]!)+((((p.qB[k]!).fIn)[k_52]!) * (counts[k]!))))[(pAt p ((p.qB[k]!).qE))+k_52]!) ((((p.qB[k]!).qU)[k_52]!) * (counts[k]!)) rfl rfl qg) S ?_
     refine tI 16 rfl rfl rfl S ?_
     refine ro 17 rfl (vg H 0 rfl ((((mvTo own (pAt p (p.qB[k]!).qE) (Opens p (p.qB[k]!).qE) (p.qB[k]!).fIn (p.qB[k]!).qU (counts[k]!) (zh p (xF p s counts counts.length) counts k) k_52).set (own+k_52) (((mvTo own (pAt p (p.qB[k]!).qE) (Opens p (p.qB[k]!).qE) (p.qB[k]!).fIn (p.qB[k]!).qU (counts[k]!) (zh p (xF p s counts counts.length) counts k) k_52)[own+k_52]!)+((((p.qB[k]!).fIn)[k_52]!) * (counts[k]!))))[(pAt p ((p.qB[k]!).qE))+k_52]!)+((((p.qB[k]!).qU)[k_52]!) * (counts[k]!))) Tryz.sizeOf2 rfl rfl (i:=((pAt p ((p.qB[k]!).qE))+k_52)) qg qg fun w49 H=>?_)
     refine ⟨H.pick [1] [0,1,2,3,4,5,6,7],(xI qi (b_n (t_n (xJ (sp (.int .i64 k_52) (sw (xX k_52 1 rfl rfl qg (sp (.int .i64 (k_52+1)) (xN ?_)))))))))⟩
     refine xg (m' :=(p.qJ - ((k_52+1):Int)).toNat) qg ⟨_,k_52+1,(((mvTo own (pAt p (p.qB[k]!).qE) (Opens p (p.qB[k]!).qE) (p.qB[k]!).fIn (p.qB[k]!).qU (counts[k]!) (zh p (xF p s counts counts.length) counts k) k_52).set (own+k_52) (((mvTo own (pAt p (p.qB[k]!).qE) (Opens p (p.qB[k]!).qE) (p.qB[k]!).fIn (p.qB[k]!).qU (counts[k]!) (zh p (xF p s counts counts.length) counts k) k_52)[own+k_52]!)+((((p.qB[k]!).fIn)[k_52]!) * (counts[k]!)))).set ((pAt p ((p.qB[k]!).qE))+k_52) ((((mvTo own (pAt p (p.qB[k]!).qE) (Opens p (p.qB[k]!).qE) (p.qB[k]!).fIn (p.qB[k]!).qU (counts[k]!) (zh p (xF p s counts counts.length) counts k) k_52).set (own+k_52) (((mvTo own (pAt p (p.qB[k]!).qE) (Opens p (p.qB[k]!).qE) (p.qB[k]!).fIn (p.qB[k]!).qU (counts[k]!) (zh p (xF p s counts counts.length) counts k) k_52)[own+k_52]!)+((((p.qB[k]!).fIn)[k_52]!) * (counts[k]!))))[(pAt p ((p.qB[k]!).qE))+k_52]!)+((((p.qB[k]!).qU)[k_52]!) * (counts[k]!)))),uE7,?_,?_,rfl,N,H⟩
     · first | exact gv_open (by first | exact .inl qg | exact .inr (by simp_all)) | exact gv_closed (by first | assumption | (rintro (h | h);omega;simp_all))
     · omega
   ·skip
    have ek:k_52=pK p:=by omega
    refine c_exit (t_x (t_x (b_x (ret0 rfl ⟨_,rfl,(⟨H.pick [1] [3,4,5,6,7],(xI qi (b_n (t_n (xJ (sp (.int .i64 k) (sw (xX k 1 rfl rfl qg (sp (.int .i64 (k+1)) (xN (xg (m' :=(counts.length - ((k+1):Int)).toNat) qg ⟨_,k+1,(mvTo own (pAt p (p.qB[k]!).qE) (Opens p (p.qB[k]!).qE) (p.qB[k]!).fIn (p.qB[k]!).qU (counts[k]!) (zh p (xF p s counts counts.length) counts k) k_52),uE5,?_,?_,rfl,N,H.pick [0,1] [3,4,5,6,7]⟩))))))))))⟩)⟩))))
    · rw [ek,hown];rfl
    · omega
  ·skip
   refine zx4 (zcr (sw (o_build [.slice none 0 0,.slice none 0 0] [] (sw (ja H ti39 [.slice none 0 0,.slice none 0 0] fun b50 w51 H=>sw (jA H 0 [.slice none 0 0,.slice none 0 0] Tryz.sizeOf39 fun w52 H=>zjcc (sp (.int .i64 0) (zjn (xm ?_)))))))))
   obtain ⟨G53,N,hn54,H⟩:=H.vw 1 rfl N (H.jL [])
   replace H:=H.nilRow 22 1
   replace H:=H.jC (α:=yLI)
   have ec:k=counts.length:=by omega
   have fa:(zh p (xF p s counts counts.length) counts k).length=(p.qC.length+1) * pK p:=by rw [gvFrom_len,jB,yu p0.1 p1]
   refine zK (fun m' ρ w55=>∃ (zu:Env) (i:Nat) (xR:yOA) (xy:Nat) (xQ:Nat) (out_Cells:yLL) (zQ:List Value) (xK:yLN),ρ=upd (upd (upd (upd (upd zu 0 (.pointer (some ⟨bp,op,none⟩))) 6 (.pointer (some ⟨b1,0,none⟩))) 8 (.slice ra3a ((xF p s counts counts.length).length) rc3a)) 11 (.pointer (some ⟨b50,0,none⟩))) 12 (.int .i64 i)∧out_Cells=((List.range i).map fun i=>chunk (zh p (xF p s counts counts.length) counts k) (pK p) i)∧((i:Int)≤p.qC.length)∧m' =(p.qC.length - (i:Int)).toNat∧Fresh w.heap.size [G53,xK]∧St w w55 [rr xR xy xQ 22 1 zQ,.box b50 [.slice xR xy xQ,.slice none 0 0] 39,.box b1 [.slice none 0 0,.slice none 0 0] 39] [xW true xK zQ out_Cells,isF true G53 (.slice ra3a ((xF p s counts counts.length).length) rc3a) (zh p (xF p s counts counts.length) counts k),atF bp op [.int .i64 p.qJ,.slice qI p.qC.length qH,.slice apFree p.qL.length cpFree,.slice qR p.qB.length qM],sF false xe qI qH p.qC,sF false FpFree apFree cpFree p.qL,sF false xx qR qM p.qB]) ((p.qC.length - (0:Int)).toNat) ⟨_,0,none,0,0,([]:yLL),[],[],uE5,(by rfl),qg,rfl,(N.emp.pick [1,0]),H.pick [0,1,3] [0,1,2,3,4,5]⟩ ?_
   clear H N
   rintro m' ρ w56 ⟨zu,i,xR,xy,xQ,out_Cells,zQ,xK,rfl,rfl,i0,rfl,N,H⟩
   have hn_out_Cells:=H.zB (α:=yLI) 0 rfl 0 rfl qj
   have cl:((List.range i).map fun i=>chunk (zh p (xF p s counts counts.length) counts k) (pK p) i).length=i:=by simp
   refine zcc (sps [.int .i64 i,.pointer (some ⟨bp,op,none⟩),.pointer (some ⟨bp,op,none⟩)] (oF rfl (oL rfl (H.xU 2 rfl 1 rfl) (oN rfl (sp (.bool (decide ((i:Int) < p.qC.length))) (zjn (cD rfl (fun h57=>?_) (fun h57=>?_))))))))
   ·skip
    have m1:(i:Int) * p.qJ=((i * pK p:Nat):Int):=by rw [← pK_eq p0.1];push_cast;rfl
    have m2:((i:Int)+1) * p.qJ=((i * pK p+pK p:Nat):Int):=by rw [← pK_eq p0.1];push_cast;rw [Int.add_mul,Int.one_mul]
    have m3:=mul_step (K:=pK p) (show i < p.qC.length+1 by omega)
    have fs2:=flat_le p0.1 fa
    have k8:=pK_le p0.1
    refine xf (t_n (xP (xm ?_)))
    refine c_cut (fun ρ w63=>∃ (zu:Env) (a58:yOA) (c59:Nat) (a60:yOA) (c61:Nat) (G62:yLN),ρ=upd (upd (upd (upd (upd zu 0 (.pointer (some ⟨bp,op,none⟩))) 6 (.pointer (some ⟨b1,0,none⟩))) 8 (.slice ra3a ((xF p s counts counts.length).length) rc3a)) 11 (.pointer (some ⟨b50,0,none⟩))) 12 (.int .i64 i)∧Fresh w.heap.size [(xK++G62),G53]∧St w w63 [rr a58 (xy+1) c59 22 1 (zQ++[.slice a60 ((((zh p (xF p s counts counts.length) counts k).drop ((i * p.qJ).toNat)).take ((((i+1) * p.qJ).toNat) - ((i * p.qJ).toNat))).length) c61]),.box b50 [.slice a58 (xy+1) c59,.slice none 0 0] 39,.box b1 [.slice none 0 0,.slice none 0 0] 39] [xW true (xK++G62) (zQ++[.slice a60 ((((zh p (xF p s counts counts.length) counts k).drop ((i * p.qJ).toNat)).take ((((i+1) * p.qJ).toNat) - ((i * p.qJ).toNat))).length) c61]) (((List.range i).map fun i=>chunk (zh p (xF p s counts counts.length) counts k) (pK p) i)++[(((zh p (xF p s counts counts.length) counts k).drop ((i * p.qJ).toNat)).take ((((i+1) * p.qJ).toNat) - ((i * p.qJ).toNat)))]),sF true G62 a60 c61 (((zh p (xF p s counts counts.length) counts k).drop ((i * p.qJ).toNat)).take ((((i+1) * p.qJ).toNat) - ((i * p.qJ).toNat))),isF true G53 (.slice ra3a ((xF p s counts counts.length).length) rc3a) (zh p (xF p s counts counts.length) counts k),atF bp op [.int .i64 p.qJ,.slice qI p.qC.length qH,.slice apFree p.qL.length cpFree,.slice qR p.qB.length qM],sF false xe qI qH p.qC,sF false FpFree apFree cpFree p.qL,sF false xx qR qM p.qB]) ?_ ?_
    ·skip
     refine jO rfl H [2] fun H=>?_
     have S:=H.zq [2] [0,1,2,3,4,5]
     refine tF 0 rfl rfl S ?_
     refine rtp 2 (.slice ra3a ((xF p s counts counts.length).length) rc3a) S ?_
     refine rtp 3 (.int .i64 i) S ?_
     refine rtp 4 (.pointer (some ⟨bp,op,none⟩)) S ?_
     refine rtp 5 (.pointer (some ⟨bp,op,none⟩)) S ?_
     refine tF 6 rfl rfl S ?_
     refine tL 7 rfl rfl (fun _ h=>h.xU 2 rfl 0 rfl) S ?_
     refine rt 8 (.int .i64 (i * p.qJ)) (y_mul i p.qJ rfl rfl qg) S ?_
     refine rtp 9 (.int .i64 i) S ?_
     refine rt 10 (.int .i64 (i+1)) (y_add i 1 rfl rfl qg) S ?_
     refine rtp 11 (.pointer (some ⟨bp,op,none⟩)) S ?_
     refine rtp 12 (.pointer (some ⟨bp,op,none⟩)) S ?_
     refine tF 13 rfl rfl S ?_
     refine tL 14 rfl rfl (fun _ h=>h.xU 2 rfl 0 rfl) S ?_
     refine rt 15 (.int .i64 ((i+1) * p.qJ)) (y_mul (i+1) p.qJ rfl rfl qg) S ?_
     refine yz [1,16] qi qo (r_op rfl ?_ (r_op rfl ?_ yA))
     ·skip
      refine xY (.slice xR xy xQ) Tryz.isAgg27 rfl (H.cell 1 rfl rfl) (⟨H.pick [2] [0,1,2,3,4,5],(ro 16 rfl ?_)⟩)
      have hl69:=H.isLen 1 rfl
      refine o_mid H 1 rfl ((i * p.qJ).toNat) (((i+1) * p.qJ).toNat) Tryz.underlying22 ti2 rfl rfl rfl qg qg qg qg fun a65 G66 hG67 H=>?_
      have hl68:(((zh p (xF p s counts counts.length) counts k).drop ((i * p.qJ).toNat)).take ((((i+1) * p.qJ).toNat) - ((i * p.qJ).toNat))).length=(((i+1) * p.qJ).toNat) - ((i * p.qJ).toNat):=by rw [List.length_take,List.length_drop];omega
      refine ⟨H.pick [2] [1,2,3,4,5,6],(ro 17 rfl ?_)⟩
      have sz70:=H.base.size
      have lt71:=H.ltN (L:=[G53,xK]) [2,1]
      refine oc (yY _ (((zh p (xF p s counts counts.length) counts k).drop ((i * p.qJ).toNat)).take ((((i+1) * p.qJ).toNat) - ((i * p.qJ).toNat))) (H.get 0 rfl).1 qh) ?_
      rintro v75 w73 r75 x74
      replace H:=H.zg x74 r75
      obtain ⟨a76,c77,rfl,hc78,hm79⟩:=H.vO 0 rfl
      refine ⟨H.pick [3] [1,2,3,4,5,6],(ro 18 rfl (zt H Tryz.underlying27 ti22 [.slice a76 ((((zh p (xF p s counts counts.length) counts k).drop ((i * p.qJ).toNat)).take ((((i+1) * p.qJ).toNat) - ((i * p.qJ).toNat))).length) c77] fun b80 w81 H=>⟨H.pick [4] [1,2,3,4,5,6],(ro 19 rfl ?_)⟩))⟩
      obtain ⟨G85,N,hn86,H⟩:=H.vw 1 rfl N (H.jL [2,1])
      refine zA H 2 rfl 0 rfl Tryz.underlying27 ti22 rfl qj rfl rfl rfl qx qw qg fun a82 c83 w84 H=>?_
      replace H:=H.jy 2 rfl 0 rfl
      replace N:Fresh w.heap.size [(xK++G85),G53]:=(N.pick [2,0,1]).join
      refine ⟨H.pick [4] [3,4,5,6,7,8],(tF 20 rfl rfl (H.pick [4] [3,4,5,6,7,8]) ?_)⟩
      refine ro 21 rfl (vz H 3 [.slice a82 (xy+1) c83,.slice none 0 0] Tryz.sizeOf27 fun w87 H=>⟨H.pick [4] [3,4,5,6,7,8],(xI qi ((meet ⟨_,a82,c83,a76,c77,G85,uE5,N,H.pick [2,3,4] [0,1,4,5,6,7,8]⟩)))⟩)
     ·skip
      have hl92:=H.isLen 1 rfl
      refine o_mid H 1 rfl ((i * p.qJ).toNat) (((i+1) * p.qJ).toNat) Tryz.underlying22 ti2 rfl rfl rfl qg qg qg qg fun a88 G89 hG90 H=>?_
      have hl91:(((zh p (xF p s counts counts.length) counts k).drop ((i * p.qJ).toNat)).take ((((i+1) * p.qJ).toNat) - ((i * p.qJ).toNat))).length=(((i+1) * p.qJ).toNat) - ((i * p.qJ).toNat):=by rw [List.length_take,List.length_drop];omega
      refine ⟨H.pick [2] [1,2,3,4,5,6],(yz [1,17] qi qo (r_op rfl ?_ (r_op rfl ?_ yA)))⟩
      ·skip
       refine xY (.slice xR xy xQ) Tryz.isAgg27 rfl (H.cell 1 rfl rfl) (⟨H.pick [2] [1,2,3,4,5,6],(ro 17 rfl ?_)⟩)
       have sz93:=H.base.size
       have lt94:=H.ltN (L:=[G53,xK]) [2,1]
       refine oc (yY _ (((zh p (xF p s counts counts.length) counts k).drop ((i * p.qJ).toNat)).take ((((i+1) * p.qJ).toNat) - ((i * p.qJ).toNat))) (H.get 0 rfl).1 qh) ?_
       rintro v98 w96 r98 x97
       replace H:=H.zg x97 r98
       obtain ⟨a99,c100,rfl,hc101,hm102⟩:=H.vO 0 rfl
       refine ⟨H.pick [3] [1,2,3,4,5,6],(ro 18 rfl (zt H Tryz.underlying27 ti22 [.slice a99 ((((zh p (xF p s counts counts.length) counts k).drop ((i * p.qJ).toNat)).take ((((i+1) * p.qJ).toNat) - ((i * p.qJ).toNat))).length) c100] fun b103 w104 H=>⟨H.pick [4] [1,2,3,4,5,6],(ro 19 rfl ?_)⟩))⟩
       obtain ⟨G108,N,hn109,H⟩:=H.vw 1 rfl N (H.jL [2,1])
       refine zA H 2 rfl 0 rfl Tryz.underlying27 ti22 rfl qj rfl rfl rfl qx qw qg fun a105 c106 w107 H=>?_
       replace H:=H.jy 2 rfl 0 rfl
       replace N:Fresh w.heap.size [(xK++G108),G53]:=(N.pick [2,0,1]).join
       refine ⟨H.pick [4] [3,4,5,6,7,8],(tF 20 rfl rfl (H.pick [4] [3,4,5,6,7,8]) ?_)⟩
       refine ro 21 rfl (vz H 3 [.slice a105 (xy+1) c106,.slice none 0 0] Tryz.sizeOf27 fun w110 H=>⟨H.pick [4] [3,4,5,6,7,8],(xI qi ((meet ⟨_,a105,c106,a99,c100,G108,uE5,N,H.pick [2,3,4] [0,1,4,5,6,7,8]⟩)))⟩)
      ·skip
       have sz111:=H.base.size
       have lt112:=H.ltN (L:=[G53,xK]) [2,1]
       refine oc (yY _ (((zh p (xF p s counts counts.length) counts k).drop ((i * p.qJ).toNat)).take ((((i+1) * p.qJ).toNat) - ((i * p.qJ).toNat))) (H.get 0 rfl).1 qh) ?_
       rintro v116 w114 r116 x115
       replace H:=H.zg x115 r116
       obtain ⟨a117,c118,rfl,hc119,hm120⟩:=H.vO 0 rfl
       refine ⟨H.pick [3] [1,2,3,4,5,6],(yz [1,18] qi qo (r_op rfl ?_ (r_op rfl ?_ yA)))⟩
       ·skip
        refine xY (.slice xR xy xQ) Tryz.isAgg27 rfl (H.cell 2 rfl rfl) (⟨H.pick [3] [1,2,3,4,5,6],(ro 18 rfl (zt H Tryz.underlying27 ti22 [.slice a117 ((((zh p (xF p s counts counts.length) counts k).drop ((i * p.qJ).toNat)).take ((((i+1) * p.qJ).toNat) - ((i * p.qJ).toNat))).length) c118] fun b121 w122 H=>⟨H.pick [4] [1,2,3,4,5,6],(ro 19 rfl ?_)⟩))⟩)
        obtain ⟨G126,N,hn127,H⟩:=H.vw 1 rfl N (H.jL [2,1])
        refine zA H 2 rfl 0 rfl Tryz.underlying27 ti22 rfl qj rfl rfl rfl qx qw qg fun a123 c124 w125 H=>?_
        replace H:=H.jy 2 rfl 0 rfl
        replace N:Fresh w.heap.size [(xK++G126),G53]:=(N.pick [2,0,1]).join
        refine ⟨H.pick [4] [3,4,5,6,7,8],(tF 20 rfl rfl (H.pick [4] [3,4,5,6,7,8]) ?_)⟩
        refine ro 21 rfl (vz H 3 [.slice a123 (xy+1) c124,.slice none 0 0] Tryz.sizeOf27 fun w128 H=>⟨H.pick [4] [3,4,5,6,7,8],(xI qi ((meet ⟨_,a123,c124,a117,c118,G126,uE5,N,H.pick [2,3,4] [0,1,4,5,6,7,8]⟩)))⟩)
       ·skip
        refine zt H Tryz.underlying27 ti22 [.slice a117 ((((zh p (xF p s counts counts.length) counts k).drop ((i * p.qJ).toNat)).take ((((i+1) * p.qJ).toNat) - ((i * p.qJ).toNat))).length) c118] fun b129 w130 H=>⟨H.pick [4] [1,2,3,4,5,6],(ro 1 rfl (xY (.slice xR xy xQ) Tryz.isAgg27 rfl (H.cell 3 rfl rfl) (⟨H.pick [4] [1,2,3,4,5,6],(ro 19 rfl ?_)⟩)))⟩
        obtain ⟨G134,N,hn135,H⟩:=H.vw 1 rfl N (H.jL [2,1])
        refine zA H 2 rfl 0 rfl Tryz.underlying27 ti22 rfl qj rfl rfl rfl qx qw qg fun a131 c132 w133 H=>?_
        replace H:=H.jy 2 rfl 0 rfl
        replace N:Fresh w.heap.size [(xK++G134),G53]:=(N.pick [2,0,1]).join
        refine ⟨H.pick [4] [3,4,5,6,7,8],(tF 20 rfl rfl (H.pick [4] [3,4,5,6,7,8]) ?_)⟩
        refine ro 21 rfl (vz H 3 [.slice a131 (xy+1) c132,.slice none 0 0] Tryz.sizeOf27 fun w136 H=>⟨H.pick [4] [3,4,5,6,7,8],(xI qi ((meet ⟨_,a131,c132,a117,c118,G134,uE5,N,H.pick [2,3,4] [0,1,4,5,6,7,8]⟩)))⟩)
    ·skip
     clear H N
     rintro ρ w137 ⟨zu,a58,c59,a60,c61,G62,rfl,N,H⟩
     refine b_n (t_n (xJ (sp (.int .i64 i) (sw (xX i 1 rfl rfl qg (sp (.int .i64 (i+1)) (xN ?_)))))))
     refine xg (m' :=(p.qC.length - ((i+1):Int)).toNat) qg ⟨_,i+1,a58,xy+1,c59,(((List.range i).map fun i=>chunk (zh p (xF p s counts counts.length) counts k) (pK p) i)++[(((zh p (xF p s counts counts.length) counts k).drop ((i * p.qJ).toNat)).take ((((i+1) * p.qJ).toNat) - ((i * p.qJ).toNat)))]),zQ++[.slice a60 ((((zh p (xF p s counts counts.length) counts k).drop ((i * p.qJ).toNat)).take ((((i+1) * p.qJ).toNat) - ((i * p.qJ).toNat))).length) c61],(xK++G62),uE5,?_,?_,rfl,(N.pick [1,0]),H.pick [0,1,2] [0,2,3,4,5,6]⟩
     · rw [chunk_at (lo:=((i:Int) * p.qJ).toNat) (hi:=(((i:Int)+1) * p.qJ).toNat) (i:=i) (K:=pK p) qg qg];exact chunks_snoc _ _ _
     · omega
   ·skip
    have ei:i=p.qC.length:=by omega
    have m5:(p.qC.length:Int) * p.qJ=((p.qC.length * pK p:Nat):Int):=by rw [← pK_eq p0.1];push_cast;rfl
    have m6:(p.qC.length+1) * pK p=p.qC.length * pK p+pK p:=by rw [Nat.add_mul,Nat.one_mul]
    have fs2:=flat_le p0.1 fa
    have k8:=pK_le p0.1
    refine zx4 (xP ?_)
    refine jO rfl H [0,2] fun H=>?_
    have S:=H.zq [0,2] [0,1,2,3,4,5]
    refine rtp 0 (.slice ra3a ((xF p s counts counts.length).length) rc3a) S ?_
    refine rtp 1 (.pointer (some ⟨bp,op,none⟩)) S ?_
    refine rtp 2 (.pointer (some ⟨bp,op,none⟩)) S ?_
    refine tF 3 rfl rfl S ?_
    refine tL 4 rfl rfl (fun _ h=>h.xU 2 rfl 1 rfl) S ?_
    refine tN 5 rfl rfl S ?_
    refine rtp 6 (.pointer (some ⟨bp,op,none⟩)) S ?_
    refine rtp 7 (.pointer (some ⟨bp,op,none⟩)) S ?_
    refine tF 8 rfl rfl S ?_
    refine tL 9 rfl rfl (fun _ h=>h.xU 2 rfl 0 rfl) S ?_
    refine rt 10 (.int .i64 (p.qC.length * p.qJ)) (y_mul p.qC.length p.qJ rfl rfl qg) S ?_
    refine ro 11 rfl ?_
    have hl143:=H.isLen 1 rfl
    refine o_fromV H 1 rfl ((p.qC.length * p.qJ).toNat) Tryz.underlying22 ti2 rfl rfl qg qg fun a139 G140 hG141 H=>?_
    have hl142:((zh p (xF p s counts counts.length) counts k).drop ((p.qC.length * p.qJ).toNat)).length=(zh p (xF p s counts counts.length) counts k).length - ((p.qC.length * p.qJ).toNat):=List.length_drop
    refine ⟨H.pick [0,2] [1,2,3,4,5,6],(ro 12 rfl ?_)⟩
    have sz144:=H.base.size
    have lt145:=H.ltN (L:=[G53,xK]) [2,1]
    refine oc (yY _ ((zh p (xF p s counts counts.length) counts k).drop ((p.qC.length * p.qJ).toNat)) (H.get 0 rfl).1 qh) ?_
    rintro v149 w147 r149 x148
    replace H:=H.zg x148 r149
    obtain ⟨a150,c151,rfl,hc152,hm153⟩:=H.vO 0 rfl
    refine ⟨H.pick [1,3] [1,2,3,4,5,6],(tF 13 rfl rfl (H.pick [1,3] [1,2,3,4,5,6]) ?_)⟩
    refine ro 14 rfl (vz H 2 [.slice xR xy xQ,.slice a150 (((zh p (xF p s counts counts.length) counts k).drop ((p.qC.length * p.qJ).toNat)).length) c151] Tryz.sizeOf22 fun w154 H=>⟨H.pick [1,3] [1,2,3,4,5,6],(xI qi (t_n (zcc (sp (.pointer (some ⟨bp,op,none⟩)) ?_))))⟩)
    obtain ⟨G155,hn156,h157⟩:=H.rowIsR (α:=yLI) 1 rfl 1 rfl qj
    obtain ⟨G158,hn159,h160⟩:=H.Qa 0 rfl
    refine sw (oq (l06Stock_ok _ p (⟨((List.range i).map fun i=>chunk (zh p (xF p s counts counts.length) counts k) (pK p) i),((zh p (xF p s counts counts.length) counts k).drop ((p.qC.length * p.qJ).toNat))⟩:qZ) (qN (H.get 3 rfl) 0 4) (H.get 4 rfl).1 (H.get 5 rfl).1 (H.get 6 rfl).1 (by have hz:=(qN (H.cells 2 rfl) 0 2);rw [hn156] at hz;exact hz) (hn156▸h157) h160 (by first | assumption | exact (And.left (by assumption:zi _)))) H fun w162 H=>?_)
    refine sp (.bool (!(dec (xG p (⟨((List.range i).map fun i=>chunk (zh p (xF p s counts counts.length) counts k) (pK p) i),((zh p (xF p s counts counts.length) counts k).drop ((p.qC.length * p.qJ).toNat))⟩:qZ))))) (zjn (cQ rfl (fun h164=>?_) (fun h164=>?_)))
    ·skip
     refine zcr (sw (o_build [.slice none 0 0,.slice none 0 0] [] (sw (jA H 3 [.slice none 0 0,.slice none 0 0] Tryz.sizeOf39 fun w165 H=>sp (.int .i64 3) (zjr (t_r ?_))))))
     replace H:=H.nilRow 22 1
     replace H:=H.jC (α:=yLI)
     replace H:=H.nilRowI 2
     refine retC2 H 5 rfl (.int .i64 3) rfl Tryz.isAgg39 Tryz.sizeOf39 rfl rfl ⟨_,rfl,?_,H.base⟩
     have q1:Cnts1 p counts:=⟨p2.1,fun i hi=>⟨p2.2 i hi,by have:=p3.le p0 p1 p2 hi;omega⟩⟩
     have e0:vH p s counts=⟨(List.range i).map (fun i=>chunk (zh p (xF p s counts counts.length) counts k) (pK p) i),((zh p (xF p s counts counts.length) counts k)).drop ((p.qC.length:Int) * p.qJ).toNat⟩:=by rw [← step_eq p0 p1 q1,stepS,afterL,← ec,ei,show ((p.qC.length:Int) * p.qJ).toNat=p.qC.length * pK p by omega]
     rw [pstep_no (by rw [e0];assumption)]
     exact ⟨none,0,0,[],[],none,0,0,rfl,(N.emp.pick [0]),H.pick [1,0] [0]⟩
    ·skip
     refine xf (t_n (zcr (sw (xZ [.slice xR xy xQ,.slice a150 (((zh p (xF p s counts counts.length) counts k).drop ((p.qC.length * p.qJ).toNat)).length) c151] Tryz.isAgg39 Tryz.sizeOf39 rfl (qN (H.cells 2 rfl) 0 2) (sw (jA H 3 [.slice xR xy xQ,.slice a150 (((zh p (xF p s counts counts.length) counts k).drop ((p.qC.length * p.qJ).toNat)).length) c151] Tryz.sizeOf39 fun w166 H=>sp (.int .i64 0) (zjr (retC2 H 3 rfl (.int .i64 0) rfl Tryz.isAgg39 Tryz.sizeOf39 rfl rfl ⟨_,rfl,?_,H.base⟩))))))))
     have q1:Cnts1 p counts:=⟨p2.1,fun i hi=>⟨p2.2 i hi,by have:=p3.le p0 p1 p2 hi;omega⟩⟩
     have e0:vH p s counts=⟨(List.range i).map (fun i=>chunk (zh p (xF p s counts counts.length) counts k) (pK p) i),((zh p (xF p s counts counts.length) counts k)).drop ((p.qC.length:Int) * p.qJ).toNat⟩:=by rw [← step_eq p0 p1 q1,stepS,afterL,← ec,ei,show ((p.qC.length:Int) * p.qJ).toNat=p.qC.length * pK p by omega]
     rw [pstep_yes (by rw [e0];assumption),e0]
     exact ⟨xR,xy,xQ,zQ,xK,a150,((zh p (xF p s counts counts.length) counts k).drop ((p.qC.length * p.qJ).toNat)).length,c151,rfl,(N.pick [1]),H.pick [1,0] [1]⟩
def walk_ok_S (f:Nat):Prop:=∀ {W0 w:World} {ps:List Prv} {Γ:List Fact} {Ns:List yLN} (p:qW) (s:qZ) (mode:Int) (fit:Int) (left:yLI) (counts:yLI) (out:yLL) (bx:Nat) (bp:Nat) (op:Nat) (apa:yOA) (cpa:Nat) (Fpa:yLN) (apf:yOA) (cpf:Nat) (Fpf:yLN) (apr:yOA) (cpr:Nat) (Fpr:yLN) (acounts:yOA) (ccounts:Nat) (Fcounts:yLN) (raout:yOA) (rnout:Nat) (rcout:Nat) (rxout:List Value) (rFout:yLN) (ralf:yOA) (rnlf:Nat) (rclf:Nat) (H:St W0 w ((.box bx [.pointer (some ⟨bp,op,none⟩),.int .i64 mode,.int .i64 fit,.slice raout rnout rcout] 109) :: (rr raout rnout rcout 22 1 rxout) :: (rr ralf rnlf rclf 2 1 (left.map (Value.int .i64))) :: ps) ((atF bp op [.int .i64 p.qJ,.slice apa p.qC.length cpa,.slice apf p.qL.length cpf,.slice apr p.qB.length cpr]) :: (sF false Fpa apa cpa p.qC) :: (sF false Fpf apf cpf p.qL) :: (sF false Fpr apr cpr p.qB) :: (sF false Fcounts acounts ccounts counts) :: (xW true rFout rxout out) :: Γ)) (N:Fresh W0.heap.size (rFout :: Ns)) (K0:Kept Ns Γ) (p0:zi p) (p1:xG p s) (p2:Cnts p counts) (p3:Fits p s counts) (p4:counts.length+f=p.qB.length) (p5:left=xF p s counts counts.length) (p6:0≤fit∧fit≤1500) (p7:(out.length:Int)≤fit),Calls Tryz.prog 83 #[.pointer (some ⟨bx,0,none⟩),.slice ralf rnlf rclf,.slice acounts counts.length ccounts] w (fun e w' =>∃ v,e=.returned v∧∃ (raout_:yOA) (rnout_:Nat) (rcout_:Nat) (rxout_:List Value) (rFout_:yLN),v=.tuple #[]∧Fresh W0.heap.size (rFout_ :: Ns)∧St W0 w' ((.box bx [.pointer (some ⟨bp,op,none⟩),.int .i64 mode,.int .i64 ((gath2 (fun l=>Chosen p s l mode) false (fit,out) (leaves p s f counts)).1),.slice raout_ rnout_ rcout_] 109) :: (rr raout_ rnout_ rcout_ 22 1 rxout_) :: (rr ralf rnlf rclf 2 1 (left.map (Value.int .i64))) :: ps) ((atF bp op [.int .i64 p.qJ,.slice apa p.qC.length cpa,.slice apf p.qL.length cpf,.slice apr p.qB.length cpr]) :: (sF false Fpa apa cpa p.qC) :: (sF false Fpf apf cpf p.qL) :: (sF false Fpr apr cpr p.qB) :: (sF false Fcounts acounts ccounts counts) :: (xW true rFout_ rxout_ ((gath2 (fun l=>Chosen p s l mode) false (fit,out) (leaves p s f counts)).2)) :: Γ))
theorem walk_ok_step (f:Nat) (IH:∀ k,k < f→walk_ok_S k) {W0 w:World} {ps:List Prv} {Γ:List Fact} {Ns:List yLN} (p:qW) (s:qZ) (mode:Int) (fit:Int) (left:yLI) (counts:yLI) (out:yLL) (bx:Nat) (bp:Nat) (op:Nat) (apa:yOA) (cpa:Nat) (Fpa:yLN) (apf:yOA) (cpf:Nat) (Fpf:yLN) (apr:yOA) (cpr:Nat) (Fpr:yLN) (acounts:yOA) (ccounts:Nat) (Fcounts:yLN) (raout:yOA) (rnout:Nat) (rcout:Nat) (rxout:List Value) (rFout:yLN) (ralf:yOA) (rnlf:Nat) (rclf:Nat) (H:St W0 w ((.box bx [.pointer (some ⟨bp,op,none⟩),.int .i64 mode,.int .i64 fit,.slice raout rnout rcout] 109) :: (rr raout rnout rcout 22 1 rxout) :: (rr ralf rnlf rclf 2 1 (left.map (Value.int .i64))) :: ps) ((atF bp op [.int .i64 p.qJ,.slice apa p.qC.length cpa,.slice apf p.qL.length cpf,.slice apr p.qB.length cpr]) :: (sF false Fpa apa cpa p.qC) :: (sF false Fpf apf cpf p.qL) :: (sF false Fpr apr cpr p.qB) :: (sF false Fcounts acounts ccounts counts) :: (xW true rFout rxout out) :: Γ)) (N:Fresh W0.heap.size (rFout :: Ns)) (K0:Kept Ns Γ) (p0:zi p) (p1:xG p s) (p2:Cnts p counts) (p3:Fits p s counts) (p4:counts.length+f=p.qB.length) (p5:left=xF p s counts counts.length) (p6:0≤fit∧fit≤1500) (p7:(out.length:Int)≤fit):Calls Tryz.prog 83 #[.pointer (some ⟨bx,0,none⟩),.slice ralf rnlf rclf,.slice acounts counts.length ccounts] w (fun e w' =>∃ v,e=.returned v∧∃ (raout_:yOA) (rnout_:Nat) (rcout_:Nat) (rxout_:List Value) (rFout_:yLN),v=.tuple #[]∧Fresh W0.heap.size (rFout_ :: Ns)∧St W0 w' ((.box bx [.pointer (some ⟨bp,op,none⟩),.int .i64 mode,.int .i64 ((gath2 (fun l=>Chosen p s l mode) false (fit,out) (leaves p s f counts)).1),.slice raout_ rnout_ rcout_] 109) :: (rr raout_ rnout_ rcout_ 22 1 rxout_) :: (rr ralf rnlf rclf 2 1 (left.map (Value.int .i64))) :: ps) ((atF bp op [.int .i64 p.qJ,.slice apa p.qC.length cpa,.slice apf p.qL.length cpf,.slice apr p.qB.length cpr]) :: (sF false Fpa apa cpa p.qC) :: (sF false Fpf apf cpf p.qL) :: (sF false Fpr apr cpr p.qB) :: (sF false Fcounts acounts ccounts counts) :: (xW true rFout_ rxout_ ((gath2 (fun l=>Chosen p s l mode) false (fit,out) (leaves p s f counts)).2)) :: Γ)):=by
 refine en Tryz.func83 Tryz.ntmps83 ?_
 have npa:=qO (H.get 1 rfl).1
 have npf:=qO (H.get 2 rfl).1
 have npr:=qO (H.get 3 rfl).1
 have ncounts:=qO (H.get 4 rfl).1
 obtain rfl:=H.zB (α:=yLI) 1 rfl 5 rfl qj
 obtain rfl:=H.y9 2 rfl
 have p8:=p0.1.2.2.2.1
 have p9:LeftOk p left:=p5▸left_ok p0 p1 p2 p3
 have pl:=flat_le p0.1 p9.1
 have psm:=cnts_small p0 p1 p2 p3
 have ci:ChosenL p left counts mode↔Chosen p s counts mode:=by rw [p5];exact chosenL_iff p0 p1 p2 p3
 refine zcr (sp (.slice acounts counts.length ccounts) (oN rfl (sp (.int .i64 counts.length) (zjcc (sps [.int .i64 counts.length,.pointer (some ⟨bx,0,none⟩),.pointer (some ⟨bx,0,none⟩)] (oF rfl (oL rfl (H.cell 0 rfl rfl) (sp (.pointer (some ⟨bp,op,none⟩)) (oF rfl (oL rfl (H.xU 0 rfl 3 rfl) (oN rfl (sp (.bool ((counts.length:Int) == p.qB.length)) (zjn (cE rfl (fun h1=>?_) (fun h1=>?_)))))))))))))))
 ·skip
  refine zcr (sps [.pointer (some ⟨bx,0,none⟩),.pointer (some ⟨bx,0,none⟩)] (oF rfl (oL rfl (H.cell 0 rfl rfl) (sw (xX fit 1 rfl rfl qg (sp (.pointer (some ⟨bx,0,none⟩)) (oF rfl (sw (vz H 0 [.pointer (some ⟨bp,op,none⟩),.int .i64 mode,.int .i64 (fit+1),.slice raout out.length rcout] Tryz.sizeOf2 fun w2 H=>?_)))))))))
  try dsimp only [List.set] at H
  refine zjn (xP (xP ?_))
  refine c_drawK2 rfl H [0,1,2] [0,1,2,3,4,5] fun H=>?_
  have S:=H.zq [0,1,2] [0,1,2,3,4,5]
  refine rtp 0 (.pointer (some ⟨bx,0,none⟩)) S ?_
  refine rtp 1 (.pointer (some ⟨bx,0,none⟩)) S ?_
  refine tF 2 rfl rfl S ?_
  refine tL 3 rfl rfl (fun _ h=>h.cell 0 rfl rfl) S ?_
  refine rtp 4 (.bool (decide ((fit+1:Int)≤1500))) S ?_
  refine rtp 5 (.bool (decide ((fit+1:Int)≤1500))) S ?_
  cases h4:(decide ((fit+1:Int)≤1500))
  ·skip
   replace h4:=of_decide_eq_false h4
   refine zL [6,7,8,9,10,11,12,13,14,15,16] 11 (H.pick [0,1,2] [0,1,2,3,4,5]) (rtp 17 (.bool false) (H.pick [0,1,2] [0,1,2,3,4,5]) ?_)
   refine xI qi (t_n (xC false rfl (fun h=>absurd h qj) (fun _=>xf (t_n (c_ret (t_r (ret0' rfl ⟨_,rfl,?_⟩)))))))
   have f0:f=0:=by omega
   subst f0
   rw [gath_leaf_no qg (by rintro ⟨h1 | h1,h2⟩ <;> first | omega | exact absurd h1 qj | exact absurd (ci.2 h2) qm)]
   exact ⟨raout,out.length,rcout,rxout,rFout,rfl,N,H.QM 3 6 [0,1,2] [0,1,2,3,4,5] qp qp⟩
  ·skip
   replace h4:=of_decide_eq_true h4
   have S:=H.zq [0,1,2] [0,1,2,3,4,5]
   refine rgp 6 (.pointer (some ⟨bx,0,none⟩)) 33 S ?_
   refine rgp 7 (.pointer (some ⟨bx,0,none⟩)) 33 S ?_
   refine gF 8 rfl rfl S ?_
   refine gL 9 rfl rfl (fun _ h=>h.cell 0 rfl rfl) S ?_
   refine rgp 10 (.slice ralf left.length rclf) 33 S ?_
   refine rgp 11 (.slice acounts counts.length ccounts) 33 S ?_
   refine rgp 12 (.pointer (some ⟨bx,0,none⟩)) 33 S ?_
   refine rgp 13 (.pointer (some ⟨bx,0,none⟩)) 33 S ?_
   refine gF 14 rfl rfl S ?_
   refine gL 15 rfl rfl (fun _ h=>h.cell 0 rfl rfl) S ?_
   refine yz [16] qi qo (r_opG rfl (e:=33) rfl rfl ?_ yA)
   obtain ⟨G5,hn6,h7⟩:=H.Qa 2 rfl
   have qc:counts.length=p.qB.length:=by omega
   refine oq (l06Chosen_ok _ p left counts mode (qN (H.get 0 rfl) 0 4) (H.get 1 rfl).1 (H.get 2 rfl).1 (H.get 3 rfl).1 h7 (H.get 4 rfl).1 (by exact p0) (by first | exact p1 | assumption) qm qm) H fun w9 H=>⟨H.pick [0,1,2] [0,1,2,3,4,5],(rtp 17 (.bool (dec (ChosenL p left counts mode))) (H.pick [0,1,2] [0,1,2,3,4,5]) ?_)⟩
   refine xI qi (t_n (cP rfl (fun h11=>?_) (fun h11=>?_)))
   ·skip
    refine c_cut (fun ρ w17=>∃ (zu:Env) (a12:yOA) (c13:Nat) (a14:yOA) (c15:Nat) (G16:yLN),ρ=zu∧Fresh W0.heap.size ((rFout++G16) :: Ns)∧St W0 w17 ((.box bx [.pointer (some ⟨bp,op,none⟩),.int .i64 mode,.int .i64 (fit+1),.slice a12 (out.length+1) c13] 109) :: (rr a12 (out.length+1) c13 22 1 (rxout++[.slice a14 counts.length c15])) :: (rr ralf left.length rclf 2 1 (left.map (Value.int .i64))) :: ps) ((xW true (rFout++G16) (rxout++[.slice a14 counts.length c15]) (out++[counts])) :: (sF true G16 a14 c15 counts) :: (atF bp op [.int .i64 p.qJ,.slice apa p.qC.length cpa,.slice apf p.qL.length cpf,.slice apr p.qB.length cpr]) :: (sF false Fpa apa cpa p.qC) :: (sF false Fpf apf cpf p.qL) :: (sF false Fpr apr cpr p.qB) :: (sF false Fcounts acounts ccounts counts) :: Γ)) ?_ ?_
    ·skip
     refine c_drawK2 rfl H [2] [0,1,2,3,4,5] fun H=>?_
     have S:=H.zq [2] [0,1,2,3,4,5]
     refine rtp 0 (.pointer (some ⟨bx,0,none⟩)) S ?_
     refine rtp 1 (.pointer (some ⟨bx,0,none⟩)) S ?_
     refine rtp 2 (.pointer (some ⟨bx,0,none⟩)) S ?_
     refine tF 3 rfl rfl S ?_
     refine rtp 5 (.slice acounts counts.length ccounts) S ?_
     refine yz [4,6] qi qo (r_op rfl ?_ (r_op rfl ?_ yA))
     ·skip
      refine xY (.slice raout out.length rcout) Tryz.isAgg27 rfl (H.cell 0 rfl rfl) (⟨H.pick [2] [0,1,2,3,4,5],(ro 6 rfl ?_)⟩)
      have sz19:=H.base.size
      have lt20:=all_two (H.ltN (L:=[rFout]) [5]) (H.ltK (K0.behind 6 rfl))
      refine oc (yY _ counts (H.get 4 rfl).1 qh) ?_
      rintro v24 w22 r24 x23
      replace H:=H.zg x23 r24
      obtain ⟨a25,c26,rfl,hc27,hm28⟩:=H.vO 0 rfl
      refine ⟨H.pick [3] [0,1,2,3,4,5],(ro 7 rfl (zt H Tryz.underlying27 ti22 [.slice a25 counts.length c26] fun b29 w30 H=>⟨H.pick [4] [0,1,2,3,4,5],(ro 8 rfl ?_)⟩))⟩
      obtain ⟨G34,N,hn35,H⟩:=H.vw 1 rfl N (fun F hF b hb=>(List.mem_append.1 (show F∈[rFout]++Ns from hF)).elim (fun h=>(H.jL (L:=[rFout]) [5]) F h b hb) fun h=>H.awayK (K0.behind 6 rfl) F h b hb)
      try dsimp only [List.set] at H
      refine zA H 3 rfl 0 rfl Tryz.underlying27 ti22 rfl qj rfl rfl rfl qx qw qg fun a31 c32 w33 H=>?_
      try dsimp only [List.set] at H
      replace H:=H.jy 6 rfl 0 rfl
      replace N:Fresh W0.heap.size ((rFout++G34) :: Ns):=(N.QM 2 [1,0] qp).join
      refine ⟨H.pick [4] [2,3,4,5,6,7],?_⟩
      have S:=H.zq [4] [2,3,4,5,6,7]
      refine rtp 9 (.pointer (some ⟨bx,0,none⟩)) S ?_
      refine tF 10 rfl rfl S ?_
      refine ro 11 rfl (vz H 2 [.pointer (some ⟨bp,op,none⟩),.int .i64 mode,.int .i64 (fit+1),.slice a31 (out.length+1) c32] Tryz.sizeOf27 fun w36 H=>?_)
      try dsimp only [List.set] at H
      refine ⟨H.pick [4] [2,3,4,5,6,7],(xI qi ((meet ⟨_,a31,c32,a25,c26,G34,(by exact rfl),N,H.QM 5 8 [2,3,4] [0,1,2,3,4,5,6] qp qp⟩)))⟩
     ·skip
      have sz37:=H.base.size
      have lt38:=all_two (H.ltN (L:=[rFout]) [5]) (H.ltK (K0.behind 6 rfl))
      refine oc (yY _ counts (H.get 4 rfl).1 qh) ?_
      rintro v42 w40 r42 x41
      replace H:=H.zg x41 r42
      obtain ⟨a43,c44,rfl,hc45,hm46⟩:=H.vO 0 rfl
      refine ⟨H.pick [3] [0,1,2,3,4,5],(yz [4,7] qi qo (r_op rfl ?_ (r_op rfl ?_ yA)))⟩
      ·skip
       refine xY (.slice raout out.length rcout) Tryz.isAgg27 rfl (H.cell 1 rfl rfl) (⟨H.pick [3] [0,1,2,3,4,5],(ro 7 rfl (zt H Tryz.underlying27 ti22 [.slice a43 counts.length c44] fun b47 w48 H=>⟨H.pick [4] [0,1,2,3,4,5],(ro 8 rfl ?_)⟩))⟩)
       obtain ⟨G52,N,hn53,H⟩:=H.vw 1 rfl N (fun F hF b hb=>(List.mem_append.1 (show F∈[rFout]++Ns from hF)).elim (fun h=>(H.jL (L:=[rFout]) [5]) F h b hb) fun h=>H.awayK (K0.behind 6 rfl) F h b hb)
       try dsimp only [List.set] at H
       refine zA H 3 rfl 0 rfl Tryz.underlying27 ti22 rfl qj rfl rfl rfl qx qw qg fun a49 c50 w51 H=>?_
       try dsimp only [List.set] at H
       replace H:=H.jy 6 rfl 0 rfl
       replace N:Fresh W0.heap.size ((rFout++G52) :: Ns):=(N.QM 2 [1,0] qp).join
       refine ⟨H.pick [4] [2,3,4,5,6,7],?_⟩
       have S:=H.zq [4] [2,3,4,5,6,7]
       refine rtp 9 (.pointer (some ⟨bx,0,none⟩)) S ?_
       refine tF 10 rfl rfl S ?_
       refine ro 11 rfl (vz H 2 [.pointer (some ⟨bp,op,none⟩),.int .i64 mode,.int .i64 (fit+1),.slice a49 (out.length+1) c50] Tryz.sizeOf27 fun w54 H=>?_)
       try dsimp only [List.set] at H
       refine ⟨H.pick [4] [2,3,4,5,6,7],(xI qi ((meet ⟨_,a49,c50,a43,c44,G52,(by exact rfl),N,H.QM 5 8 [2,3,4] [0,1,2,3,4,5,6] qp qp⟩)))⟩
      ·skip
       refine zt H Tryz.underlying27 ti22 [.slice a43 counts.length c44] fun b55 w56 H=>⟨H.pick [4] [0,1,2,3,4,5],(ro 4 rfl (xY (.slice raout out.length rcout) Tryz.isAgg27 rfl (H.cell 2 rfl rfl) (⟨H.pick [4] [0,1,2,3,4,5],(ro 8 rfl ?_)⟩)))⟩
       obtain ⟨G60,N,hn61,H⟩:=H.vw 1 rfl N (fun F hF b hb=>(List.mem_append.1 (show F∈[rFout]++Ns from hF)).elim (fun h=>(H.jL (L:=[rFout]) [5]) F h b hb) fun h=>H.awayK (K0.behind 6 rfl) F h b hb)
       try dsimp only [List.set] at H
       refine zA H 3 rfl 0 rfl Tryz.underlying27 ti22 rfl qj rfl rfl rfl qx qw qg fun a57 c58 w59 H=>?_
       try dsimp only [List.set] at H
       replace H:=H.jy 6 rfl 0 rfl
       replace N:Fresh W0.heap.size ((rFout++G60) :: Ns):=(N.QM 2 [1,0] qp).join
       refine ⟨H.pick [4] [2,3,4,5,6,7],?_⟩
       have S:=H.zq [4] [2,3,4,5,6,7]
       refine rtp 9 (.pointer (some ⟨bx,0,none⟩)) S ?_
       refine tF 10 rfl rfl S ?_
       refine ro 11 rfl (vz H 2 [.pointer (some ⟨bp,op,none⟩),.int .i64 mode,.int .i64 (fit+1),.slice a57 (out.length+1) c58] Tryz.sizeOf27 fun w62 H=>?_)
       try dsimp only [List.set] at H
       refine ⟨H.pick [4] [2,3,4,5,6,7],(xI qi ((meet ⟨_,a57,c58,a43,c44,G60,(by exact rfl),N,H.QM 5 8 [2,3,4] [0,1,2,3,4,5,6] qp qp⟩)))⟩
    ·skip
     clear H N
     rintro ρ w63 ⟨zu,a12,c13,a14,c15,G16,rfl,N,H⟩
     refine t_n (c_ret (t_r (ret0' rfl ⟨_,rfl,?_⟩)))
     have f0:f=0:=by omega
     subst f0
     rw [gath_leaf_yes qg (.inl qg) (ci.1 qm)]
     exact ⟨a12,out.length+1,c13,rxout++[Value.slice a14 counts.length c15],(rFout++G16),rfl,N,H.QM 3 7 [0,1,2] [2,3,4,5,6,0] qp qp⟩
   ·skip
    refine xf (t_n (c_ret (t_r (ret0' rfl ⟨_,rfl,?_⟩))))
    have f0:f=0:=by omega
    subst f0
    rw [gath_leaf_no qg (by rintro ⟨h1 | h1,h2⟩ <;> first | omega | exact absurd h1 qj | exact absurd (ci.2 h2) qm)]
    exact ⟨raout,out.length,rcout,rxout,rFout,rfl,N,H.QM 3 6 [0,1,2] [0,1,2,3,4,5] qp qp⟩
 ·skip
  refine xf (t_n (zcr (sp (.slice ralf left.length rclf) ?_)))
  obtain ⟨G64,hn65,h66⟩:=H.Qa 2 rfl
  have sz67:=H.base.size
  have lt68:=all_two (H.ltN (L:=[rFout]) [5]) (H.ltK (K0.behind 6 rfl))
  refine sw (oc (yY _ left h66 qh) ?_)
  rintro v72 w70 r72 x71
  replace H:=H.zg x71 r72
  obtain ⟨a73,c74,rfl,hc75,hm76⟩:=H.vO 0 rfl
  refine sp (.slice a73 left.length c74) (zjc (sp (.int .i64 0) (zjn (xm ?_))))
  refine zK (fun m' ρ w77=>∃ (zu:Env) (n:Nat) (x_fit:Int) (a_x_out:yOA) (n_x_out:Nat) (c_x_out:Nat) (QA:yLL) (x_x_out:List Value) (F_x_out:yLN) (flat:yLI),ρ=upd (upd (upd (upd (upd zu 0 (.pointer (some ⟨bx,0,none⟩))) 2 (.slice acounts counts.length ccounts)) 6 (.int .i64 counts.length)) 7 (.slice a73 left.length c74)) 8 (.int .i64 n)∧x_fit=(gath2 (fun l=>Chosen p s l mode) false (fit,out) (xO p s (f - 1) counts n)).1∧QA=(gath2 (fun l=>Chosen p s l mode) false (fit,out) (xO p s (f - 1) counts n)).2∧flat=(xF p s (counts++[(n:Int)]) (counts.length+1))∧(Fits p s (counts++[(n:Int)]))∧m' =(1001 - (n:Int)).toNat∧Fresh W0.heap.size (F_x_out :: Ns)∧St W0 w77 ((rr a73 left.length c74 2 1 (flat.map (Value.int .i64))) :: (.box bx [.pointer (some ⟨bp,op,none⟩),.int .i64 mode,.int .i64 x_fit,.slice a_x_out n_x_out c_x_out] 109) :: (rr a_x_out n_x_out c_x_out 22 1 x_x_out) :: (rr ralf left.length rclf 2 1 (left.map (Value.int .i64))) :: ps) ((atF bp op [.int .i64 p.qJ,.slice apa p.qC.length cpa,.slice apf p.qL.length cpf,.slice apr p.qB.length cpr]) :: (sF false Fpa apa cpa p.qC) :: (sF false Fpf apf cpf p.qL) :: (sF false Fpr apr cpr p.qB) :: (sF false Fcounts acounts ccounts counts) :: (xW true F_x_out x_x_out QA) :: Γ)) ((1001 - (0:Int)).toNat) ⟨_,0,fit,raout,out.length,rcout,out,rxout,rFout,left,uE5,(by rw [gath_start]),(by rw [gath_start]),(by exact p5.trans (lf_snoc_zero p0 p1 qg).symm),(by exact fits_none p3),rfl,N,H⟩ ?_
  clear H N
  rintro m' ρ w78 ⟨zu,n,x_fit,a_x_out,n_x_out,c_x_out,QA,x_x_out,F_x_out,flat,rfl,rfl,rfl,rfl,j1,rfl,N,H⟩
  have hn_x_out:=H.zB (α:=yLI) 2 rfl 5 rfl qj
  have hn_flat:=H.y9 0 rfl
  have jn:=fits_few p0 p1 p2 qg (n:=(n:Int)) qg j1
  have jb:=gath2_bd (c:=(fun l=>Chosen p s l mode)) (b:=false) (xO p s (f - 1) counts n) p6 p7
  have jl:(xF p s (counts++[(n:Int)]) (counts.length+1)).length≤64:=flat_le p0.1 (by rw [jB,yu p0.1 p1])
  refine zcc (sps [.int .i64 n,.bool (decide ((n:Int)≤1000)),.bool (decide ((n:Int)≤1000))] ?_)
  cases h79:(decide ((n:Int)≤1000))
  ·skip
   replace h79:=of_decide_eq_false h79
   refine zG [62,63,64,65,66] (sp (.bool false) (zjn (xC false rfl (fun h=>absurd h qj) (fun _=>c_exit (t_x (t_x (b_x (ret0 rfl ⟨_,rfl,?_⟩))))))))
   first | (exfalso;omega) | (rw [walk_done qg ‹_› qg];exact ⟨a_x_out,n_x_out,c_x_out,x_x_out,F_x_out,rfl,N,H.QM 4 6 [1,2,3] [0,1,2,3,4,5] qp qp⟩)
  ·skip
   replace h79:=of_decide_eq_true h79
   refine qY 61 rfl rfl (sp (.pointer (some ⟨bx,0,none⟩)) (qY 61 rfl rfl (sp (.pointer (some ⟨bx,0,none⟩)) (qY 61 rfl rfl (oF rfl (qY 61 rfl rfl (oL rfl (H.cell 1 rfl rfl) (qY 61 rfl rfl (sps [.bool (decide ((((gath2 (fun l=>Chosen p s l mode) false (fit,out) (xO p s (f - 1) counts n)).1):Int)≤1500)),.bool (decide ((((gath2 (fun l=>Chosen p s l mode) false (fit,out) (xO p s (f - 1) counts n)).1):Int)≤1500))] (zjn (cD rfl (fun h80=>?_) (fun h80=>?_))))))))))))
   ·skip
    refine xf (t_n (xP (xm (zcr (sps [.pointer (some ⟨bx,0,none⟩),.slice a73 left.length c74,.slice acounts counts.length ccounts] ?_)))))
    have sz81:=H.base.size
    have lt82:=all_two (H.ltN (L:=[F_x_out]) [5]) (H.ltK (K0.behind 6 rfl))
    refine sw (oc (yY _ counts (H.get 4 rfl).1 qh) ?_)
    rintro v86 w84 r86 x85
    replace H:=H.zg x85 r86
    obtain ⟨a87,c88,rfl,hc89,hm90⟩:=H.vO 0 rfl
    refine sp (.int .i64 n) (sw (zt H Tryz.underlying22 ti2 [.int .i64 n] fun b91 w92 H=>sw (zA H 1 rfl 0 rfl Tryz.underlying22 ti2 rfl qj rfl rfl rfl qx qw qg fun a93 c94 w95 H=>?_)))
    rw [snocI] at H
    try dsimp only [List.set] at H
    obtain ⟨G96,N,hn97,H⟩:=H.vw 1 rfl N (fun F hF b hb=>(List.mem_append.1 (show F∈[F_x_out]++Ns from hF)).elim (fun h=>(H.jL (L:=[F_x_out]) [5]) F h b hb) fun h=>H.awayK (K0.behind 6 rfl) F h b hb)
    try dsimp only [List.set] at H
    replace H:=H.unfreeI 0 rfl
    have hn98:=H.isLen 0 rfl
    have H1:St W0 w95 ((.box bx [.pointer (some ⟨bp,op,none⟩),.int .i64 mode,.int .i64 ((gath2 (fun l=>Chosen p s l mode) false (fit,out) (xO p s (f - 1) counts n)).1),.slice a_x_out n_x_out c_x_out] 109) :: (.row (.slice a_x_out n_x_out c_x_out) 22 1 n_x_out x_x_out) :: (.row (.slice a73 left.length c74) 2 1 left.length ((xF p s (counts++[(n:Int)]) (counts.length+1)).map (Value.int .i64))) :: (.box b91 [.int .i64 n] 2) :: (.row (.slice none 0 0) 0 1 0 []) :: (.row (.slice ralf left.length rclf) 2 1 left.length (left.map (Value.int .i64))) :: ps) ((atF bp op [.int .i64 p.qJ,.slice apa p.qC.length cpa,.slice apf p.qL.length cpf,.slice apr p.qB.length cpr]) :: (isF false Fpa (.slice apa p.qC.length cpa) p.qC) :: (isF false Fpf (.slice apf p.qL.length cpf) p.qL) :: (isF false Fpr (.slice apr p.qB.length cpr) p.qB) :: (isF false G96 (.slice a93 ((counts++[(n:Int)]).length) c94) (counts++[(n:Int)])) :: (xW true F_x_out x_x_out ((gath2 (fun l=>Chosen p s l mode) false (fit,out) (xO p s (f - 1) counts n)).2)) :: (isF false G96 (.slice a93 (counts.length+1) c94) (counts++[(n:Int)])) :: (isF true G96 (.slice a93 (counts.length+1) c94) (counts++[(n:Int)])) :: (isF false Fcounts (.slice acounts counts.length ccounts) counts) :: Γ):=by (try rw [← hn98]);exact H.QM 6 8 [3,4,2,0,1,5] [2,3,4,5,0,7,0,1,6] qp qp
    have N1:Fresh _ (F_x_out :: G96 :: Ns):=(N.QM 2 [1,0] qp)
    have K1:Kept (Ns) ((isF false G96 (.slice a93 (counts.length+1) c94) (counts++[(n:Int)])) :: (isF true G96 (.slice a93 (counts.length+1) c94) (counts++[(n:Int)])) :: (sF false Fcounts acounts ccounts counts) :: Γ):=K0.behind 3 rfl
    replace K1:=K1.cons (F:=G96) 0 rfl rfl
    refine sw (o_callF #[.pointer (some ⟨bx,0,none⟩),.slice a73 left.length c74,.slice a93 (counts.length+1) c94] rfl rfl Tryz.call83 (args_eq (by first | rfl | rw [hn98]) (IH (f - 1) qg p s mode ((gath2 (fun l=>Chosen p s l mode) false (fit,out) (xO p s (f - 1) counts n)).1) (xF p s (counts++[(n:Int)]) (counts.length+1)) (counts++[(n:Int)]) ((gath2 (fun l=>Chosen p s l mode) false (fit,out) (xO p s (f - 1) counts n)).2) bx bp op apa cpa Fpa apf cpf Fpf apr cpr Fpr a93 c94 G96 a_x_out n_x_out c_x_out x_x_out F_x_out a73 left.length c74 H1 N1 K1 (by exact p0) (by exact p1) (by first | exact p2.snoc qg qg) (by first | exact j1) (by first | (rw [List.length_append,List.length_singleton];omega)) (by first | rw [List.length_append,List.length_singleton]) (by first | exact ⟨by omega,by omega⟩) (by first | exact jb.2))) ?_)
    clear H H1 N1 K1
    rintro _ w99 ⟨ra101,rn102,rc103,rx104,rF105,rfl,N,H⟩
    obtain rfl:=H.zB (α:=yLI) 1 rfl 5 rfl qj
    refine zjn (xP ?_)
    refine c_drawK2 rfl H [0,1,3,4,5] [0,1,2,3,4,5,6,7,8] fun H=>?_
    have S:=H.zq [0,1,3,4,5] [0,1,2,3,4,5,6,7,8]
    refine rtp 0 (.pointer (some ⟨bx,0,none⟩)) S ?_
    refine rtp 1 (.pointer (some ⟨bx,0,none⟩)) S ?_
    refine tF 2 rfl rfl S ?_
    refine tL 3 rfl rfl (fun _ h=>h.cell 0 rfl rfl) S ?_
    refine rtp 4 (.slice a73 left.length c74) S ?_
    refine rtp 5 (.pointer (some ⟨bx,0,none⟩)) S ?_
    refine rtp 6 (.pointer (some ⟨bx,0,none⟩)) S ?_
    refine tF 7 rfl rfl S ?_
    refine tL 8 rfl rfl (fun _ h=>h.cell 0 rfl rfl) S ?_
    refine rtp 9 (.pointer (some ⟨bp,op,none⟩)) S ?_
    refine tF 10 rfl rfl S ?_
    refine tL 11 rfl rfl (fun _ h=>h.xU 0 rfl 3 rfl) S ?_
    refine rtp 12 (.int .i64 counts.length) S ?_
    obtain ⟨b107,o108,rfl⟩:=H.addr 3 rfl qg
    obtain ⟨ae110Out,ce110Out,Fe110Out,ae110In,ce110In,Fe110In,H⟩:=H.zW 3 rfl counts.length counts.length qg qg qg
    refine tI 13 rfl rfl rfl (H.pick [0,1,3,4,5] [3,4,5,6,7,8,9,10,11]) ?_
    refine ro 14 rfl ?_
    have cr:=p0.2 counts.length qg
    have c1:=cr.1
    have c2:=p0.1.2.1
    have c3:=p0.1.1
    have mb:=mul_bd8 (a:=(p.qB[counts.length]!).qE) (b:=p.qJ) qg qg
    obtain ⟨fl,fb⟩:LeftOk p (xF p s (counts++[(n:Int)]) (counts.length+1)):=by have:=left_ok p0 p1 (p2.snoc (n:=(n:Int)) qg qg) j1;rwa [List.length_append,List.length_singleton] at this
    have tb:(0:Int)≤1∧(1:Int)≤1000:=by decide
    refine jG #[.pointer (some ⟨bp,op,none⟩),.slice a73 left.length c74,.pointer (some ⟨b107,o108+(counts.length:Int).toNat * 3,none⟩),.int .i64 1] rfl rfl Tryz.call104 (en Tryz.func104 Tryz.ntmps104 ?_)
    refine zcr (sp (.bool false) (zjn (xP ?_)))
    refine c_drawK2 rfl H [0,1,2,3,4,5] [0,1,2,3,4,5,6,7,8,9,10,11] fun H=>?_
    have S:=H.zq [0,1,2,3,4,5] [0,1,2,3,4,5,6,7,8,9,10,11]
    refine rtp 0 (.pointer (some ⟨b107,o108+(counts.length:Int).toNat * 3,none⟩)) S ?_
    refine rtp 1 (.pointer (some ⟨b107,o108+(counts.length:Int).toNat * 3,none⟩)) S ?_
    refine tF 2 rfl rfl S ?_
    refine tL 3 rfl rfl (fun _ h=>h.xU 2 rfl 0 rfl) S ?_
    refine rtp 4 (.pointer (some ⟨bp,op,none⟩)) S ?_
    refine rtp 5 (.pointer (some ⟨bp,op,none⟩)) S ?_
    refine tF 6 rfl rfl S ?_
    refine tL 7 rfl rfl (fun _ h=>h.xU 3 rfl 0 rfl) S ?_
    refine rt 8 (.int .i64 (((p.qB[counts.length]!).qE) * p.qJ)) (y_mul ((p.qB[counts.length]!).qE) p.qJ rfl rfl qg) S ?_
    refine rtp 9 (.int .i64 (((p.qB[counts.length]!).qE) * p.qJ)) S ?_
    refine xI qi (t_n (xP ?_))
    have rok:yQ p (p.qB[counts.length]!):=p0.2 _ qg
    obtain ⟨own,hown⟩:∃ z:Nat,z=pOwn p (p.qB[counts.length]!):=⟨_,rfl⟩
    rw [show ((p.qB[counts.length]!).qE) * p.qJ=(own:Int) by rw [hown];exact pown_eq p0.1 rok.1.1]
    have tq:=TkGeo.of p0.1 rok hown fl
    have qk:=pK_eq p0.1
    have lo:=jF p0.1 rok.2.1
    have li:=jF p0.1 rok.2.2.1
    have lf:=p0.1.2.2.1
    refine xJ (sps [.pointer (some ⟨bp,op,none⟩),.pointer (some ⟨b107,o108+(counts.length:Int).toNat * 3,none⟩),.pointer (some ⟨b107,o108+(counts.length:Int).toNat * 3,none⟩)] (oF rfl (oL rfl (H.xU 2 rfl 0 rfl) (sw (oq (l06At_ok _ p ((p.qB[counts.length]!).qE) (qN (H.get 3 rfl) 0 4) (H.get 4 rfl).1 (H.get 5 rfl).1 (H.get 6 rfl).1 (by exact p0.1) (by exact rok.1)) H fun w113 H=>sp (.int .i64 (pAt p ((p.qB[counts.length]!).qE))) (zjc (sp (.bool true) (zjcc (sp (.int .i64 0) (zjn (xm ?_)))))))))))
    refine zK (fun m' ρ w115=>∃ (zu:Env) (ok_51:Bool) (k_52:Nat) (flat_52:yLI),ρ=upd (upd (upd (upd (upd (upd (upd (upd zu 0 (.pointer (some ⟨bp,op,none⟩))) 1 (.slice a73 left.length c74)) 2 (.pointer (some ⟨b107,o108+(counts.length:Int).toNat * 3,none⟩))) 3 (.int .i64 1)) 9 (.int .i64 own)) 10 (.int .i64 (pAt p ((p.qB[counts.length]!).qE)))) 11 (.bool ok_51)) 12 (.int .i64 k_52)∧ok_51=dec (TkOk own (pAt p (p.qB[counts.length]!).qE) (Opens p (p.qB[counts.length]!).qE) (p.qB[counts.length]!).qU (p.qB[counts.length]!).fIn 1 (xF p s (counts++[(n:Int)]) (counts.length+1)) k_52)∧flat_52=(xH own (pAt p (p.qB[counts.length]!).qE) (Opens p (p.qB[counts.length]!).qE) (p.qB[counts.length]!).qU (p.qB[counts.length]!).fIn 1 (xF p s (counts++[(n:Int)]) (counts.length+1)) k_52)∧((k_52:Int)≤p.qJ)∧m' =(p.qJ - (k_52:Int)).toNat∧Fresh W0.heap.size (rF105 :: G96 :: Ns)∧St W0 w115 ((.box bx [.pointer (some ⟨bp,op,none⟩),.int .i64 mode,.int .i64 ((gath2 (fun l=>Chosen p s l mode) false (((gath2 (fun l=>Chosen p s l mode) false (fit,out) (xO p s (f - 1) counts n)).1),((gath2 (fun l=>Chosen p s l mode) false (fit,out) (xO p s (f - 1) counts n)).2)) (leaves p s (f - 1) (counts++[(n:Int)]))).1),.slice ra101 (((gath2 (fun l=>Chosen p s l mode) false (((gath2 (fun l=>Chosen p s l mode) false (fit,out) (xO p s (f - 1) counts n)).1),((gath2 (fun l=>Chosen p s l mode) false (fit,out) (xO p s (f - 1) counts n)).2)) (leaves p s (f - 1) (counts++[(n:Int)]))).2).length) rc103] 109) :: (rr ra101 (((gath2 (fun l=>Chosen p s l mode) false (((gath2 (fun l=>Chosen p s l mode) false (fit,out) (xO p s (f - 1) counts n)).1),((gath2 (fun l=>Chosen p s l mode) false (fit,out) (xO p s (f - 1) counts n)).2)) (leaves p s (f - 1) (counts++[(n:Int)]))).2).length) rc103 22 1 rx104) :: (rr a73 left.length c74 2 1 (flat_52.map (Value.int .i64))) :: (.box b91 [.int .i64 n] 2) :: (rr none 0 0 0 1 []) :: (rr ralf left.length rclf 2 1 (left.map (Value.int .i64))) :: ps) ((sF false Fe110Out ae110Out ce110Out ((p.qB[counts.length]!).qU)) :: (sF false Fe110In ae110In ce110In ((p.qB[counts.length]!).fIn)) :: (atF b107 (o108+(counts.length:Int).toNat * 3) [.int .i64 ((p.qB[counts.length]!).qE),.slice ae110Out (((p.qB[counts.length]!).qU).length) ce110Out,.slice ae110In (((p.qB[counts.length]!).fIn).length) ce110In]) :: (atF bp op [.int .i64 p.qJ,.slice apa p.qC.length cpa,.slice apf p.qL.length cpf,.slice (some ⟨b107,o108,none⟩) p.qB.length cpr]) :: (sF false Fpa apa cpa p.qC) :: (sF false Fpf apf cpf p.qL) :: (sF false Fpr (some ⟨b107,o108,none⟩) cpr p.qB) :: (sF false G96 a93 c94 (counts++[(n:Int)])) :: (xW true rF105 rx104 ((gath2 (fun l=>Chosen p s l mode) false (((gath2 (fun l=>Chosen p s l mode) false (fit,out) (xO p s (f - 1) counts n)).1),((gath2 (fun l=>Chosen p s l mode) false (fit,out) (xO p s (f - 1) counts n)).2)) (leaves p s (f - 1) (counts++[(n:Int)]))).2)) :: (isF false G96 (.slice a93 (counts.length+1) c94) (counts++[(n:Int)])) :: (isF true G96 (.slice a93 (counts.length+1) c94) (counts++[(n:Int)])) :: (sF false Fcounts acounts ccounts counts) :: Γ)) ((p.qJ - (0:Int)).toNat) ⟨_,true,0,(xF p s (counts++[(n:Int)]) (counts.length+1)),uE8,(by exact (yw (TkOk.zero _ _ _ _ _ _ _)).symm),(by rfl),qg,rfl,N,H⟩ ?_
    clear H N
    rintro m' ρ w116 ⟨zu,ok_51,k_52,flat_52,rfl,rfl,rfl,i0,rfl,N,H⟩
    have hn_flat:=H.y9 2 rfl
    refine zcc (sps [.int .i64 k_52,.pointer (some ⟨bp,op,none⟩),.pointer (some ⟨bp,op,none⟩)] (oF rfl (oL rfl (H.xU 3 rfl 0 rfl) (sp (.bool (decide ((k_52:Int) < p.qJ))) (zjn (cD rfl (fun h117=>?_) (fun h117=>?_)))))))
    ·skip
     have ta:TkAt p (p.qB[counts.length]!) own (xF p s (counts++[(n:Int)]) (counts.length+1)) (xH own (pAt p (p.qB[counts.length]!).qE) (Opens p (p.qB[counts.length]!).qE) (p.qB[counts.length]!).qU (p.qB[counts.length]!).fIn 1 (xF p s (counts++[(n:Int)]) (counts.length+1)) k_52) 1 k_52:=TkAt.of p0.1 rok tq tb qg
     obtain ⟨r1,r2,r3⟩:=ta.read
     obtain ⟨y1,y2,y3,y4,y5,y6,y7,y8⟩:=ta
     have z1:=fb _ y5
     have z2:=fb _ y6
     have fs:=flat_le p0.1 fl
     refine xf (t_n (xP (xm (xP ?_))))
     refine c_drawK2 rfl H [0,1,3,4,5] [0,1,2,3,4,5,6,7,8,9,10,11] fun H=>?_
     have S:=H.zq [0,1,3,4,5] [0,1,2,3,4,5,6,7,8,9,10,11]
     refine rtp 0 (.slice a73 left.length c74) S ?_
     refine rtp 1 (.int .i64 own) S ?_
     refine rtp 2 (.int .i64 k_52) S ?_
     refine rt 3 (.int .i64 (own+k_52)) (y_add own k_52 rfl rfl qg) S ?_
     obtain ⟨b119,rfl⟩:=H.yg 2 rfl qg
     have S:=H.zq [0,1,3,4,5] [0,1,2,3,4,5,6,7,8,9,10,11]
     refine tI 4 rfl rfl rfl S ?_
     refine rtp 6 (.pointer (some ⟨b107,o108+(counts.length:Int).toNat * 3,none⟩)) S ?_
     refine rtp 7 (.pointer (some ⟨b107,o108+(counts.length:Int).toNat * 3,none⟩)) S ?_
     refine tF 8 rfl rfl S ?_
     refine tL 9 rfl rfl (fun _ h=>h.xU 2 rfl 1 rfl) S ?_
     refine rtp 10 (.int .i64 k_52) S ?_
     obtain ⟨b120,o121,rfl⟩:=H.addr 0 rfl qg
     have S:=H.zq [0,1,3,4,5] [0,1,2,3,4,5,6,7,8,9,10,11]
     refine tI 11 rfl rfl rfl S ?_
     refine tL 12 rfl rfl (fun _ h=>h.vT 0 rfl k_52 qg) S ?_
     refine rtp 13 (.int .i64 1) S ?_
     refine rt 14 (.int .i64 ((((p.qB[counts.length]!).qU)[k_52]!) * 1)) (y_mul (((p.qB[counts.length]!).qU)[k_52]!) 1 rfl rfl qg) S ?_
     refine ro 5 rfl (xY (.int .i64 ((xH own (pAt p (p.qB[counts.length]!).qE) (Opens p (p.qB[counts.length]!).qE) (p.qB[counts.length]!).qU (p.qB[counts.length]!).fIn 1 (xF p s (counts++[(n:Int)]) (counts.length+1)) k_52)[own+k_52]!)) Tryz.isAgg2 rfl (H.yE 2 rfl (iv:=own+k_52) (i:=(own+k_52)) qg qg) (⟨H.pick [0,1,3,4,5] [0,1,2,3,4,5,6,7,8,9,10,11],?_⟩))
     have S:=H.zq [0,1,3,4,5] [0,1,2,3,4,5,6,7,8,9,10,11]
     refine rt 15 (.int .i64 (((xH own (pAt p (p.qB[counts.length]!).qE) (Opens p (p.qB[counts.length]!).qE) (p.qB[counts.length]!).qU (p.qB[counts.length]!).fIn 1 (xF p s (counts++[(n:Int)]) (counts.length+1)) k_52)[own+k_52]!) - ((((p.qB[counts.length]!).qU)[k_52]!) * 1))) (y_sub ((xH own (pAt p (p.qB[counts.length]!).qE) (Opens p (p.qB[counts.length]!).qE) (p.qB[counts.length]!).qU (p.qB[counts.length]!).fIn 1 (xF p s (counts++[(n:Int)]) (counts.length+1)) k_52)[own+k_52]!) ((((p.qB[counts.length]!).qU)[k_52]!) * 1) rfl rfl qg) S ?_
     refine tI 16 rfl rfl rfl S ?_
     refine ro 17 rfl (vg H 2 rfl (((xH own (pAt p (p.qB[counts.length]!).qE) (Opens p (p.qB[counts.length]!).qE) (p.qB[counts.length]!).qU (p.qB[counts.length]!).fIn 1 (xF p s (counts++[(n:Int)]) (counts.length+1)) k_52)[own+k_52]!) - ((((p.qB[counts.length]!).qU)[k_52]!) * 1)) Tryz.sizeOf2 rfl rfl (i:=(own+k_52)) qg qg fun w123 H=>?_)
     try dsimp only [List.set] at H
     refine ⟨H.pick [0,1,3,4,5] [0,1,2,3,4,5,6,7,8,9,10,11],(xI qi (t_n (zcr (sps [.bool (dec (TkOk own (pAt p (p.qB[counts.length]!).qE) (Opens p (p.qB[counts.length]!).qE) (p.qB[counts.length]!).qU (p.qB[counts.length]!).fIn 1 (xF p s (counts++[(n:Int)]) (counts.length+1)) k_52)),.bool (dec (TkOk own (pAt p (p.qB[counts.length]!).qE) (Opens p (p.qB[counts.length]!).qE) (p.qB[counts.length]!).qU (p.qB[counts.length]!).fIn 1 (xF p s (counts++[(n:Int)]) (counts.length+1)) k_52))] ?_))))⟩
     cases h124:((dec (TkOk own (pAt p (p.qB[counts.length]!).qE) (Opens p (p.qB[counts.length]!).qE) (p.qB[counts.length]!).qU (p.qB[counts.length]!).fIn 1 (xF p s (counts++[(n:Int)]) (counts.length+1)) k_52)))
     ·skip
      refine zG [55,56,57,58,59,60,61] (sps [.bool false,.bool false] (zjc (sps [.pointer (some ⟨b107,o108+(counts.length:Int).toNat * 3,none⟩),.pointer (some ⟨b107,o108+(counts.length:Int).toNat * 3,none⟩)] (oF rfl (oL rfl (H.xU 2 rfl 0 rfl) (sps [.bool (decide (((p.qB[counts.length]!).qE:Int) > 0)),.bool (decide (((p.qB[counts.length]!).qE:Int) > 0))] ?_))))))
      cases h125:(decide (((p.qB[counts.length]!).qE:Int) > 0))
      ·skip
       replace h125:=of_decide_eq_false h125
       refine qY 68 rfl rfl (sp (.pointer (some ⟨bp,op,none⟩)) (qY 68 rfl rfl (sp (.pointer (some ⟨bp,op,none⟩)) (qY 68 rfl rfl (oF rfl (qY 68 rfl rfl (oL rfl (H.xU 3 rfl 2 rfl) (qY 68 rfl rfl (sp (.int .i64 k_52) (qY 68 rfl rfl ?_))))))))))
       obtain ⟨b126,o127,rfl⟩:=H.addr 5 rfl qg
       refine oI rfl rfl (qY 68 rfl rfl (oL rfl (H.Qn 5 rfl k_52 qg qg) (qY 68 rfl rfl (sps [.bool (!(p.qL[k_52]!)),.bool (!(p.qL[k_52]!))] (zjn (xC (!(p.qL[k_52]!)) rfl (fun h129=>?_) (fun h129=>?_)))))))
       ·skip
        replace h129:=xB h129
        refine xP ?_
        refine c_drawK2 rfl H [0,1,3,4,5] [0,1,2,3,4,5,6,7,8,9,10,11] fun H=>?_
        have S:=H.zq [0,1,3,4,5] [0,1,2,3,4,5,6,7,8,9,10,11]
        refine rtp 0 (.slice (some ⟨b119,0,none⟩) left.length c74) S ?_
        refine rtp 1 (.int .i64 (pAt p ((p.qB[counts.length]!).qE))) S ?_
        refine rtp 2 (.int .i64 k_52) S ?_
        refine rt 3 (.int .i64 ((pAt p ((p.qB[counts.length]!).qE))+k_52)) (y_add (pAt p ((p.qB[counts.length]!).qE)) k_52 rfl rfl qg) S ?_
        refine tI 4 rfl rfl rfl S ?_
        refine rtp 6 (.pointer (some ⟨b107,o108+(counts.length:Int).toNat * 3,none⟩)) S ?_
        refine rtp 7 (.pointer (some ⟨b107,o108+(counts.length:Int).toNat * 3,none⟩)) S ?_
        refine tF 8 rfl rfl S ?_
        refine tL 9 rfl rfl (fun _ h=>h.xU 2 rfl 2 rfl) S ?_
        refine rtp 10 (.int .i64 k_52) S ?_
        obtain ⟨b131,o132,rfl⟩:=H.addr 1 rfl qg
        have S:=H.zq [0,1,3,4,5] [0,1,2,3,4,5,6,7,8,9,10,11]
        refine tI 11 rfl rfl rfl S ?_
        refine tL 12 rfl rfl (fun _ h=>h.vT 1 rfl k_52 qg) S ?_
        refine rtp 13 (.int .i64 1) S ?_
        refine rt 14 (.int .i64 ((((p.qB[counts.length]!).fIn)[k_52]!) * 1)) (y_mul (((p.qB[counts.length]!).fIn)[k_52]!) 1 rfl rfl qg) S ?_
        refine ro 5 rfl ?_
        refine xY (.int .i64 (((xH own (pAt p (p.qB[counts.length]!).qE) (Opens p (p.qB[counts.length]!).qE) (p.qB[counts.length]!).qU (p.qB[counts.length]!).fIn 1 (xF p s (counts++[(n:Int)]) (counts.length+1)) k_52).set (own+k_52) (((xH own (pAt p (p.qB[counts.length]!).qE) (Opens p (p.qB[counts.length]!).qE) (p.qB[counts.length]!).qU (p.qB[counts.length]!).fIn 1 (xF p s (counts++[(n:Int)]) (counts.length+1)) k_52)[own+k_52]!) - ((((p.qB[counts.length]!).qU)[k_52]!) * 1)))[(pAt p ((p.qB[counts.length]!).qE))+k_52]!)) Tryz.isAgg2 rfl (H.yE 2 rfl (iv:=(pAt p ((p.qB[counts.length]!).qE))+k_52) (i:=((pAt p ((p.qB[counts.length]!).qE))+k_52)) qg qg) ?_
        refine ⟨H.pick [0,1,3,4,5] [0,1,2,3,4,5,6,7,8,9,10,11],?_⟩
        have S:=H.zq [0,1,3,4,5] [0,1,2,3,4,5,6,7,8,9,10,11]
        refine rt 15 (.int .i64 ((((xH own (pAt p (p.qB[counts.length]!).qE) (Opens p (p.qB[counts.length]!).qE) (p.qB[counts.length]!).qU (p.qB[counts.length]!).fIn 1 (xF p s (counts++[(n:Int)]) (counts.length+1)) k_52).set (own+k_52) (((xH own (pAt p (p.qB[counts.length]!).qE) (Opens p (p.qB[counts.length]!).qE) (p.qB[counts.length]!).qU (p.qB[counts.length]!).fIn 1 (xF p s (counts++[(n:Int)]) (counts.length+1)) k_52)[own+k_52]!) - ((((p.qB[counts.length]!).qU)[k_52]!) * 1)))[(pAt p ((p.qB[counts.length]!).qE))+k_52]!) - ((((p.qB[counts.length]!).fIn)[k_52]!) * 1))) (y_sub (((xH own (pAt p (p.qB[counts.length]!).qE) (Opens p (p.qB[counts.length]!).qE) (p.qB[counts.length]!).qU (p.qB[counts.length]!).fIn 1 (xF p s (counts++[(n:Int)]) (counts.length+1)) k_52).set (own+k_52) (((xH own (pAt p (p.qB[counts.length]!).qE) (Opens p (p.qB[counts.length]!).qE) (p.qB[counts.length]!).qU (p.qB[counts.length]!).fIn 1 (xF p s (counts++[(n:Int)]) (counts.length+1)) k_52)[own+k_52]!) - ((((p.qB[counts.length]!).qU)[k_52]!) * 1)))[(pAt p ((p.qB[counts.length]!).qE))+k_52]!) ((((p.qB[counts.length]!).fIn)[k_52]!) * 1) rfl rfl qg) S ?_
        refine tI 16 rfl rfl rfl S ?_
        refine ro 17 rfl ?_
        refine vg H 2 rfl ((((xH own (pAt p (p.qB[counts.length]!).qE) (Opens p (p.qB[counts.length]!).qE) (p.qB[counts.length]!).qU (p.qB[counts.length]!).fIn 1 (xF p s (counts++[(n:Int)]) (counts.length+1)) k_52).set (own+k_52) (((xH own (pAt p (p.qB[counts.length]!).qE) (Opens p (p.qB[counts.length]!).qE) (p.qB[counts.length]!).qU (p.qB[counts.length]!).fIn 1 (xF p s (counts++[(n:Int)]) (counts.length+1)) k_52)[own+k_52]!) - ((((p.qB[counts.length]!).qU)[k_52]!) * 1)))[(pAt p ((p.qB[counts.length]!).qE))+k_52]!) - ((((p.qB[counts.length]!).fIn)[k_52]!) * 1)) Tryz.sizeOf2 rfl rfl (i:=((pAt p ((p.qB[counts.length]!).qE))+k_52)) qg qg fun w134 H=>?_
        try dsimp only [List.set] at H
        refine ⟨H.pick [0,1,3,4,5] [0,1,2,3,4,5,6,7,8,9,10,11],(xI qi (t_n (xJ (sps [.bool false,.bool false] (zG [97,98,99,100,101,102,103] (sps [.bool false,.bool false] (xN (b_n (t_n (xJ (sp (.int .i64 k_52) (sw (xX k_52 1 rfl rfl qg (sp (.int .i64 (k_52+1)) (xN ?_)))))))))))))))⟩
        refine xg (m' :=(p.qJ - ((k_52+1):Int)).toNat) qg ⟨_,false,k_52+1,(((xH own (pAt p (p.qB[counts.length]!).qE) (Opens p (p.qB[counts.length]!).qE) (p.qB[counts.length]!).qU (p.qB[counts.length]!).fIn 1 (xF p s (counts++[(n:Int)]) (counts.length+1)) k_52).set (own+k_52) (((xH own (pAt p (p.qB[counts.length]!).qE) (Opens p (p.qB[counts.length]!).qE) (p.qB[counts.length]!).qU (p.qB[counts.length]!).fIn 1 (xF p s (counts++[(n:Int)]) (counts.length+1)) k_52)[own+k_52]!) - ((((p.qB[counts.length]!).qU)[k_52]!) * 1))).set ((pAt p ((p.qB[counts.length]!).qE))+k_52) ((((xH own (pAt p (p.qB[counts.length]!).qE) (Opens p (p.qB[counts.length]!).qE) (p.qB[counts.length]!).qU (p.qB[counts.length]!).fIn 1 (xF p s (counts++[(n:Int)]) (counts.length+1)) k_52).set (own+k_52) (((xH own (pAt p (p.qB[counts.length]!).qE) (Opens p (p.qB[counts.length]!).qE) (p.qB[counts.length]!).qU (p.qB[counts.length]!).fIn 1 (xF p s (counts++[(n:Int)]) (counts.length+1)) k_52)[own+k_52]!) - ((((p.qB[counts.length]!).qU)[k_52]!) * 1)))[(pAt p ((p.qB[counts.length]!).qE))+k_52]!) - ((((p.qB[counts.length]!).fIn)[k_52]!) * 1))),uE8,?_,?_,?_,rfl,N,H⟩
        · first | exact jZ (zy qm) | exact Ql qg | exact yc (zZ qm) qg (by first | exact .inl qg | exact .inr ‹p.qL[k_52]! =false› | exact .inr (by simp_all)) qg | exact jY (zZ qm) (by first | assumption | (rintro (h | h);omega;exact absurd ‹p.qL[k_52]! =true› (by rw [h];decide)) | (rintro (h | h);omega;simp_all)) qg
        · first | exact jW (by first | exact .inl qg | exact .inr ‹p.qL[k_52]! =false› | exact .inr (by simp_all)) | exact vG (by first | assumption | (rintro (h | h);omega;exact absurd ‹p.qL[k_52]! =true› (by rw [h];decide)) | (rintro (h | h);omega;simp_all))
        · omega
       ·skip
        replace h129:=xq h129
        refine xf (b_n (t_n (xJ (sp (.int .i64 k_52) (sw (xX k_52 1 rfl rfl qg (sp (.int .i64 (k_52+1)) (xN ?_))))))))
        refine xg (m' :=(p.qJ - ((k_52+1):Int)).toNat) qg ⟨_,false,k_52+1,((xH own (pAt p (p.qB[counts.length]!).qE) (Opens p (p.qB[counts.length]!).qE) (p.qB[counts.length]!).qU (p.qB[counts.length]!).fIn 1 (xF p s (counts++[(n:Int)]) (counts.length+1)) k_52).set (own+k_52) (((xH own (pAt p (p.qB[counts.length]!).qE) (Opens p (p.qB[counts.length]!).qE) (p.qB[counts.length]!).qU (p.qB[counts.length]!).fIn 1 (xF p s (counts++[(n:Int)]) (counts.length+1)) k_52)[own+k_52]!) - ((((p.qB[counts.length]!).qU)[k_52]!) * 1))),uE8,?_,?_,?_,rfl,N,H⟩
        · first | exact jZ (zy qm) | exact Ql qg | exact yc (zZ qm) qg (by first | exact .inl qg | exact .inr ‹p.qL[k_52]! =false› | exact .inr (by simp_all)) qg | exact jY (zZ qm) (by first | assumption | (rintro (h | h);omega;exact absurd ‹p.qL[k_52]! =true› (by rw [h];decide)) | (rintro (h | h);omega;simp_all)) qg
        · first | exact jW (by first | exact .inl qg | exact .inr ‹p.qL[k_52]! =false› | exact .inr (by simp_all)) | exact vG (by first | assumption | (rintro (h | h);omega;exact absurd ‹p.qL[k_52]! =true› (by rw [h];decide)) | (rintro (h | h);omega;simp_all))
        · omega
      ·skip
       replace h125:=of_decide_eq_true h125
       refine zG [69,70,71,72,73,74,75,76] (sp (.bool true) (zjn (xC true rfl (fun _=>xP ?_) (fun h=>absurd h qj))))
       refine c_drawK2 rfl H [0,1,3,4,5] [0,1,2,3,4,5,6,7,8,9,10,11] fun H=>?_
       have S:=H.zq [0,1,3,4,5] [0,1,2,3,4,5,6,7,8,9,10,11]
       refine rtp 0 (.slice (some ⟨b119,0,none⟩) left.length c74) S ?_
       refine rtp 1 (.int .i64 (pAt p ((p.qB[counts.length]!).qE))) S ?_
       refine rtp 2 (.int .i64 k_52) S ?_
       refine rt 3 (.int .i64 ((pAt p ((p.qB[counts.length]!).qE))+k_52)) (y_add (pAt p ((p.qB[counts.length]!).qE)) k_52 rfl rfl qg) S ?_
       refine tI 4 rfl rfl rfl S ?_
       refine rtp 6 (.pointer (some ⟨b107,o108+(counts.length:Int).toNat * 3,none⟩)) S ?_
       refine rtp 7 (.pointer (some ⟨b107,o108+(counts.length:Int).toNat * 3,none⟩)) S ?_
       refine tF 8 rfl rfl S ?_
       refine tL 9 rfl rfl (fun _ h=>h.xU 2 rfl 2 rfl) S ?_
       refine rtp 10 (.int .i64 k_52) S ?_
       obtain ⟨b136,o137,rfl⟩:=H.addr 1 rfl qg
       have S:=H.zq [0,1,3,4,5] [0,1,2,3,4,5,6,7,8,9,10,11]
       refine tI 11 rfl rfl rfl S ?_
       refine tL 12 rfl rfl (fun _ h=>h.vT 1 rfl k_52 qg) S ?_
       refine rtp 13 (.int .i64 1) S ?_
       refine rt 14 (.int .i64 ((((p.qB[counts.length]!).fIn)[k_52]!) * 1)) (y_mul (((p.qB[counts.length]!).fIn)[k_52]!) 1 rfl rfl qg) S ?_
       refine ro 5 rfl ?_
       refine xY (.int .i64 (((xH own (pAt p (p.qB[counts.length]!).qE) (Opens p (p.qB[counts.length]!).qE) (p.qB[counts.length]!).qU (p.qB[counts.length]!).fIn 1 (xF p s (counts++[(n:Int)]) (counts.length+1)) k_52).set (own+k_52) (((xH own (pAt p (p.qB[counts.length]!).qE) (Opens p (p.qB[counts.length]!).qE) (p.qB[counts.length]!).qU (p.qB[counts.length]!).fIn 1 (xF p s (counts++[(n:Int)]) (counts.length+1)) k_52)[own+k_52]!) - ((((p.qB[counts.length]!).qU)[k_52]!) * 1)))[(pAt p ((p.qB[counts.length]!).qE))+k_52]!)) Tryz.isAgg2 rfl (H.yE 2 rfl (iv:=(pAt p ((p.qB[counts.length]!).qE))+k_52) (i:=((pAt p ((p.qB[counts.length]!).qE))+k_52)) qg qg) ?_
       refine ⟨H.pick [0,1,3,4,5] [0,1,2,3,4,5,6,7,8,9,10,11],?_⟩
       have S:=H.zq [0,1,3,4,5] [0,1,2,3,4,5,6,7,8,9,10,11]
       refine rt 15 (.int .i64 ((((xH own (pAt p (p.qB[counts.length]!).qE) (Opens p (p.qB[counts.length]!).qE) (p.qB[counts.length]!).qU (p.qB[counts.length]!).fIn 1 (xF p s (counts++[(n:Int)]) (counts.length+1)) k_52).set (own+k_52) (((xH own (pAt p (p.qB[counts.length]!).qE) (Opens p (p.qB[counts.length]!).qE) (p.qB[counts.length]!).qU (p.qB[counts.length]!).fIn 1 (xF p s (counts++[(n:Int)]) (counts.length+1)) k_52)[own+k_52]!) - ((((p.qB[counts.length]!).qU)[k_52]!) * 1)))[(pAt p ((p.qB[counts.length]!).qE))+k_52]!) - ((((p.qB[counts.length]!).fIn)[k_52]!) * 1))) (y_sub (((xH own (pAt p (p.qB[counts.length]!).qE) (Opens p (p.qB[counts.length]!).qE) (p.qB[counts.length]!).qU (p.qB[counts.length]!).fIn 1 (xF p s (counts++[(n:Int)]) (counts.length+1)) k_52).set (own+k_52) (((xH own (pAt p (p.qB[counts.length]!).qE) (Opens p (p.qB[counts.length]!).qE) (p.qB[counts.length]!).qU (p.qB[counts.length]!).fIn 1 (xF p s (counts++[(n:Int)]) (counts.length+1)) k_52)[own+k_52]!) - ((((p.qB[counts.length]!).qU)[k_52]!) * 1)))[(pAt p ((p.qB[counts.length]!).qE))+k_52]!) ((((p.qB[counts.length]!).fIn)[k_52]!) * 1) rfl rfl qg) S ?_
       refine tI 16 rfl rfl rfl S ?_
       refine ro 17 rfl ?_
       refine vg H 2 rfl ((((xH own (pAt p (p.qB[counts.length]!).qE) (Opens p (p.qB[counts.length]!).qE) (p.qB[counts.length]!).qU (p.qB[counts.length]!).fIn 1 (xF p s (counts++[(n:Int)]) (counts.length+1)) k_52).set (own+k_52) (((xH own (pAt p (p.qB[counts.length]!).qE) (Opens p (p.qB[counts.length]!).qE) (p.qB[counts.length]!).qU (p.qB[counts.length]!).fIn 1 (xF p s (counts++[(n:Int)]) (counts.length+1)) k_52)[own+k_52]!) - ((((p.qB[counts.length]!).qU)[k_52]!) * 1)))[(pAt p ((p.qB[counts.length]!).qE))+k_52]!) - ((((p.qB[counts.length]!).fIn)[k_52]!) * 1)) Tryz.sizeOf2 rfl rfl (i:=((pAt p ((p.qB[counts.length]!).qE))+k_52)) qg qg fun w139 H=>?_
       try dsimp only [List.set] at H
       refine ⟨H.pick [0,1,3,4,5] [0,1,2,3,4,5,6,7,8,9,10,11],(xI qi (t_n (xJ (sps [.bool false,.bool false] (zG [97,98,99,100,101,102,103] (sps [.bool false,.bool false] (xN (b_n (t_n (xJ (sp (.int .i64 k_52) (sw (xX k_52 1 rfl rfl qg (sp (.int .i64 (k_52+1)) (xN ?_)))))))))))))))⟩
       refine xg (m' :=(p.qJ - ((k_52+1):Int)).toNat) qg ⟨_,false,k_52+1,(((xH own (pAt p (p.qB[counts.length]!).qE) (Opens p (p.qB[counts.length]!).qE) (p.qB[counts.length]!).qU (p.qB[counts.length]!).fIn 1 (xF p s (counts++[(n:Int)]) (counts.length+1)) k_52).set (own+k_52) (((xH own (pAt p (p.qB[counts.length]!).qE) (Opens p (p.qB[counts.length]!).qE) (p.qB[counts.length]!).qU (p.qB[counts.length]!).fIn 1 (xF p s (counts++[(n:Int)]) (counts.length+1)) k_52)[own+k_52]!) - ((((p.qB[counts.length]!).qU)[k_52]!) * 1))).set ((pAt p ((p.qB[counts.length]!).qE))+k_52) ((((xH own (pAt p (p.qB[counts.length]!).qE) (Opens p (p.qB[counts.length]!).qE) (p.qB[counts.length]!).qU (p.qB[counts.length]!).fIn 1 (xF p s (counts++[(n:Int)]) (counts.length+1)) k_52).set (own+k_52) (((xH own (pAt p (p.qB[counts.length]!).qE) (Opens p (p.qB[counts.length]!).qE) (p.qB[counts.length]!).qU (p.qB[counts.length]!).fIn 1 (xF p s (counts++[(n:Int)]) (counts.length+1)) k_52)[own+k_52]!) - ((((p.qB[counts.length]!).qU)[k_52]!) * 1)))[(pAt p ((p.qB[counts.length]!).qE))+k_52]!) - ((((p.qB[counts.length]!).fIn)[k_52]!) * 1))),uE8,?_,?_,?_,rfl,N,H⟩
       · first | exact jZ (zy qm) | exact Ql qg | exact yc (zZ qm) qg (by first | exact .inl qg | exact .inr ‹p.qL[k_52]! =false› | exact .inr (by simp_all)) qg | exact jY (zZ qm) (by first | assumption | (rintro (h | h);omega;exact absurd ‹p.qL[k_52]! =true› (by rw [h];decide)) | (rintro (h | h);omega;simp_all)) qg
       · first | exact jW (by first | exact .inl qg | exact .inr ‹p.qL[k_52]! =false› | exact .inr (by simp_all)) | exact vG (by first | assumption | (rintro (h | h);omega;exact absurd ‹p.qL[k_52]! =true› (by rw [h];decide)) | (rintro (h | h);omega;simp_all))
       · omega
     ·skip
      refine qY 54 rfl rfl (sp (.slice (some ⟨b119,0,none⟩) left.length c74) (qY 54 rfl rfl (sp (.int .i64 own) (qY 54 rfl rfl (sp (.int .i64 k_52) (qY 54 rfl rfl (sw (xX own k_52 rfl rfl qg (qY 54 rfl rfl (oI rfl rfl (qY 54 rfl rfl (oL rfl (H.yE 2 rfl (iv:=own+k_52) (i:=(own+k_52)) qg qg) (qY 54 rfl rfl ?_)))))))))))))
      refine sps [.bool (decide ((((xH own (pAt p (p.qB[counts.length]!).qE) (Opens p (p.qB[counts.length]!).qE) (p.qB[counts.length]!).qU (p.qB[counts.length]!).fIn 1 (xF p s (counts++[(n:Int)]) (counts.length+1)) k_52).set (own+k_52) (((xH own (pAt p (p.qB[counts.length]!).qE) (Opens p (p.qB[counts.length]!).qE) (p.qB[counts.length]!).qU (p.qB[counts.length]!).fIn 1 (xF p s (counts++[(n:Int)]) (counts.length+1)) k_52)[own+k_52]!) - ((((p.qB[counts.length]!).qU)[k_52]!) * 1)))[own+k_52]! :Int)≥0)),.bool (decide ((((xH own (pAt p (p.qB[counts.length]!).qE) (Opens p (p.qB[counts.length]!).qE) (p.qB[counts.length]!).qU (p.qB[counts.length]!).fIn 1 (xF p s (counts++[(n:Int)]) (counts.length+1)) k_52).set (own+k_52) (((xH own (pAt p (p.qB[counts.length]!).qE) (Opens p (p.qB[counts.length]!).qE) (p.qB[counts.length]!).qU (p.qB[counts.length]!).fIn 1 (xF p s (counts++[(n:Int)]) (counts.length+1)) k_52)[own+k_52]!) - ((((p.qB[counts.length]!).qU)[k_52]!) * 1)))[own+k_52]! :Int)≥0)),.bool (decide ((((xH own (pAt p (p.qB[counts.length]!).qE) (Opens p (p.qB[counts.length]!).qE) (p.qB[counts.length]!).qU (p.qB[counts.length]!).fIn 1 (xF p s (counts++[(n:Int)]) (counts.length+1)) k_52).set (own+k_52) (((xH own (pAt p (p.qB[counts.length]!).qE) (Opens p (p.qB[counts.length]!).qE) (p.qB[counts.length]!).qU (p.qB[counts.length]!).fIn 1 (xF p s (counts++[(n:Int)]) (counts.length+1)) k_52)[own+k_52]!) - ((((p.qB[counts.length]!).qU)[k_52]!) * 1)))[own+k_52]! :Int)≥0))] ?_
      refine zjc (sps [.pointer (some ⟨b107,o108+(counts.length:Int).toNat * 3,none⟩),.pointer (some ⟨b107,o108+(counts.length:Int).toNat * 3,none⟩)] (oF rfl (oL rfl (H.xU 2 rfl 0 rfl) (sps [.bool (decide (((p.qB[counts.length]!).qE:Int) > 0)),.bool (decide (((p.qB[counts.length]!).qE:Int) > 0))] ?_))))
      cases h140:(decide (((p.qB[counts.length]!).qE:Int) > 0))
      ·skip
       replace h140:=of_decide_eq_false h140
       refine qY 68 rfl rfl (sp (.pointer (some ⟨bp,op,none⟩)) (qY 68 rfl rfl (sp (.pointer (some ⟨bp,op,none⟩)) (qY 68 rfl rfl (oF rfl (qY 68 rfl rfl (oL rfl (H.xU 3 rfl 2 rfl) (qY 68 rfl rfl (sp (.int .i64 k_52) (qY 68 rfl rfl ?_))))))))))
       obtain ⟨b141,o142,rfl⟩:=H.addr 5 rfl qg
       refine oI rfl rfl (qY 68 rfl rfl (oL rfl (H.Qn 5 rfl k_52 qg qg) (qY 68 rfl rfl (sps [.bool (!(p.qL[k_52]!)),.bool (!(p.qL[k_52]!))] (zjn (xC (!(p.qL[k_52]!)) rfl (fun h144=>?_) (fun h144=>?_)))))))
       ·skip
        replace h144:=xB h144
        refine xP ?_
        refine c_drawK2 rfl H [0,1,3,4,5] [0,1,2,3,4,5,6,7,8,9,10,11] fun H=>?_
        have S:=H.zq [0,1,3,4,5] [0,1,2,3,4,5,6,7,8,9,10,11]
        refine rtp 0 (.slice (some ⟨b119,0,none⟩) left.length c74) S ?_
        refine rtp 1 (.int .i64 (pAt p ((p.qB[counts.length]!).qE))) S ?_
        refine rtp 2 (.int .i64 k_52) S ?_
        refine rt 3 (.int .i64 ((pAt p ((p.qB[counts.length]!).qE))+k_52)) (y_add (pAt p ((p.qB[counts.length]!).qE)) k_52 rfl rfl qg) S ?_
        refine tI 4 rfl rfl rfl S ?_
        refine rtp 6 (.pointer (some ⟨b107,o108+(counts.length:Int).toNat * 3,none⟩)) S ?_
        refine rtp 7 (.pointer (some ⟨b107,o108+(counts.length:Int).toNat * 3,none⟩)) S ?_
        refine tF 8 rfl rfl S ?_
        refine tL 9 rfl rfl (fun _ h=>h.xU 2 rfl 2 rfl) S ?_
        refine rtp 10 (.int .i64 k_52) S ?_
        obtain ⟨b146,o147,rfl⟩:=H.addr 1 rfl qg
        have S:=H.zq [0,1,3,4,5] [0,1,2,3,4,5,6,7,8,9,10,11]
        refine tI 11 rfl rfl rfl S ?_
        refine tL 12 rfl rfl (fun _ h=>h.vT 1 rfl k_52 qg) S ?_
        refine rtp 13 (.int .i64 1) S ?_
        refine rt 14 (.int .i64 ((((p.qB[counts.length]!).fIn)[k_52]!) * 1)) (y_mul (((p.qB[counts.length]!).fIn)[k_52]!) 1 rfl rfl qg) S ?_
        refine ro 5 rfl ?_
        refine xY (.int .i64 (((xH own (pAt p (p.qB[counts.length]!).qE) (Opens p (p.qB[counts.length]!).qE) (p.qB[counts.length]!).qU (p.qB[counts.length]!).fIn 1 (xF p s (counts++[(n:Int)]) (counts.length+1)) k_52).set (own+k_52) (((xH own (pAt p (p.qB[counts.length]!).qE) (Opens p (p.qB[counts.length]!).qE) (p.qB[counts.length]!).qU (p.qB[counts.length]!).fIn 1 (xF p s (counts++[(n:Int)]) (counts.length+1)) k_52)[own+k_52]!) - ((((p.qB[counts.length]!).qU)[k_52]!) * 1)))[(pAt p ((p.qB[counts.length]!).qE))+k_52]!)) Tryz.isAgg2 rfl (H.yE 2 rfl (iv:=(pAt p ((p.qB[counts.length]!).qE))+k_52) (i:=((pAt p ((p.qB[counts.length]!).qE))+k_52)) qg qg) ?_
        refine ⟨H.pick [0,1,3,4,5] [0,1,2,3,4,5,6,7,8,9,10,11],?_⟩
        have S:=H.zq [0,1,3,4,5] [0,1,2,3,4,5,6,7,8,9,10,11]
        refine rt 15 (.int .i64 ((((xH own (pAt p (p.qB[counts.length]!).qE) (Opens p (p.qB[counts.length]!).qE) (p.qB[counts.length]!).qU (p.qB[counts.length]!).fIn 1 (xF p s (counts++[(n:Int)]) (counts.length+1)) k_52).set (own+k_52) (((xH own (pAt p (p.qB[counts.length]!).qE) (Opens p (p.qB[counts.length]!).qE) (p.qB[counts.length]!).qU (p.qB[counts.length]!).fIn 1 (xF p s (counts++[(n:Int)]) (counts.length+1)) k_52)[own+k_52]!) - ((((p.qB[counts.length]!).qU)[k_52]!) * 1)))[(pAt p ((p.qB[counts.length]!).qE))+k_52]!) - ((((p.qB[counts.length]!).fIn)[k_52]!) * 1))) (y_sub (((xH own (pAt p (p.qB[counts.length]!).qE) (Opens p (p.qB[counts.length]!).qE) (p.qB[counts.length]!).qU (p.qB[counts.length]!).fIn 1 (xF p s (counts++[(n:Int)]) (counts.length+1)) k_52).set (own+k_52) (((xH own (pAt p (p.qB[counts.length]!).qE) (Opens p (p.qB[counts.length]!).qE) (p.qB[counts.length]!).qU (p.qB[counts.length]!).fIn 1 (xF p s (counts++[(n:Int)]) (counts.length+1)) k_52)[own+k_52]!) - ((((p.qB[counts.length]!).qU)[k_52]!) * 1)))[(pAt p ((p.qB[counts.length]!).qE))+k_52]!) ((((p.qB[counts.length]!).fIn)[k_52]!) * 1) rfl rfl qg) S ?_
        refine tI 16 rfl rfl rfl S ?_
        refine ro 17 rfl ?_
        refine vg H 2 rfl ((((xH own (pAt p (p.qB[counts.length]!).qE) (Opens p (p.qB[counts.length]!).qE) (p.qB[counts.length]!).qU (p.qB[counts.length]!).fIn 1 (xF p s (counts++[(n:Int)]) (counts.length+1)) k_52).set (own+k_52) (((xH own (pAt p (p.qB[counts.length]!).qE) (Opens p (p.qB[counts.length]!).qE) (p.qB[counts.length]!).qU (p.qB[counts.length]!).fIn 1 (xF p s (counts++[(n:Int)]) (counts.length+1)) k_52)[own+k_52]!) - ((((p.qB[counts.length]!).qU)[k_52]!) * 1)))[(pAt p ((p.qB[counts.length]!).qE))+k_52]!) - ((((p.qB[counts.length]!).fIn)[k_52]!) * 1)) Tryz.sizeOf2 rfl rfl (i:=((pAt p ((p.qB[counts.length]!).qE))+k_52)) qg qg fun w149 H=>?_
        try dsimp only [List.set] at H
        refine ⟨H.pick [0,1,3,4,5] [0,1,2,3,4,5,6,7,8,9,10,11],(xI qi (t_n (xJ ?_)))⟩
        refine sps [.bool (decide ((((xH own (pAt p (p.qB[counts.length]!).qE) (Opens p (p.qB[counts.length]!).qE) (p.qB[counts.length]!).qU (p.qB[counts.length]!).fIn 1 (xF p s (counts++[(n:Int)]) (counts.length+1)) k_52).set (own+k_52) (((xH own (pAt p (p.qB[counts.length]!).qE) (Opens p (p.qB[counts.length]!).qE) (p.qB[counts.length]!).qU (p.qB[counts.length]!).fIn 1 (xF p s (counts++[(n:Int)]) (counts.length+1)) k_52)[own+k_52]!) - ((((p.qB[counts.length]!).qU)[k_52]!) * 1)))[own+k_52]! :Int)≥0)),.bool (decide ((((xH own (pAt p (p.qB[counts.length]!).qE) (Opens p (p.qB[counts.length]!).qE) (p.qB[counts.length]!).qU (p.qB[counts.length]!).fIn 1 (xF p s (counts++[(n:Int)]) (counts.length+1)) k_52).set (own+k_52) (((xH own (pAt p (p.qB[counts.length]!).qE) (Opens p (p.qB[counts.length]!).qE) (p.qB[counts.length]!).qU (p.qB[counts.length]!).fIn 1 (xF p s (counts++[(n:Int)]) (counts.length+1)) k_52)[own+k_52]!) - ((((p.qB[counts.length]!).qU)[k_52]!) * 1)))[own+k_52]! :Int)≥0))] ?_
        cases h150:(decide ((((xH own (pAt p (p.qB[counts.length]!).qE) (Opens p (p.qB[counts.length]!).qE) (p.qB[counts.length]!).qU (p.qB[counts.length]!).fIn 1 (xF p s (counts++[(n:Int)]) (counts.length+1)) k_52).set (own+k_52) (((xH own (pAt p (p.qB[counts.length]!).qE) (Opens p (p.qB[counts.length]!).qE) (p.qB[counts.length]!).qU (p.qB[counts.length]!).fIn 1 (xF p s (counts++[(n:Int)]) (counts.length+1)) k_52)[own+k_52]!) - ((((p.qB[counts.length]!).qU)[k_52]!) * 1)))[own+k_52]! :Int)≥0))
        ·skip
         replace h150:=of_decide_eq_false h150
         refine zG [97,98,99,100,101,102,103] (sps [.bool false,.bool false] (xN (b_n (t_n (xJ (sp (.int .i64 k_52) (sw (xX k_52 1 rfl rfl qg (sp (.int .i64 (k_52+1)) (xN ?_))))))))))
         refine xg (m' :=(p.qJ - ((k_52+1):Int)).toNat) qg ⟨_,false,k_52+1,(((xH own (pAt p (p.qB[counts.length]!).qE) (Opens p (p.qB[counts.length]!).qE) (p.qB[counts.length]!).qU (p.qB[counts.length]!).fIn 1 (xF p s (counts++[(n:Int)]) (counts.length+1)) k_52).set (own+k_52) (((xH own (pAt p (p.qB[counts.length]!).qE) (Opens p (p.qB[counts.length]!).qE) (p.qB[counts.length]!).qU (p.qB[counts.length]!).fIn 1 (xF p s (counts++[(n:Int)]) (counts.length+1)) k_52)[own+k_52]!) - ((((p.qB[counts.length]!).qU)[k_52]!) * 1))).set ((pAt p ((p.qB[counts.length]!).qE))+k_52) ((((xH own (pAt p (p.qB[counts.length]!).qE) (Opens p (p.qB[counts.length]!).qE) (p.qB[counts.length]!).qU (p.qB[counts.length]!).fIn 1 (xF p s (counts++[(n:Int)]) (counts.length+1)) k_52).set (own+k_52) (((xH own (pAt p (p.qB[counts.length]!).qE) (Opens p (p.qB[counts.length]!).qE) (p.qB[counts.length]!).qU (p.qB[counts.length]!).fIn 1 (xF p s (counts++[(n:Int)]) (counts.length+1)) k_52)[own+k_52]!) - ((((p.qB[counts.length]!).qU)[k_52]!) * 1)))[(pAt p ((p.qB[counts.length]!).qE))+k_52]!) - ((((p.qB[counts.length]!).fIn)[k_52]!) * 1))),uE8,?_,?_,?_,rfl,N,H⟩
         · first | exact jZ (zy qm) | exact Ql qg | exact yc (zZ qm) qg (by first | exact .inl qg | exact .inr ‹p.qL[k_52]! =false› | exact .inr (by simp_all)) qg | exact jY (zZ qm) (by first | assumption | (rintro (h | h);omega;exact absurd ‹p.qL[k_52]! =true› (by rw [h];decide)) | (rintro (h | h);omega;simp_all)) qg
         · first | exact jW (by first | exact .inl qg | exact .inr ‹p.qL[k_52]! =false› | exact .inr (by simp_all)) | exact vG (by first | assumption | (rintro (h | h);omega;exact absurd ‹p.qL[k_52]! =true› (by rw [h];decide)) | (rintro (h | h);omega;simp_all))
         · omega
        ·skip
         replace h150:=of_decide_eq_true h150
         refine qY 96 rfl rfl (sp (.slice (some ⟨b119,0,none⟩) left.length c74) (qY 96 rfl rfl (sp (.int .i64 (pAt p ((p.qB[counts.length]!).qE))) (qY 96 rfl rfl (sp (.int .i64 k_52) (qY 96 rfl rfl (sw (xX (pAt p ((p.qB[counts.length]!).qE)) k_52 rfl rfl qg (qY 96 rfl rfl (oI rfl rfl (qY 96 rfl rfl (oL rfl (H.yE 2 rfl (iv:=(pAt p ((p.qB[counts.length]!).qE))+k_52) (i:=((pAt p ((p.qB[counts.length]!).qE))+k_52)) qg qg) (qY 96 rfl rfl ?_)))))))))))))
         refine sps [.bool (decide (((((xH own (pAt p (p.qB[counts.length]!).qE) (Opens p (p.qB[counts.length]!).qE) (p.qB[counts.length]!).qU (p.qB[counts.length]!).fIn 1 (xF p s (counts++[(n:Int)]) (counts.length+1)) k_52).set (own+k_52) (((xH own (pAt p (p.qB[counts.length]!).qE) (Opens p (p.qB[counts.length]!).qE) (p.qB[counts.length]!).qU (p.qB[counts.length]!).fIn 1 (xF p s (counts++[(n:Int)]) (counts.length+1)) k_52)[own+k_52]!) - ((((p.qB[counts.length]!).qU)[k_52]!) * 1))).set ((pAt p ((p.qB[counts.length]!).qE))+k_52) ((((xH own (pAt p (p.qB[counts.length]!).qE) (Opens p (p.qB[counts.length]!).qE) (p.qB[counts.length]!).qU (p.qB[counts.length]!).fIn 1 (xF p s (counts++[(n:Int)]) (counts.length+1)) k_52).set (own+k_52) (((xH own (pAt p (p.qB[counts.length]!).qE) (Opens p (p.qB[counts.length]!).qE) (p.qB[counts.length]!).qU (p.qB[counts.length]!).fIn 1 (xF p s (counts++[(n:Int)]) (counts.length+1)) k_52)[own+k_52]!) - ((((p.qB[counts.length]!).qU)[k_52]!) * 1)))[(pAt p ((p.qB[counts.length]!).qE))+k_52]!) - ((((p.qB[counts.length]!).fIn)[k_52]!) * 1)))[(pAt p ((p.qB[counts.length]!).qE))+k_52]! :Int)≥0)),.bool (decide (((((xH own (pAt p (p.qB[counts.length]!).qE) (Opens p (p.qB[counts.length]!).qE) (p.qB[counts.length]!).qU (p.qB[counts.length]!).fIn 1 (xF p s (counts++[(n:Int)]) (counts.length+1)) k_52).set (own+k_52) (((xH own (pAt p (p.qB[counts.length]!).qE) (Opens p (p.qB[counts.length]!).qE) (p.qB[counts.length]!).qU (p.qB[counts.length]!).fIn 1 (xF p s (counts++[(n:Int)]) (counts.length+1)) k_52)[own+k_52]!) - ((((p.qB[counts.length]!).qU)[k_52]!) * 1))).set ((pAt p ((p.qB[counts.length]!).qE))+k_52) ((((xH own (pAt p (p.qB[counts.length]!).qE) (Opens p (p.qB[counts.length]!).qE) (p.qB[counts.length]!).qU (p.qB[counts.length]!).fIn 1 (xF p s (counts++[(n:Int)]) (counts.length+1)) k_52).set (own+k_52) (((xH own (pAt p (p.qB[counts.length]!).qE) (Opens p (p.qB[counts.length]!).qE) (p.qB[counts.length]!).qU (p.qB[counts.length]!).fIn 1 (xF p s (counts++[(n:Int)]) (counts.length+1)) k_52)[own+k_52]!) - ((((p.qB[counts.length]!).qU)[k_52]!) * 1)))[(pAt p ((p.qB[counts.length]!).qE))+k_52]!) - ((((p.qB[counts.length]!).fIn)[k_52]!) * 1)))[(pAt p ((p.qB[counts.length]!).qE))+k_52]! :Int)≥0)),.bool (decide (((((xH own (pAt p (p.qB[counts.length]!).qE) (Opens p (p.qB[counts.length]!).qE) (p.qB[counts.length]!).qU (p.qB[counts.length]!).fIn 1 (xF p s (counts++[(n:Int)]) (counts.length+1)) k_52).set (own+k_52) (((xH own (pAt p (p.qB[counts.length]!).qE) (Opens p (p.qB[counts.length]!).qE) (p.qB[counts.length]!).qU (p.qB[counts.length]!).fIn 1 (xF p s (counts++[(n:Int)]) (counts.length+1)) k_52)[own+k_52]!) - ((((p.qB[counts.length]!).qU)[k_52]!) * 1))).set ((pAt p ((p.qB[counts.length]!).qE))+k_52) ((((xH own (pAt p (p.qB[counts.length]!).qE) (Opens p (p.qB[counts.length]!).qE) (p.qB[counts.length]!).qU (p.qB[counts.length]!).fIn 1 (xF p s (counts++[(n:Int)]) (counts.length+1)) k_52).set (own+k_52) (((xH own (pAt p (p.qB[counts.length]!).qE) (Opens p (p.qB[counts.length]!).qE) (p.qB[counts.length]!).qU (p.qB[counts.length]!).fIn 1 (xF p s (counts++[(n:Int)]) (counts.length+1)) k_52)[own+k_52]!) - ((((p.qB[counts.length]!).qU)[k_52]!) * 1)))[(pAt p ((p.qB[counts.length]!).qE))+k_52]!) - ((((p.qB[counts.length]!).fIn)[k_52]!) * 1)))[(pAt p ((p.qB[counts.length]!).qE))+k_52]! :Int)≥0))] ?_
         refine xN (b_n (t_n (xJ (sp (.int .i64 k_52) (sw (xX k_52 1 rfl rfl qg (sp (.int .i64 (k_52+1)) (xN ?_))))))))
         refine xg (m' :=(p.qJ - ((k_52+1):Int)).toNat) qg ⟨_,decide (((((xH own (pAt p (p.qB[counts.length]!).qE) (Opens p (p.qB[counts.length]!).qE) (p.qB[counts.length]!).qU (p.qB[counts.length]!).fIn 1 (xF p s (counts++[(n:Int)]) (counts.length+1)) k_52).set (own+k_52) (((xH own (pAt p (p.qB[counts.length]!).qE) (Opens p (p.qB[counts.length]!).qE) (p.qB[counts.length]!).qU (p.qB[counts.length]!).fIn 1 (xF p s (counts++[(n:Int)]) (counts.length+1)) k_52)[own+k_52]!) - ((((p.qB[counts.length]!).qU)[k_52]!) * 1))).set ((pAt p ((p.qB[counts.length]!).qE))+k_52) ((((xH own (pAt p (p.qB[counts.length]!).qE) (Opens p (p.qB[counts.length]!).qE) (p.qB[counts.length]!).qU (p.qB[counts.length]!).fIn 1 (xF p s (counts++[(n:Int)]) (counts.length+1)) k_52).set (own+k_52) (((xH own (pAt p (p.qB[counts.length]!).qE) (Opens p (p.qB[counts.length]!).qE) (p.qB[counts.length]!).qU (p.qB[counts.length]!).fIn 1 (xF p s (counts++[(n:Int)]) (counts.length+1)) k_52)[own+k_52]!) - ((((p.qB[counts.length]!).qU)[k_52]!) * 1)))[(pAt p ((p.qB[counts.length]!).qE))+k_52]!) - ((((p.qB[counts.length]!).fIn)[k_52]!) * 1)))[(pAt p ((p.qB[counts.length]!).qE))+k_52]! :Int)≥0),k_52+1,(((xH own (pAt p (p.qB[counts.length]!).qE) (Opens p (p.qB[counts.length]!).qE) (p.qB[counts.length]!).qU (p.qB[counts.length]!).fIn 1 (xF p s (counts++[(n:Int)]) (counts.length+1)) k_52).set (own+k_52) (((xH own (pAt p (p.qB[counts.length]!).qE) (Opens p (p.qB[counts.length]!).qE) (p.qB[counts.length]!).qU (p.qB[counts.length]!).fIn 1 (xF p s (counts++[(n:Int)]) (counts.length+1)) k_52)[own+k_52]!) - ((((p.qB[counts.length]!).qU)[k_52]!) * 1))).set ((pAt p ((p.qB[counts.length]!).qE))+k_52) ((((xH own (pAt p (p.qB[counts.length]!).qE) (Opens p (p.qB[counts.length]!).qE) (p.qB[counts.length]!).qU (p.qB[counts.length]!).fIn 1 (xF p s (counts++[(n:Int)]) (counts.length+1)) k_52).set (own+k_52) (((xH own (pAt p (p.qB[counts.length]!).qE) (Opens p (p.qB[counts.length]!).qE) (p.qB[counts.length]!).qU (p.qB[counts.length]!).fIn 1 (xF p s (counts++[(n:Int)]) (counts.length+1)) k_52)[own+k_52]!) - ((((p.qB[counts.length]!).qU)[k_52]!) * 1)))[(pAt p ((p.qB[counts.length]!).qE))+k_52]!) - ((((p.qB[counts.length]!).fIn)[k_52]!) * 1))),uE8,?_,?_,?_,rfl,N,H⟩
         · first | exact jZ (zy qm) | exact Ql qg | exact yc (zZ qm) qg (by first | exact .inl qg | exact .inr ‹p.qL[k_52]! =false› | exact .inr (by simp_all)) qg | exact jY (zZ qm) (by first | assumption | (rintro (h | h);omega;exact absurd ‹p.qL[k_52]! =true› (by rw [h];decide)) | (rintro (h | h);omega;simp_all)) qg
         · first | exact jW (by first | exact .inl qg | exact .inr ‹p.qL[k_52]! =false› | exact .inr (by simp_all)) | exact vG (by first | assumption | (rintro (h | h);omega;exact absurd ‹p.qL[k_52]! =true› (by rw [h];decide)) | (rintro (h | h);omega;simp_all))
         · omega
       ·skip
        replace h144:=xq h144
        refine xf (b_n (t_n (xJ (sp (.int .i64 k_52) (sw (xX k_52 1 rfl rfl qg (sp (.int .i64 (k_52+1)) (xN ?_))))))))
        refine xg (m' :=(p.qJ - ((k_52+1):Int)).toNat) qg ⟨_,decide ((((xH own (pAt p (p.qB[counts.length]!).qE) (Opens p (p.qB[counts.length]!).qE) (p.qB[counts.length]!).qU (p.qB[counts.length]!).fIn 1 (xF p s (counts++[(n:Int)]) (counts.length+1)) k_52).set (own+k_52) (((xH own (pAt p (p.qB[counts.length]!).qE) (Opens p (p.qB[counts.length]!).qE) (p.qB[counts.length]!).qU (p.qB[counts.length]!).fIn 1 (xF p s (counts++[(n:Int)]) (counts.length+1)) k_52)[own+k_52]!) - ((((p.qB[counts.length]!).qU)[k_52]!) * 1)))[own+k_52]! :Int)≥0),k_52+1,((xH own (pAt p (p.qB[counts.length]!).qE) (Opens p (p.qB[counts.length]!).qE) (p.qB[counts.length]!).qU (p.qB[counts.length]!).fIn 1 (xF p s (counts++[(n:Int)]) (counts.length+1)) k_52).set (own+k_52) (((xH own (pAt p (p.qB[counts.length]!).qE) (Opens p (p.qB[counts.length]!).qE) (p.qB[counts.length]!).qU (p.qB[counts.length]!).fIn 1 (xF p s (counts++[(n:Int)]) (counts.length+1)) k_52)[own+k_52]!) - ((((p.qB[counts.length]!).qU)[k_52]!) * 1))),uE8,?_,?_,?_,rfl,N,H⟩
        · first | exact jZ (zy qm) | exact Ql qg | exact yc (zZ qm) qg (by first | exact .inl qg | exact .inr ‹p.qL[k_52]! =false› | exact .inr (by simp_all)) qg | exact jY (zZ qm) (by first | assumption | (rintro (h | h);omega;exact absurd ‹p.qL[k_52]! =true› (by rw [h];decide)) | (rintro (h | h);omega;simp_all)) qg
        · first | exact jW (by first | exact .inl qg | exact .inr ‹p.qL[k_52]! =false› | exact .inr (by simp_all)) | exact vG (by first | assumption | (rintro (h | h);omega;exact absurd ‹p.qL[k_52]! =true› (by rw [h];decide)) | (rintro (h | h);omega;simp_all))
        · omega
      ·skip
       replace h140:=of_decide_eq_true h140
       refine zG [69,70,71,72,73,74,75,76] (sp (.bool true) (zjn (xC true rfl (fun _=>xP ?_) (fun h=>absurd h qj))))
       refine c_drawK2 rfl H [0,1,3,4,5] [0,1,2,3,4,5,6,7,8,9,10,11] fun H=>?_
       have S:=H.zq [0,1,3,4,5] [0,1,2,3,4,5,6,7,8,9,10,11]
       refine rtp 0 (.slice (some ⟨b119,0,none⟩) left.length c74) S ?_
       refine rtp 1 (.int .i64 (pAt p ((p.qB[counts.length]!).qE))) S ?_
       refine rtp 2 (.int .i64 k_52) S ?_
       refine rt 3 (.int .i64 ((pAt p ((p.qB[counts.length]!).qE))+k_52)) (y_add (pAt p ((p.qB[counts.length]!).qE)) k_52 rfl rfl qg) S ?_
       refine tI 4 rfl rfl rfl S ?_
       refine rtp 6 (.pointer (some ⟨b107,o108+(counts.length:Int).toNat * 3,none⟩)) S ?_
       refine rtp 7 (.pointer (some ⟨b107,o108+(counts.length:Int).toNat * 3,none⟩)) S ?_
       refine tF 8 rfl rfl S ?_
       refine tL 9 rfl rfl (fun _ h=>h.xU 2 rfl 2 rfl) S ?_
       refine rtp 10 (.int .i64 k_52) S ?_
       obtain ⟨b152,o153,rfl⟩:=H.addr 1 rfl qg
       have S:=H.zq [0,1,3,4,5] [0,1,2,3,4,5,6,7,8,9,10,11]
       refine tI 11 rfl rfl rfl S ?_
       refine tL 12 rfl rfl (fun _ h=>h.vT 1 rfl k_52 qg) S ?_
       refine rtp 13 (.int .i64 1) S ?_
       refine rt 14 (.int .i64 ((((p.qB[counts.length]!).fIn)[k_52]!) * 1)) (y_mul (((p.qB[counts.length]!).fIn)[k_52]!) 1 rfl rfl qg) S ?_
       refine ro 5 rfl ?_
       refine xY (.int .i64 (((xH own (pAt p (p.qB[counts.length]!).qE) (Opens p (p.qB[counts.length]!).qE) (p.qB[counts.length]!).qU (p.qB[counts.length]!).fIn 1 (xF p s (counts++[(n:Int)]) (counts.length+1)) k_52).set (own+k_52) (((xH own (pAt p (p.qB[counts.length]!).qE) (Opens p (p.qB[counts.length]!).qE) (p.qB[counts.length]!).qU (p.qB[counts.length]!).fIn 1 (xF p s (counts++[(n:Int)]) (counts.length+1)) k_52)[own+k_52]!) - ((((p.qB[counts.length]!).qU)[k_52]!) * 1)))[(pAt p ((p.qB[counts.length]!).qE))+k_52]!)) Tryz.isAgg2 rfl (H.yE 2 rfl (iv:=(pAt p ((p.qB[counts.length]!).qE))+k_52) (i:=((pAt p ((p.qB[counts.length]!).qE))+k_52)) qg qg) ?_
       refine ⟨H.pick [0,1,3,4,5] [0,1,2,3,4,5,6,7,8,9,10,11],?_⟩
       have S:=H.zq [0,1,3,4,5] [0,1,2,3,4,5,6,7,8,9,10,11]
       refine rt 15 (.int .i64 ((((xH own (pAt p (p.qB[counts.length]!).qE) (Opens p (p.qB[counts.length]!).qE) (p.qB[counts.length]!).qU (p.qB[counts.length]!).fIn 1 (xF p s (counts++[(n:Int)]) (counts.length+1)) k_52).set (own+k_52) (((xH own (pAt p (p.qB[counts.length]!).qE) (Opens p (p.qB[counts.length]!).qE) (p.qB[counts.length]!).qU (p.qB[counts.length]!).fIn 1 (xF p s (counts++[(n:Int)]) (counts.length+1)) k_52)[own+k_52]!) - ((((p.qB[counts.length]!).qU)[k_52]!) * 1)))[(pAt p ((p.qB[counts.length]!).qE))+k_52]!) - ((((p.qB[counts.length]!).fIn)[k_52]!) * 1))) (y_sub (((xH own (pAt p (p.qB[counts.length]!).qE) (Opens p (p.qB[counts.length]!).qE) (p.qB[counts.length]!).qU (p.qB[counts.length]!).fIn 1 (xF p s (counts++[(n:Int)]) (counts.length+1)) k_52).set (own+k_52) (((xH own (pAt p (p.qB[counts.length]!).qE) (Opens p (p.qB[counts.length]!).qE) (p.qB[counts.length]!).qU (p.qB[counts.length]!).fIn 1 (xF p s (counts++[(n:Int)]) (counts.length+1)) k_52)[own+k_52]!) - ((((p.qB[counts.length]!).qU)[k_52]!) * 1)))[(pAt p ((p.qB[counts.length]!).qE))+k_52]!) ((((p.qB[counts.length]!).fIn)[k_52]!) * 1) rfl rfl qg) S ?_
       refine tI 16 rfl rfl rfl S ?_
       refine ro 17 rfl ?_
       refine vg H 2 rfl ((((xH own (pAt p (p.qB[counts.length]!).qE) (Opens p (p.qB[counts.length]!).qE) (p.qB[counts.length]!).qU (p.qB[counts.length]!).fIn 1 (xF p s (counts++[(n:Int)]) (counts.length+1)) k_52).set (own+k_52) (((xH own (pAt p (p.qB[counts.length]!).qE) (Opens p (p.qB[counts.length]!).qE) (p.qB[counts.length]!).qU (p.qB[counts.length]!).fIn 1 (xF p s (counts++[(n:Int)]) (counts.length+1)) k_52)[own+k_52]!) - ((((p.qB[counts.length]!).qU)[k_52]!) * 1)))[(pAt p ((p.qB[counts.length]!).qE))+k_52]!) - ((((p.qB[counts.length]!).fIn)[k_52]!) * 1)) Tryz.sizeOf2 rfl rfl (i:=((pAt p ((p.qB[counts.length]!).qE))+k_52)) qg qg fun w155 H=>?_
       try dsimp only [List.set] at H
       refine ⟨H.pick [0,1,3,4,5] [0,1,2,3,4,5,6,7,8,9,10,11],(xI qi (t_n (xJ ?_)))⟩
       refine sps [.bool (decide ((((xH own (pAt p (p.qB[counts.length]!).qE) (Opens p (p.qB[counts.length]!).qE) (p.qB[counts.length]!).qU (p.qB[counts.length]!).fIn 1 (xF p s (counts++[(n:Int)]) (counts.length+1)) k_52).set (own+k_52) (((xH own (pAt p (p.qB[counts.length]!).qE) (Opens p (p.qB[counts.length]!).qE) (p.qB[counts.length]!).qU (p.qB[counts.length]!).fIn 1 (xF p s (counts++[(n:Int)]) (counts.length+1)) k_52)[own+k_52]!) - ((((p.qB[counts.length]!).qU)[k_52]!) * 1)))[own+k_52]! :Int)≥0)),.bool (decide ((((xH own (pAt p (p.qB[counts.length]!).qE) (Opens p (p.qB[counts.length]!).qE) (p.qB[counts.length]!).qU (p.qB[counts.length]!).fIn 1 (xF p s (counts++[(n:Int)]) (counts.length+1)) k_52).set (own+k_52) (((xH own (pAt p (p.qB[counts.length]!).qE) (Opens p (p.qB[counts.length]!).qE) (p.qB[counts.length]!).qU (p.qB[counts.length]!).fIn 1 (xF p s (counts++[(n:Int)]) (counts.length+1)) k_52)[own+k_52]!) - ((((p.qB[counts.length]!).qU)[k_52]!) * 1)))[own+k_52]! :Int)≥0))] ?_
       cases h156:(decide ((((xH own (pAt p (p.qB[counts.length]!).qE) (Opens p (p.qB[counts.length]!).qE) (p.qB[counts.length]!).qU (p.qB[counts.length]!).fIn 1 (xF p s (counts++[(n:Int)]) (counts.length+1)) k_52).set (own+k_52) (((xH own (pAt p (p.qB[counts.length]!).qE) (Opens p (p.qB[counts.length]!).qE) (p.qB[counts.length]!).qU (p.qB[counts.length]!).fIn 1 (xF p s (counts++[(n:Int)]) (counts.length+1)) k_52)[own+k_52]!) - ((((p.qB[counts.length]!).qU)[k_52]!) * 1)))[own+k_52]! :Int)≥0))
       ·skip
        replace h156:=of_decide_eq_false h156
        refine zG [97,98,99,100,101,102,103] (sps [.bool false,.bool false] (xN (b_n (t_n (xJ (sp (.int .i64 k_52) (sw (xX k_52 1 rfl rfl qg (sp (.int .i64 (k_52+1)) (xN ?_))))))))))
        refine xg (m' :=(p.qJ - ((k_52+1):Int)).toNat) qg ⟨_,false,k_52+1,(((xH own (pAt p (p.qB[counts.length]!).qE) (Opens p (p.qB[counts.length]!).qE) (p.qB[counts.length]!).qU (p.qB[counts.length]!).fIn 1 (xF p s (counts++[(n:Int)]) (counts.length+1)) k_52).set (own+k_52) (((xH own (pAt p (p.qB[counts.length]!).qE) (Opens p (p.qB[counts.length]!).qE) (p.qB[counts.length]!).qU (p.qB[counts.length]!).fIn 1 (xF p s (counts++[(n:Int)]) (counts.length+1)) k_52)[own+k_52]!) - ((((p.qB[counts.length]!).qU)[k_52]!) * 1))).set ((pAt p ((p.qB[counts.length]!).qE))+k_52) ((((xH own (pAt p (p.qB[counts.length]!).qE) (Opens p (p.qB[counts.length]!).qE) (p.qB[counts.length]!).qU (p.qB[counts.length]!).fIn 1 (xF p s (counts++[(n:Int)]) (counts.length+1)) k_52).set (own+k_52) (((xH own (pAt p (p.qB[counts.length]!).qE) (Opens p (p.qB[counts.length]!).qE) (p.qB[counts.length]!).qU (p.qB[counts.length]!).fIn 1 (xF p s (counts++[(n:Int)]) (counts.length+1)) k_52)[own+k_52]!) - ((((p.qB[counts.length]!).qU)[k_52]!) * 1)))[(pAt p ((p.qB[counts.length]!).qE))+k_52]!) - ((((p.qB[counts.length]!).fIn)[k_52]!) * 1))),uE8,?_,?_,?_,rfl,N,H⟩
        · first | exact jZ (zy qm) | exact Ql qg | exact yc (zZ qm) qg (by first | exact .inl qg | exact .inr ‹p.qL[k_52]! =false› | exact .inr (by simp_all)) qg | exact jY (zZ qm) (by first | assumption | (rintro (h | h);omega;exact absurd ‹p.qL[k_52]! =true› (by rw [h];decide)) | (rintro (h | h);omega;simp_all)) qg
        · first | exact jW (by first | exact .inl qg | exact .inr ‹p.qL[k_52]! =false› | exact .inr (by simp_all)) | exact vG (by first | assumption | (rintro (h | h);omega;exact absurd ‹p.qL[k_52]! =true› (by rw [h];decide)) | (rintro (h | h);omega;simp_all))
        · omega
       ·skip
        replace h156:=of_decide_eq_true h156
        refine qY 96 rfl rfl (sp (.slice (some ⟨b119,0,none⟩) left.length c74) (qY 96 rfl rfl (sp (.int .i64 (pAt p ((p.qB[counts.length]!).qE))) (qY 96 rfl rfl (sp (.int .i64 k_52) (qY 96 rfl rfl (sw (xX (pAt p ((p.qB[counts.length]!).qE)) k_52 rfl rfl qg (qY 96 rfl rfl (oI rfl rfl (qY 96 rfl rfl (oL rfl (H.yE 2 rfl (iv:=(pAt p ((p.qB[counts.length]!).qE))+k_52) (i:=((pAt p ((p.qB[counts.length]!).qE))+k_52)) qg qg) (qY 96 rfl rfl ?_)))))))))))))
        refine sps [.bool (decide (((((xH own (pAt p (p.qB[counts.length]!).qE) (Opens p (p.qB[counts.length]!).qE) (p.qB[counts.length]!).qU (p.qB[counts.length]!).fIn 1 (xF p s (counts++[(n:Int)]) (counts.length+1)) k_52).set (own+k_52) (((xH own (pAt p (p.qB[counts.length]!).qE) (Opens p (p.qB[counts.length]!).qE) (p.qB[counts.length]!).qU (p.qB[counts.length]!).fIn 1 (xF p s (counts++[(n:Int)]) (counts.length+1)) k_52)[own+k_52]!) - ((((p.qB[counts.length]!).qU)[k_52]!) * 1))).set ((pAt p ((p.qB[counts.length]!).qE))+k_52) ((((xH own (pAt p (p.qB[counts.length]!).qE) (Opens p (p.qB[counts.length]!).qE) (p.qB[counts.length]!).qU (p.qB[counts.length]!).fIn 1 (xF p s (counts++[(n:Int)]) (counts.length+1)) k_52).set (own+k_52) (((xH own (pAt p (p.qB[counts.length]!).qE) (Opens p (p.qB[counts.length]!).qE) (p.qB[counts.length]!).qU (p.qB[counts.length]!).fIn 1 (xF p s (counts++[(n:Int)]) (counts.length+1)) k_52)[own+k_52]!) - ((((p.qB[counts.length]!).qU)[k_52]!) * 1)))[(pAt p ((p.qB[counts.length]!).qE))+k_52]!) - ((((p.qB[counts.length]!).fIn)[k_52]!) * 1)))[(pAt p ((p.qB[counts.length]!).qE))+k_52]! :Int)≥0)),.bool (decide (((((xH own (pAt p (p.qB[counts.length]!).qE) (Opens p (p.qB[counts.length]!).qE) (p.qB[counts.length]!).qU (p.qB[counts.length]!).fIn 1 (xF p s (counts++[(n:Int)]) (counts.length+1)) k_52).set (own+k_52) (((xH own (pAt p (p.qB[counts.length]!).qE) (Opens p (p.qB[counts.length]!).qE) (p.qB[counts.length]!).qU (p.qB[counts.length]!).fIn 1 (xF p s (counts++[(n:Int)]) (counts.length+1)) k_52)[own+k_52]!) - ((((p.qB[counts.length]!).qU)[k_52]!) * 1))).set ((pAt p ((p.qB[counts.length]!).qE))+k_52) ((((xH own (pAt p (p.qB[counts.length]!).qE) (Opens p (p.qB[counts.length]!).qE) (p.qB[counts.length]!).qU (p.qB[counts.length]!).fIn 1 (xF p s (counts++[(n:Int)]) (counts.length+1)) k_52).set (own+k_52) (((xH own (pAt p (p.qB[counts.length]!).qE) (Opens p (p.qB[counts.length]!).qE) (p.qB[counts.length]!).qU (p.qB[counts.length]!).fIn 1 (xF p s (counts++[(n:Int)]) (counts.length+1)) k_52)[own+k_52]!) - ((((p.qB[counts.length]!).qU)[k_52]!) * 1)))[(pAt p ((p.qB[counts.length]!).qE))+k_52]!) - ((((p.qB[counts.length]!).fIn)[k_52]!) * 1)))[(pAt p ((p.qB[counts.length]!).qE))+k_52]! :Int)≥0)),.bool (decide (((((xH own (pAt p (p.qB[counts.length]!).qE) (Opens p (p.qB[counts.length]!).qE) (p.qB[counts.length]!).qU (p.qB[counts.length]!).fIn 1 (xF p s (counts++[(n:Int)]) (counts.length+1)) k_52).set (own+k_52) (((xH own (pAt p (p.qB[counts.length]!).qE) (Opens p (p.qB[counts.length]!).qE) (p.qB[counts.length]!).qU (p.qB[counts.length]!).fIn 1 (xF p s (counts++[(n:Int)]) (counts.length+1)) k_52)[own+k_52]!) - ((((p.qB[counts.length]!).qU)[k_52]!) * 1))).set ((pAt p ((p.qB[counts.length]!).qE))+k_52) ((((xH own (pAt p (p.qB[counts.length]!).qE) (Opens p (p.qB[counts.length]!).qE) (p.qB[counts.length]!).qU (p.qB[counts.length]!).fIn 1 (xF p s (counts++[(n:Int)]) (counts.length+1)) k_52).set (own+k_52) (((xH own (pAt p (p.qB[counts.length]!).qE) (Opens p (p.qB[counts.length]!).qE) (p.qB[counts.length]!).qU (p.qB[counts.length]!).fIn 1 (xF p s (counts++[(n:Int)]) (counts.length+1)) k_52)[own+k_52]!) - ((((p.qB[counts.length]!).qU)[k_52]!) * 1)))[(pAt p ((p.qB[counts.length]!).qE))+k_52]!) - ((((p.qB[counts.length]!).fIn)[k_52]!) * 1)))[(pAt p ((p.qB[counts.length]!).qE))+k_52]! :Int)≥0))] ?_
        refine xN (b_n (t_n (xJ (sp (.int .i64 k_52) (sw (xX k_52 1 rfl rfl qg (sp (.int .i64 (k_52+1)) (xN ?_))))))))
        refine xg (m' :=(p.qJ - ((k_52+1):Int)).toNat) qg ⟨_,decide (((((xH own (pAt p (p.qB[counts.length]!).qE) (Opens p (p.qB[counts.length]!).qE) (p.qB[counts.length]!).qU (p.qB[counts.length]!).fIn 1 (xF p s (counts++[(n:Int)]) (counts.length+1)) k_52).set (own+k_52) (((xH own (pAt p (p.qB[counts.length]!).qE) (Opens p (p.qB[counts.length]!).qE) (p.qB[counts.length]!).qU (p.qB[counts.length]!).fIn 1 (xF p s (counts++[(n:Int)]) (counts.length+1)) k_52)[own+k_52]!) - ((((p.qB[counts.length]!).qU)[k_52]!) * 1))).set ((pAt p ((p.qB[counts.length]!).qE))+k_52) ((((xH own (pAt p (p.qB[counts.length]!).qE) (Opens p (p.qB[counts.length]!).qE) (p.qB[counts.length]!).qU (p.qB[counts.length]!).fIn 1 (xF p s (counts++[(n:Int)]) (counts.length+1)) k_52).set (own+k_52) (((xH own (pAt p (p.qB[counts.length]!).qE) (Opens p (p.qB[counts.length]!).qE) (p.qB[counts.length]!).qU (p.qB[counts.length]!).fIn 1 (xF p s (counts++[(n:Int)]) (counts.length+1)) k_52)[own+k_52]!) - ((((p.qB[counts.length]!).qU)[k_52]!) * 1)))[(pAt p ((p.qB[counts.length]!).qE))+k_52]!) - ((((p.qB[counts.length]!).fIn)[k_52]!) * 1)))[(pAt p ((p.qB[counts.length]!).qE))+k_52]! :Int)≥0),k_52+1,(((xH own (pAt p (p.qB[counts.length]!).qE) (Opens p (p.qB[counts.length]!).qE) (p.qB[counts.length]!).qU (p.qB[counts.length]!).fIn 1 (xF p s (counts++[(n:Int)]) (counts.length+1)) k_52).set (own+k_52) (((xH own (pAt p (p.qB[counts.length]!).qE) (Opens p (p.qB[counts.length]!).qE) (p.qB[counts.length]!).qU (p.qB[counts.length]!).fIn 1 (xF p s (counts++[(n:Int)]) (counts.length+1)) k_52)[own+k_52]!) - ((((p.qB[counts.length]!).qU)[k_52]!) * 1))).set ((pAt p ((p.qB[counts.length]!).qE))+k_52) ((((xH own (pAt p (p.qB[counts.length]!).qE) (Opens p (p.qB[counts.length]!).qE) (p.qB[counts.length]!).qU (p.qB[counts.length]!).fIn 1 (xF p s (counts++[(n:Int)]) (counts.length+1)) k_52).set (own+k_52) (((xH own (pAt p (p.qB[counts.length]!).qE) (Opens p (p.qB[counts.length]!).qE) (p.qB[counts.length]!).qU (p.qB[counts.length]!).fIn 1 (xF p s (counts++[(n:Int)]) (counts.length+1)) k_52)[own+k_52]!) - ((((p.qB[counts.length]!).qU)[k_52]!) * 1)))[(pAt p ((p.qB[counts.length]!).qE))+k_52]!) - ((((p.qB[counts.length]!).fIn)[k_52]!) * 1))),uE8,?_,?_,?_,rfl,N,H⟩
        · first | exact jZ (zy qm) | exact Ql qg | exact yc (zZ qm) qg (by first | exact .inl qg | exact .inr ‹p.qL[k_52]! =false› | exact .inr (by simp_all)) qg | exact jY (zZ qm) (by first | assumption | (rintro (h | h);omega;exact absurd ‹p.qL[k_52]! =true› (by rw [h];decide)) | (rintro (h | h);omega;simp_all)) qg
        · first | exact jW (by first | exact .inl qg | exact .inr ‹p.qL[k_52]! =false› | exact .inr (by simp_all)) | exact vG (by first | assumption | (rintro (h | h);omega;exact absurd ‹p.qL[k_52]! =true› (by rw [h];decide)) | (rintro (h | h);omega;simp_all))
        · omega
    ·skip
     have ek:k_52=pK p:=by omega
     refine zx4 (zcr (sps [.bool (dec (TkOk own (pAt p (p.qB[counts.length]!).qE) (Opens p (p.qB[counts.length]!).qE) (p.qB[counts.length]!).qU (p.qB[counts.length]!).fIn 1 (xF p s (counts++[(n:Int)]) (counts.length+1)) k_52)),.bool (dec (TkOk own (pAt p (p.qB[counts.length]!).qE) (Opens p (p.qB[counts.length]!).qE) (p.qB[counts.length]!).qU (p.qB[counts.length]!).fIn 1 (xF p s (counts++[(n:Int)]) (counts.length+1)) k_52))] (zjr ?_)))
     refine ret1 (.bool (dec (TkOk own (pAt p (p.qB[counts.length]!).qE) (Opens p (p.qB[counts.length]!).qE) (p.qB[counts.length]!).qU (p.qB[counts.length]!).fIn 1 (xF p s (counts++[(n:Int)]) (counts.length+1)) k_52))) rfl rfl ⟨_,rfl,(⟨H.pick [0,1,3,4,5] [3,4,5,6,7,8,9,10,11],(rtp 15 (.bool (!(dec (TkOk own (pAt p (p.qB[counts.length]!).qE) (Opens p (p.qB[counts.length]!).qE) (p.qB[counts.length]!).qU (p.qB[counts.length]!).fIn 1 (xF p s (counts++[(n:Int)]) (counts.length+1)) k_52)))) (H.pick [0,1,3,4,5] [3,4,5,6,7,8,9,10,11]) ?_)⟩)⟩
     refine xI qi (t_n (xC (!(dec (TkOk own (pAt p (p.qB[counts.length]!).qE) (Opens p (p.qB[counts.length]!).qE) (p.qB[counts.length]!).qU (p.qB[counts.length]!).fIn 1 (xF p s (counts++[(n:Int)]) (counts.length+1)) k_52))) rfl (fun h157=>?_) (fun h157=>?_)))
     ·skip
      replace h157:=xB h157
      refine c_ret (b_r (t_r (t_r (b_r (ret0' rfl ⟨_,rfl,?_⟩)))))
      rw [walk_last p0 qg qg j1 (fun h=>zy qm (ek▸(tk_snoc p0 p1 p2 qg qg j1 hown).2 h)) qg]
      exact ⟨ra101,((gath2 (fun l=>Chosen p s l mode) false (((gath2 (fun l=>Chosen p s l mode) false (fit,out) (xO p s (f - 1) counts n)).1),((gath2 (fun l=>Chosen p s l mode) false (fit,out) (xO p s (f - 1) counts n)).2)) (leaves p s (f - 1) (counts++[(n:Int)]))).2).length,rc103,rx104,rF105,rfl,(N.QM 2 [0] qp),H.QM 6 12 [0,1,5] [3,4,5,6,11,8] qp qp⟩
     ·skip
      replace h157:=xq h157
      refine xf (b_n (t_n (xJ (sp (.int .i64 n) (sw (xX n 1 rfl rfl qg (sp (.int .i64 (n+1)) (xN ?_))))))))
      refine xg (m' :=(1001 - ((n+1):Int)).toNat) qg ⟨_,n+1,((gath2 (fun l=>Chosen p s l mode) false (((gath2 (fun l=>Chosen p s l mode) false (fit,out) (xO p s (f - 1) counts n)).1),((gath2 (fun l=>Chosen p s l mode) false (fit,out) (xO p s (f - 1) counts n)).2)) (leaves p s (f - 1) (counts++[(n:Int)]))).1),ra101,((gath2 (fun l=>Chosen p s l mode) false (((gath2 (fun l=>Chosen p s l mode) false (fit,out) (xO p s (f - 1) counts n)).1),((gath2 (fun l=>Chosen p s l mode) false (fit,out) (xO p s (f - 1) counts n)).2)) (leaves p s (f - 1) (counts++[(n:Int)]))).2).length,rc103,((gath2 (fun l=>Chosen p s l mode) false (((gath2 (fun l=>Chosen p s l mode) false (fit,out) (xO p s (f - 1) counts n)).1),((gath2 (fun l=>Chosen p s l mode) false (fit,out) (xO p s (f - 1) counts n)).2)) (leaves p s (f - 1) (counts++[(n:Int)]))).2),rx104,rF105,(xH own (pAt p (p.qB[counts.length]!).qE) (Opens p (p.qB[counts.length]!).qE) (p.qB[counts.length]!).qU (p.qB[counts.length]!).fIn 1 (xF p s (counts++[(n:Int)]) (counts.length+1)) k_52),uE5,?_,?_,?_,?_,rfl,(N.QM 2 [0] qp),H.QM 6 12 [2,0,1,5] [3,4,5,6,11,8] qp qp⟩
      · rw [gath_next j1]
      · rw [gath_next j1]
      · rw [ek];exact lf_snoc_next p0 p1 qg n hown
      · exact (tk_snoc p0 p1 p2 qg qg j1 hown).1 (ek▸zZ qm)
   ·skip
    refine c_exit (t_x (t_x (b_x (ret0 rfl ⟨_,rfl,?_⟩))))
    first | (exfalso;omega) | (rw [walk_done qg ‹_› qg];exact ⟨a_x_out,n_x_out,c_x_out,x_x_out,F_x_out,rfl,N,H.QM 4 6 [1,2,3] [0,1,2,3,4,5] qp qp⟩)

theorem walk_ok (f:Nat):walk_ok_S f:=Nat.strongRecOn (motive:=walk_ok_S) f fun f IH=>by unfold walk_ok_S;intros;apply walk_ok_step f IH <;> assumption
theorem l06Choices_ok (w:World) (p:qW) (s:qZ) (mode:Int) {bp op:Nat} {qI:yOA} {xe:yLN} {apFree:yOA} {FpFree:yLN} {qR:yOA} {xx:yLN} {bs:Nat} {asCells:yOA} {FsCells:yLN} {qQ:yOA} {xw:yLN} (hp:zM w bp op [.int .i64 p.qJ,.slice qI p.qC.length qH,.slice apFree p.qL.length cpFree,.slice qR p.qB.length qM]) (qX:qV.rep w xe [.slice qI p.qC.length qH] p.qC) (hpFree:qV.rep w FpFree [.slice apFree p.qL.length cpFree] p.qL) (xn:qV.rep w xx [.slice qR p.qB.length qM] p.qB) (hs:zM w bs os [.slice asCells s.qG.length csCells,.slice qQ s.qF.length qP]) (hsCells:qV.rep w FsCells [.slice asCells s.qG.length csCells] s.qG) (xu:qV.rep w xw [.slice qQ s.qF.length qP] s.qF) (p0:zi p) (p1:xG p s):Calls Tryz.prog 61 #[.pointer (some ⟨bp,op,none⟩),.pointer (some ⟨bs,os,none⟩),.int .i64 mode] w (Ret (fun v w' =>∃ (ra0:yOA) (rn0:Nat) (rc0:Nat) (rx0:List Value) (rF0:yLN),v=.tuple #[.slice ra0 rn0 rc0,.bool (decide ((xh p s mode).1≤1500))]∧Fresh w.heap.size [rF0]∧St w w' [rr ra0 rn0 rc0 22 1 rx0] [xW true rF0 rx0 ((xh p s mode).2)]) w):=by
 refine en Tryz.func61 Tryz.ntmps61 ?_
 have H:=(((((((St.start w).arg xu).arg hsCells).argAt hs).arg xn).arg hpFree).arg qX).argAt hp
 have zF:=qO qX
 have nhpFree:=qO hpFree
 have vC:=qO xn
 have nhsCells:=qO hsCells
 have vV:=qO xu
 clear hp qX hpFree xn hs hsCells xu
 have N:=Fresh.nil w.heap.size
 have p2:=flat_le p0.1 (yu p0.1 p1)
 refine zcr (sps [.slice none 0 0,.bool false] (zjc (sps [.pointer (some ⟨bp,op,none⟩),.int .i64 mode] (sw (o_build [.pointer (some ⟨bp,op,none⟩),.int .i64 mode,.int .i64 0,.slice none 0 0] [(0,.pointer (some ⟨bp,op,none⟩)),(1,.int .i64 mode)] (sw (jd H [.pointer (some ⟨bp,op,none⟩),.int .i64 mode,.int .i64 0,.slice none 0 0] fun b1 w2 H=>sp (.pointer (some ⟨b1,0,none⟩)) (zjc (sps [.pointer (some ⟨b1,0,none⟩),.pointer (some ⟨bp,op,none⟩),.pointer (some ⟨bs,os,none⟩)] ?_)))))))))
 have sz6:=H.base.size
 refine sw (oc (l06Flat_ok _ p s (qN (H.get 0 rfl) 0 4) (H.get 1 rfl).1 (H.get 2 rfl).1 (H.get 3 rfl).1 (qN (H.get 4 rfl) 0 2) (H.get 5 rfl).1 (H.get 6 rfl).1 (by exact p0.1) qm) ?_)
 rintro _ w4 ⟨ra3,rn3,rc3,rfl,M,K⟩ _
 replace H:=H.merge K M
 obtain rfl:=H.y9 0 rfl
 refine sw (jH H Tryz.underlying22 ti2 fun b9 w10 H=>?_)
 replace H:=H.boxRowI 0 [] 0
 obtain ⟨G11,N,hn12,H⟩:=H.vw 0 rfl N (H.jL [])
 replace H:=H.unfreeI 0 rfl
 have hn13:=H.isLen 0 rfl
 replace H:=H.nilRow 22 1
 replace H:=H.jC (α:=yLI)
 have H1:St w w10 [.box b1 [.pointer (some ⟨bp,op,none⟩),.int .i64 mode,.int .i64 0,.slice none 0 0] 109,.row (.slice none 0 0) 22 1 0 [],.row (.slice ra3 ((jT s).length) rc3) 2 1 ((jT s).length) ((jT s).map (Value.int .i64)),.row (.slice none 0 0) 0 1 0 []] [atF bp op [.int .i64 p.qJ,.slice qI p.qC.length qH,.slice apFree p.qL.length cpFree,.slice qR p.qB.length qM],isF false xe (.slice qI p.qC.length qH) p.qC,isF false FpFree (.slice apFree p.qL.length cpFree) p.qL,isF false xx (.slice qR p.qB.length qM) p.qB,isF false G11 (.slice (some ⟨b9,0,none⟩) (([]:yLI).length) 0) ([]:yLI),xW true [] [] ([]:yLL),isF false G11 (.slice (some ⟨b9,0,none⟩) 0 0) ([]:yLI),isF true G11 (.slice (some ⟨b9,0,none⟩) 0 0) ([]:yLI),atF bs os [.slice asCells s.qG.length csCells,.slice qQ s.qF.length qP],isF false FsCells (.slice asCells s.qG.length csCells) s.qG,isF false xw (.slice qQ s.qF.length qP) s.qF]:=by (try rw [← hn13]);exact H.pick [3,0,2,1] [3,4,5,6,1,0,1,2,7,8,9]
 have N1:Fresh _ [[],G11]:=N.emp
 have K1:Kept [] [isF false G11 (.slice (some ⟨b9,0,none⟩) 0 0) ([]:yLI),isF true G11 (.slice (some ⟨b9,0,none⟩) 0 0) ([]:yLI),atF bs os [.slice asCells s.qG.length csCells,.slice qQ s.qF.length qP],sF false FsCells asCells csCells s.qG,sF false xw qQ qP s.qF]:=Kept.nil _
 replace K1:=K1.cons (F:=G11) 0 rfl rfl
 refine sw (o_callF #[.pointer (some ⟨b1,0,none⟩),.slice ra3 ((jT s).length) rc3,.slice (some ⟨b9,0,none⟩) 0 0] rfl rfl Tryz.call83 (args_eq (by first | rfl | rw [hn13]) (walk_ok p.qB.length p s mode (0:Int) (jT s) ([]:yLI) ([]:yLL) b1 bp op qI qH xe apFree cpFree FpFree qR qM xx (some ⟨b9,0,none⟩) 0 G11 none 0 0 [] [] ra3 ((jT s).length) rc3 H1 N1 K1 (by exact p0) (by exact p1) (by exact Cnts.nil p) (by exact fits_nil p0 p1) qo (by rfl) qj qj)) ?_)
 clear H H1 N1 K1
 rintro _ w14 ⟨ra16,rn17,rc18,rx19,rF20,rfl,N,H⟩
 obtain rfl:=H.zB (α:=yLI) 1 rfl 5 rfl qj
 refine zjn (xP ?_)
 refine vK rfl H fun H=>rtp 0 (.pointer (some ⟨b1,0,none⟩)) H ?_
 refine rtp 1 (.pointer (some ⟨b1,0,none⟩)) H ?_
 refine tF 2 rfl rfl H ?_
 refine tL 3 rfl rfl (fun _ h=>h.cell 0 rfl rfl) H ?_
 refine rtp 4 (.pointer (some ⟨b1,0,none⟩)) H ?_
 refine rtp 5 (.pointer (some ⟨b1,0,none⟩)) H ?_
 refine tF 6 rfl rfl H ?_
 refine tL 7 rfl rfl (fun _ h=>h.cell 0 rfl rfl) H ?_
 refine rtp 8 (.bool (decide ((((gath2 (fun l=>Chosen p s l mode) false ((0:Int),([]:yLL)) (leaves p s p.qB.length ([]:yLI))).1):Int)≤1500))) H ?_
 refine rtp 9 (.slice ra16 (((gath2 (fun l=>Chosen p s l mode) false ((0:Int),([]:yLL)) (leaves p s p.qB.length ([]:yLI))).2).length) rc18) H ?_
 refine rtp 10 (.bool (decide ((((gath2 (fun l=>Chosen p s l mode) false ((0:Int),([]:yLL)) (leaves p s p.qB.length ([]:yLI))).1):Int)≤1500))) H ?_
 refine xI qi (t_n (c_ret (ret2 (.slice ra16 (((gath2 (fun l=>Chosen p s l mode) false ((0:Int),([]:yLL)) (leaves p s p.qB.length ([]:yLI))).2).length) rc18) (.bool (decide ((((gath2 (fun l=>Chosen p s l mode) false ((0:Int),([]:yLL)) (leaves p s p.qB.length ([]:yLI))).1):Int)≤1500))) rfl rfl rfl ⟨_,rfl,(⟨ra16,((gath2 (fun l=>Chosen p s l mode) false ((0:Int),([]:yLL)) (leaves p s p.qB.length ([]:yLI))).2).length,rc18,rx19,rF20,rfl,(N.pick [0]),H.pick [1] [5]⟩),H.base⟩)))
def from_ok_S (f:Nat):Prop:=∀ {W0 w:World} {ps:List Prv} {Γ:List Fact} {Ns:List yLN} (k:Nat) (p:qW) (s:qZ) (mode:Int) (fit:Int) (cs:yLI) (out:yLL) (bc:Nat) (bn:Nat) (bp:Nat) (bs:Nat) (bm:Nat) (bo:Nat) (bf:Nat) (apa:yOA) (cpa:Nat) (Fpa:yLN) (apf:yOA) (cpf:Nat) (Fpf:yLN) (apr:yOA) (cpr:Nat) (Fpr:yLN) (asc:yOA) (csc:Nat) (Fsc:yLN) (asa:yOA) (csa:Nat) (Fsa:yLN) (raout:yOA) (rnout:Nat) (rcout:Nat) (rxout:List Value) (rFout:yLN) (racs:yOA) (rncs:Nat) (rccs:Nat) (H:St W0 w ((.box bc [.slice racs rncs rccs] 22) :: (.box bn [.int .i64 fit] 3) :: (.box bp [.int .i64 p.qJ,.slice apa p.qC.length cpa,.slice apf p.qL.length cpf,.slice apr p.qB.length cpr] 37) :: (.box bs [.slice asc s.qG.length csc,.slice asa s.qF.length csa] 39) :: (.box bm [.int .i64 mode] 2) :: (.box bo [.slice raout rnout rcout] 27) :: (.box bf [.func (.func 71) #[] #[.pointer (some ⟨bc,0,none⟩),.pointer (some ⟨bn,0,none⟩),.pointer (some ⟨bp,0,none⟩),.pointer (some ⟨bs,0,none⟩),.pointer (some ⟨bm,0,none⟩),.pointer (some ⟨bo,0,none⟩),.pointer (some ⟨bf,0,none⟩)]] 99) :: (rr raout rnout rcout 22 1 rxout) :: (rr racs rncs rccs 2 1 (cs.map (Value.int .i64))) :: ps) ((sF false Fpa apa cpa p.qC) :: (sF false Fpf apf cpf p.qL) :: (sF false Fpr apr cpr p.qB) :: (sF false Fsc asc csc s.qG) :: (sF false Fsa asa csa s.qF) :: (xW true rFout rxout out) :: Γ)) (N:Fresh W0.heap.size (rFout :: Ns)) (K0:Kept Ns Γ) (p0:zi p) (p1:xG p s) (p2:Cnts0 p cs) (p3:Qy k cs) (p4:k+f=p.qB.length) (p5:Fits p s cs) (p6:0≤fit∧fit≤1500) (p7:(out.length:Int)≤fit),Calls Tryz.prog 71 #[.int .i64 k,.pointer (some ⟨bc,0,none⟩),.pointer (some ⟨bn,0,none⟩),.pointer (some ⟨bp,0,none⟩),.pointer (some ⟨bs,0,none⟩),.pointer (some ⟨bm,0,none⟩),.pointer (some ⟨bo,0,none⟩),.pointer (some ⟨bf,0,none⟩)] w (fun e w' =>∃ v,e=.returned v∧∃ (raout_:yOA) (rnout_:Nat) (rcout_:Nat) (rxout_:List Value) (rFout_:yLN),v=.bool (decide ((gath2 (fun l=>Chosen p s l mode) true (fit,out) (leaves p s f (cs.take k))).1≤1500))∧Fresh W0.heap.size (rFout_ :: Ns)∧St W0 w' ((.box bc [.slice racs rncs rccs] 22) :: (.box bn [.int .i64 ((gath2 (fun l=>Chosen p s l mode) true (fit,out) (leaves p s f (cs.take k))).1)] 3) :: (.box bp [.int .i64 p.qJ,.slice apa p.qC.length cpa,.slice apf p.qL.length cpf,.slice apr p.qB.length cpr] 37) :: (.box bs [.slice asc s.qG.length csc,.slice asa s.qF.length csa] 39) :: (.box bm [.int .i64 mode] 2) :: (.box bo [.slice raout_ rnout_ rcout_] 27) :: (.box bf [.func (.func 71) #[] #[.pointer (some ⟨bc,0,none⟩),.pointer (some ⟨bn,0,none⟩),.pointer (some ⟨bp,0,none⟩),.pointer (some ⟨bs,0,none⟩),.pointer (some ⟨bm,0,none⟩),.pointer (some ⟨bo,0,none⟩),.pointer (some ⟨bf,0,none⟩)]] 99) :: (rr raout_ rnout_ rcout_ 22 1 rxout_) :: (rr racs rncs rccs 2 1 (cs.map (Value.int .i64))) :: ps) ((sF false Fpa apa cpa p.qC) :: (sF false Fpf apf cpf p.qL) :: (sF false Fpr apr cpr p.qB) :: (sF false Fsc asc csc s.qG) :: (sF false Fsa asa csa s.qF) :: (xW true rFout_ rxout_ ((gath2 (fun l=>Chosen p s l mode) true (fit,out) (leaves p s f (cs.take k))).2)) :: Γ))
theorem from_ok_step (f:Nat) (IH:∀ k,k < f→from_ok_S k) {W0 w:World} {ps:List Prv} {Γ:List Fact} {Ns:List yLN} (k:Nat) (p:qW) (s:qZ) (mode:Int) (fit:Int) (cs:yLI) (out:yLL) (bc:Nat) (bn:Nat) (bp:Nat) (bs:Nat) (bm:Nat) (bo:Nat) (bf:Nat) (apa:yOA) (cpa:Nat) (Fpa:yLN) (apf:yOA) (cpf:Nat) (Fpf:yLN) (apr:yOA) (cpr:Nat) (Fpr:yLN) (asc:yOA) (csc:Nat) (Fsc:yLN) (asa:yOA) (csa:Nat) (Fsa:yLN) (raout:yOA) (rnout:Nat) (rcout:Nat) (rxout:List Value) (rFout:yLN) (racs:yOA) (rncs:Nat) (rccs:Nat) (H:St W0 w ((.box bc [.slice racs rncs rccs] 22) :: (.box bn [.int .i64 fit] 3) :: (.box bp [.int .i64 p.qJ,.slice apa p.qC.length cpa,.slice apf p.qL.length cpf,.slice apr p.qB.length cpr] 37) :: (.box bs [.slice asc s.qG.length csc,.slice asa s.qF.length csa] 39) :: (.box bm [.int .i64 mode] 2) :: (.box bo [.slice raout rnout rcout] 27) :: (.box bf [.func (.func 71) #[] #[.pointer (some ⟨bc,0,none⟩),.pointer (some ⟨bn,0,none⟩),.pointer (some ⟨bp,0,none⟩),.pointer (some ⟨bs,0,none⟩),.pointer (some ⟨bm,0,none⟩),.pointer (some ⟨bo,0,none⟩),.pointer (some ⟨bf,0,none⟩)]] 99) :: (rr raout rnout rcout 22 1 rxout) :: (rr racs rncs rccs 2 1 (cs.map (Value.int .i64))) :: ps) ((sF false Fpa apa cpa p.qC) :: (sF false Fpf apf cpf p.qL) :: (sF false Fpr apr cpr p.qB) :: (sF false Fsc asc csc s.qG) :: (sF false Fsa asa csa s.qF) :: (xW true rFout rxout out) :: Γ)) (N:Fresh W0.heap.size (rFout :: Ns)) (K0:Kept Ns Γ) (p0:zi p) (p1:xG p s) (p2:Cnts0 p cs) (p3:Qy k cs) (p4:k+f=p.qB.length) (p5:Fits p s cs) (p6:0≤fit∧fit≤1500) (p7:(out.length:Int)≤fit):Calls Tryz.prog 71 #[.int .i64 k,.pointer (some ⟨bc,0,none⟩),.pointer (some ⟨bn,0,none⟩),.pointer (some ⟨bp,0,none⟩),.pointer (some ⟨bs,0,none⟩),.pointer (some ⟨bm,0,none⟩),.pointer (some ⟨bo,0,none⟩),.pointer (some ⟨bf,0,none⟩)] w (fun e w' =>∃ v,e=.returned v∧∃ (raout_:yOA) (rnout_:Nat) (rcout_:Nat) (rxout_:List Value) (rFout_:yLN),v=.bool (decide ((gath2 (fun l=>Chosen p s l mode) true (fit,out) (leaves p s f (cs.take k))).1≤1500))∧Fresh W0.heap.size (rFout_ :: Ns)∧St W0 w' ((.box bc [.slice racs rncs rccs] 22) :: (.box bn [.int .i64 ((gath2 (fun l=>Chosen p s l mode) true (fit,out) (leaves p s f (cs.take k))).1)] 3) :: (.box bp [.int .i64 p.qJ,.slice apa p.qC.length cpa,.slice apf p.qL.length cpf,.slice apr p.qB.length cpr] 37) :: (.box bs [.slice asc s.qG.length csc,.slice asa s.qF.length csa] 39) :: (.box bm [.int .i64 mode] 2) :: (.box bo [.slice raout_ rnout_ rcout_] 27) :: (.box bf [.func (.func 71) #[] #[.pointer (some ⟨bc,0,none⟩),.pointer (some ⟨bn,0,none⟩),.pointer (some ⟨bp,0,none⟩),.pointer (some ⟨bs,0,none⟩),.pointer (some ⟨bm,0,none⟩),.pointer (some ⟨bo,0,none⟩),.pointer (some ⟨bf,0,none⟩)]] 99) :: (rr raout_ rnout_ rcout_ 22 1 rxout_) :: (rr racs rncs rccs 2 1 (cs.map (Value.int .i64))) :: ps) ((sF false Fpa apa cpa p.qC) :: (sF false Fpf apf cpf p.qL) :: (sF false Fpr apr cpr p.qB) :: (sF false Fsc asc csc s.qG) :: (sF false Fsa asa csa s.qF) :: (xW true rFout_ rxout_ ((gath2 (fun l=>Chosen p s l mode) true (fit,out) (leaves p s f (cs.take k))).2)) :: Γ)):=by
 refine enterD (n:=44) Tryz.func71 rfl Tryz.ntmps71 (Nat.le_of_ble_eq_true rfl) ?_
 have npa:=qO (H.get 0 rfl).1
 have npf:=qO (H.get 1 rfl).1
 have npr:=qO (H.get 2 rfl).1
 have nsc:=qO (H.get 3 rfl).1
 have nsa:=qO (H.get 4 rfl).1
 obtain rfl:=H.zB (α:=yLI) 7 rfl 5 rfl qj
 obtain rfl:=H.y9 8 rfl
 have p8:=p0.1.2.2.2.1
 have p9:=p2.1
 refine zcr (sw (jd H [.int .i64 k] fun b1 w2 H=>sp (.bool false) (zjcc (oL rfl (H.cell 0 rfl rfl) (oL rfl (H.cell 1 rfl rfl) (oN rfl (sp (.bool ((k:Int) == cs.length)) (zjn (cE rfl (fun h3=>?_) (fun h3=>?_))))))))))
 ·skip
  refine zcr (oL rfl (H.cell 2 rfl rfl) (sw (xX fit 1 rfl rfl qg (sw (vz H 2 [.int .i64 (fit+1)] Tryz.sizeOf3 fun w4 H=>?_)))))
  try dsimp only [List.set] at H
  refine zjcc (sw (xZ [.int .i64 p.qJ,.slice apa p.qC.length cpa,.slice apf p.qL.length cpf,.slice apr p.qB.length cpr] Tryz.isAgg37 Tryz.sizeOf37 rfl (qN (H.cells 3 rfl) 0 4) (sw (xZ [.slice asc s.qG.length csc,.slice asa s.qF.length csa] Tryz.isAgg39 Tryz.sizeOf39 rfl (qN (H.cells 4 rfl) 0 2) (oL rfl (H.cell 1 rfl rfl) (oL rfl (H.cell 5 rfl rfl) ?_))))))
  obtain ⟨G5,hn6,h7⟩:=H.Qa 9 rfl
  refine sw (oq (isChoice_ok _ p s cs mode (H.get 0 rfl).1 (H.get 1 rfl).1 (H.get 2 rfl).1 (H.get 3 rfl).1 (H.get 4 rfl).1 h7 (by exact p0) (by exact p1) (by first | assumption | exact cb)) H fun w9 H=>zjn (cP rfl (fun h11=>?_) (fun h11=>?_)))
  ·skip
   refine c_cut (fun ρ w17=>∃ (zu:Env) (a12:yOA) (c13:Nat) (a14:yOA) (c15:Nat) (G16:yLN),ρ=upd zu 2 (.pointer (some ⟨bn,0,none⟩))∧Fresh W0.heap.size ((rFout++G16) :: Ns)∧St W0 w17 ((.box b1 [.int .i64 k] 3) :: (.box bc [.slice racs cs.length rccs] 22) :: (.box bn [.int .i64 (fit+1)] 3) :: (.box bp [.int .i64 p.qJ,.slice apa p.qC.length cpa,.slice apf p.qL.length cpf,.slice apr p.qB.length cpr] 37) :: (.box bs [.slice asc s.qG.length csc,.slice asa s.qF.length csa] 39) :: (.box bm [.int .i64 mode] 2) :: (.box bo [.slice a12 (out.length+1) c13] 27) :: (.box bf [.func (.func 71) #[] #[.pointer (some ⟨bc,0,none⟩),.pointer (some ⟨bn,0,none⟩),.pointer (some ⟨bp,0,none⟩),.pointer (some ⟨bs,0,none⟩),.pointer (some ⟨bm,0,none⟩),.pointer (some ⟨bo,0,none⟩),.pointer (some ⟨bf,0,none⟩)]] 99) :: (rr a12 (out.length+1) c13 22 1 (rxout++[.slice a14 cs.length c15])) :: (rr racs cs.length rccs 2 1 (cs.map (Value.int .i64))) :: ps) ((xW true (rFout++G16) (rxout++[.slice a14 cs.length c15]) (out++[cs])) :: (sF true G16 a14 c15 cs) :: (sF false Fpa apa cpa p.qC) :: (sF false Fpf apf cpf p.qL) :: (sF false Fpr apr cpr p.qB) :: (sF false Fsc asc csc s.qG) :: (sF false Fsa asa csa s.qF) :: Γ)) ?_ ?_
   ·skip
    refine c_drawK2 rfl H [0,1,2,3,4,5,7,9] [0,1,2,3,4,5] fun H=>tL 1 rfl rfl (fun _ h=>h.cell 1 rfl rfl) (H.pick [0,1,2,3,4,5,7,9] [0,1,2,3,4,5]) ?_
    refine yz [0,2] qi qo (r_op rfl ?_ (r_op rfl ?_ yA))
    ·skip
     refine xY (.slice raout out.length rcout) Tryz.isAgg27 rfl (H.cell 6 rfl rfl) (⟨H.pick [0,1,2,3,4,5,7,9] [0,1,2,3,4,5],(ro 2 rfl ?_)⟩)
     obtain ⟨G19,hn20,h21⟩:=H.Qa 9 rfl
     have sz22:=H.base.size
     have lt23:=all_two (H.ltN (L:=[rFout]) [5]) (H.ltK (K0.behind 6 rfl))
     refine oc (cloneI_ok _ cs h21 qh) ?_
     rintro v27 w25 r27 x26
     replace H:=H.zg x26 r27
     obtain ⟨a28,c29,rfl,hc30,hm31⟩:=H.vO 0 rfl
     refine ⟨H.pick [1,2,3,4,5,6,8,10] [0,1,2,3,4,5],(ro 3 rfl (zt H Tryz.underlying27 ti22 [.slice a28 cs.length c29] fun b32 w33 H=>⟨H.pick [2,3,4,5,6,7,9,11] [0,1,2,3,4,5],(ro 4 rfl ?_)⟩))⟩
     obtain ⟨G37,N,hn38,H⟩:=H.vw 1 rfl N (fun F hF b hb=>(List.mem_append.1 (show F∈[rFout]++Ns from hF)).elim (fun h=>(H.jL (L:=[rFout]) [5]) F h b hb) fun h=>H.awayK (K0.behind 6 rfl) F h b hb)
     try dsimp only [List.set] at H
     refine zA H 10 rfl 0 rfl Tryz.underlying27 ti22 rfl qj rfl rfl rfl qx qw qg fun a34 c35 w36 H=>?_
     try dsimp only [List.set] at H
     replace H:=H.jy 6 rfl 0 rfl
     replace N:Fresh W0.heap.size ((rFout++G37) :: Ns):=(N.QM 2 [1,0] qp).join
     refine ⟨H.pick [2,3,4,5,6,7,9,11] [2,3,4,5,6,7],(ro 5 rfl (vz H 8 [.slice a34 (out.length+1) c35] Tryz.sizeOf27 fun w39 H=>?_))⟩
     try dsimp only [List.set] at H
     refine ⟨H.pick [2,3,4,5,6,7,9,11] [2,3,4,5,6,7],(xI qi ((meet ⟨_,a34,c35,a28,c29,G37,uE1,N,H.QM 12 8 [2,3,4,5,6,7,8,9,10,11] [0,1,2,3,4,5,6] qp qp⟩)))⟩
    ·skip
     obtain ⟨G40,hn41,h42⟩:=H.Qa 9 rfl
     have sz43:=H.base.size
     have lt44:=all_two (H.ltN (L:=[rFout]) [5]) (H.ltK (K0.behind 6 rfl))
     refine oc (cloneI_ok _ cs h42 qh) ?_
     rintro v48 w46 r48 x47
     replace H:=H.zg x47 r48
     obtain ⟨a49,c50,rfl,hc51,hm52⟩:=H.vO 0 rfl
     refine ⟨H.pick [1,2,3,4,5,6,8,10] [0,1,2,3,4,5],(yz [0,3] qi qo (r_op rfl ?_ (r_op rfl ?_ yA)))⟩
     ·skip
      refine xY (.slice raout out.length rcout) Tryz.isAgg27 rfl (H.cell 7 rfl rfl) (⟨H.pick [1,2,3,4,5,6,8,10] [0,1,2,3,4,5],(ro 3 rfl (zt H Tryz.underlying27 ti22 [.slice a49 cs.length c50] fun b53 w54 H=>⟨H.pick [2,3,4,5,6,7,9,11] [0,1,2,3,4,5],(ro 4 rfl ?_)⟩))⟩)
      obtain ⟨G58,N,hn59,H⟩:=H.vw 1 rfl N (fun F hF b hb=>(List.mem_append.1 (show F∈[rFout]++Ns from hF)).elim (fun h=>(H.jL (L:=[rFout]) [5]) F h b hb) fun h=>H.awayK (K0.behind 6 rfl) F h b hb)
      try dsimp only [List.set] at H
      refine zA H 10 rfl 0 rfl Tryz.underlying27 ti22 rfl qj rfl rfl rfl qx qw qg fun a55 c56 w57 H=>?_
      try dsimp only [List.set] at H
      replace H:=H.jy 6 rfl 0 rfl
      replace N:Fresh W0.heap.size ((rFout++G58) :: Ns):=(N.QM 2 [1,0] qp).join
      refine ⟨H.pick [2,3,4,5,6,7,9,11] [2,3,4,5,6,7],(ro 5 rfl (vz H 8 [.slice a55 (out.length+1) c56] Tryz.sizeOf27 fun w60 H=>?_))⟩
      try dsimp only [List.set] at H
      refine ⟨H.pick [2,3,4,5,6,7,9,11] [2,3,4,5,6,7],(xI qi ((meet ⟨_,a55,c56,a49,c50,G58,uE1,N,H.QM 12 8 [2,3,4,5,6,7,8,9,10,11] [0,1,2,3,4,5,6] qp qp⟩)))⟩
     ·skip
      refine zt H Tryz.underlying27 ti22 [.slice a49 cs.length c50] fun b61 w62 H=>⟨H.pick [2,3,4,5,6,7,9,11] [0,1,2,3,4,5],(ro 0 rfl (xY (.slice raout out.length rcout) Tryz.isAgg27 rfl (H.cell 8 rfl rfl) (⟨H.pick [2,3,4,5,6,7,9,11] [0,1,2,3,4,5],(ro 4 rfl ?_)⟩)))⟩
      obtain ⟨G66,N,hn67,H⟩:=H.vw 1 rfl N (fun F hF b hb=>(List.mem_append.1 (show F∈[rFout]++Ns from hF)).elim (fun h=>(H.jL (L:=[rFout]) [5]) F h b hb) fun h=>H.awayK (K0.behind 6 rfl) F h b hb)
      try dsimp only [List.set] at H
      refine zA H 10 rfl 0 rfl Tryz.underlying27 ti22 rfl qj rfl rfl rfl qx qw qg fun a63 c64 w65 H=>?_
      try dsimp only [List.set] at H
      replace H:=H.jy 6 rfl 0 rfl
      replace N:Fresh W0.heap.size ((rFout++G66) :: Ns):=(N.QM 2 [1,0] qp).join
      refine ⟨H.pick [2,3,4,5,6,7,9,11] [2,3,4,5,6,7],(ro 5 rfl (vz H 8 [.slice a63 (out.length+1) c64] Tryz.sizeOf27 fun w68 H=>?_))⟩
      try dsimp only [List.set] at H
      refine ⟨H.pick [2,3,4,5,6,7,9,11] [2,3,4,5,6,7],(xI qi ((meet ⟨_,a63,c64,a49,c50,G66,uE1,N,H.QM 12 8 [2,3,4,5,6,7,8,9,10,11] [0,1,2,3,4,5,6] qp qp⟩)))⟩
   ·skip
    clear H N
    rintro ρ w69 ⟨zu,a12,c13,a14,c15,G16,rfl,N,H⟩
    refine t_n (zcr (oL rfl (H.cell 2 rfl rfl) (sps [.bool (decide ((fit+1:Int)≤1500)),.bool (decide ((fit+1:Int)≤1500))] (zjr (t_r (retD0 (.bool (decide ((fit+1:Int)≤1500))) rfl rfl ⟨_,rfl,?_⟩))))))
    have f0:f=0:=by omega
    subst f0
    rw [List.take_of_length_le qg,gath_leaf_yes qg (.inr rfl) ((chosenB_iff p0 p1 p2).1 qm)]
    exact ⟨a12,out.length+1,c13,rxout++[Value.slice a14 cs.length c15],(rFout++G16),rfl,N,H.QM 10 7 [1,2,3,4,5,6,7,8,9] [2,3,4,5,6,0] qp qp⟩
  ·skip
   refine xf (t_n (zcr (oL rfl (H.cell 2 rfl rfl) (sps [.bool (decide ((fit+1:Int)≤1500)),.bool (decide ((fit+1:Int)≤1500))] (zjr (t_r (retD0 (.bool (decide ((fit+1:Int)≤1500))) rfl rfl ⟨_,rfl,?_⟩)))))))
   have f0:f=0:=by omega
   subst f0
   rw [List.take_of_length_le qg,gath_leaf_no qg (fun h=>(by assumption:¬ ChosenB p s cs mode) ((chosenB_iff p0 p1 p2).2 h.2))]
   exact ⟨raout,out.length,rcout,rxout,rFout,rfl,N,H.QM 10 6 [1,2,3,4,5,6,7,8,9] [0,1,2,3,4,5] qp qp⟩
 ·skip
  refine xf (t_n (zcr (sp (.func (.func 73) #[] #[.pointer (some ⟨bc,0,none⟩),.pointer (some ⟨b1,0,none⟩)]) (sw_deferI rfl fun D1 hD=>zjn (xP (xm ?_))))))
  refine zK (fun m' ρ w70=>∃ (zu:Env) (fit_1:Int) (zI:yOA) (zC:Nat) (zH:Nat) (out_1:yLL) (QA:List Value) (Qz:yLN) (counts:yLI) (n:Nat),ρ=upd (upd (upd (upd (upd zu 1 (.pointer (some ⟨bc,0,none⟩))) 3 (.pointer (some ⟨bp,0,none⟩))) 4 (.pointer (some ⟨bs,0,none⟩))) 7 (.pointer (some ⟨bf,0,none⟩))) 8 (.pointer (some ⟨b1,0,none⟩))∧fit_1=(gath2 (fun l=>Chosen p s l mode) true (fit,out) (xO p s (f - 1) (cs.take k) n)).1∧out_1=(gath2 (fun l=>Chosen p s l mode) true (fit,out) (xO p s (f - 1) (cs.take k) n)).2∧counts=(cs.set k (n:Int))∧(n≤1001)∧((gath2 (fun l=>Chosen p s l mode) true (fit,out) (xO p s (f - 1) (cs.take k) n)).1≤1500)∧m' =1002 - n∧Fresh W0.heap.size (Qz :: Ns)∧St W0 w70 ((.box b1 [.int .i64 k] 3) :: (.box bc [.slice racs cs.length rccs] 22) :: (.box bn [.int .i64 fit_1] 3) :: (.box bp [.int .i64 p.qJ,.slice apa p.qC.length cpa,.slice apf p.qL.length cpf,.slice apr p.qB.length cpr] 37) :: (.box bs [.slice asc s.qG.length csc,.slice asa s.qF.length csa] 39) :: (.box bm [.int .i64 mode] 2) :: (.box bo [.slice zI zC zH] 27) :: (.box bf [.func (.func 71) #[] #[.pointer (some ⟨bc,0,none⟩),.pointer (some ⟨bn,0,none⟩),.pointer (some ⟨bp,0,none⟩),.pointer (some ⟨bs,0,none⟩),.pointer (some ⟨bm,0,none⟩),.pointer (some ⟨bo,0,none⟩),.pointer (some ⟨bf,0,none⟩)]] 99) :: (rr zI zC zH 22 1 QA) :: (rr racs cs.length rccs 2 1 (counts.map (Value.int .i64))) :: ps) ((sF false Fpa apa cpa p.qC) :: (sF false Fpf apf cpf p.qL) :: (sF false Fpr apr cpr p.qB) :: (sF false Fsc asc csc s.qG) :: (sF false Fsa asa csa s.qF) :: (xW true Qz QA out_1) :: Γ)) (1002 - 0) ⟨_,fit,raout,out.length,rcout,out,rxout,rFout,cs,0,uE5,(by rw [gath_start]),(by rw [gath_start]),(by exact (zero_first qg p3).symm),qg,(by rw [gath_start];exact p6.2),rfl,N,H⟩ ?_
  clear H N
  rintro m' ρ w71 ⟨zu,fit_1,zI,zC,zH,out_1,QA,Qz,counts,n,rfl,rfl,rfl,rfl,j1,j2,rfl,N,H⟩
  have hn_out:=H.zB (α:=yLI) 8 rfl 5 rfl qj
  have hn_counts:=H.y9 9 rfl
  have hc:Cnts1 p (cs.set k (n:Int)):=p2.set1 qg ⟨by omega,by omega⟩
  have jb:=gath2_bd (c:=(fun l=>Chosen p s l mode)) (b:=true) (xO p s (f - 1) (cs.take k) n) p6 p7
  have sn:=set_now (cs:=cs) (k:=k) qg (n:Int)
  refine zcc (sw (xZ [.int .i64 p.qJ,.slice apa p.qC.length cpa,.slice apf p.qL.length cpf,.slice apr p.qB.length cpr] Tryz.isAgg37 Tryz.sizeOf37 rfl (qN (H.cells 3 rfl) 0 4) (sw (xZ [.slice asc s.qG.length csc,.slice asa s.qF.length csa] Tryz.isAgg39 Tryz.sizeOf39 rfl (qN (H.cells 4 rfl) 0 2) (oL rfl (H.cell 1 rfl rfl) ?_)))))
  obtain ⟨G72,hn73,h74⟩:=H.Qa 9 rfl
  refine sw (oq (args_eq (by rw [← hn73]) (fits_ok _ p s (cs.set k (n:Int)) (H.get 0 rfl).1 (H.get 1 rfl).1 (H.get 2 rfl).1 (H.get 3 rfl).1 (H.get 4 rfl).1 (hn73▸h74) (by exact p0) (by exact p1) qm)) H fun w76 H=>zjn (cP rfl (fun h78=>?_) (fun h78=>?_)))
  ·skip
   have hf0:Fits p s (cs.set k (n:Int)):=(fits_iff p0 p1 hc).1 h78
   have hf:=(fits_set qg p3.up n).1 hf0
   have nf:=few_first p0 p1 p2 qg hf
   have e1:gath2 (fun l=>Chosen p s l mode) true ((gath2 (fun l=>Chosen p s l mode) true (fit,out) (xO p s (f - 1) (cs.take k) n)).1,(gath2 (fun l=>Chosen p s l mode) true (fit,out) (xO p s (f - 1) (cs.take k) n)).2) (leaves p s (f - 1) ((cs.set k (n:Int)).take (k+1)))=(gath2 (fun l=>Chosen p s l mode) true (fit,out) (xO p s (f - 1) (cs.take k) (n+1))):=by rw [set_take qg,gath_next hf]
   refine xf (t_n (xm (zcc (oL rfl (H.cell 7 rfl rfl) (oL rfl (H.cell 0 rfl rfl) (sw (xX k 1 rfl rfl qg ?_)))))))
   have H1:=H.pickE 10 6 [1,2,3,4,5,6,7,8,9,0] [0,1,2,3,4,5] qp qp
   have N1:Fresh _ (Qz :: Ns):=N
   have K1:Kept (Ns) (Γ):=K0.behind 0 rfl
   refine sw (o_callF #[.int .i64 (k+1),.pointer (some ⟨bc,0,none⟩),.pointer (some ⟨bn,0,none⟩),.pointer (some ⟨bp,0,none⟩),.pointer (some ⟨bs,0,none⟩),.pointer (some ⟨bm,0,none⟩),.pointer (some ⟨bo,0,none⟩),.pointer (some ⟨bf,0,none⟩)] rfl rfl Tryz.call71 (IH (f - 1) qg (k+1) p s mode ((gath2 (fun l=>Chosen p s l mode) true (fit,out) (xO p s (f - 1) (cs.take k) n)).1) (cs.set k (n:Int)) ((gath2 (fun l=>Chosen p s l mode) true (fit,out) (xO p s (f - 1) (cs.take k) n)).2) bc bn bp bs bm bo bf apa cpa Fpa apf cpf Fpf apr cpr Fpr asc csc Fsc asa csa Fsa zI zC zH QA Qz racs cs.length rccs H1 N1 K1 (by exact p0) (by exact p1) (by exact p2.set0 qg ⟨by omega,by omega⟩) (by exact p3.up.set n) qg (by exact hf0) (by exact ⟨jb.1.1,j2⟩) (by exact jb.2)) ?_)
   clear H H1 N1 K1
   rintro _ w79 ⟨ra81,rn82,rc83,rx84,rF85,rfl,N,H⟩
   obtain rfl:=H.zB (α:=yLI) 7 rfl 5 rfl qj
   refine sp (.bool (!(decide ((gath2 (fun l=>Chosen p s l mode) true (((gath2 (fun l=>Chosen p s l mode) true (fit,out) (xO p s (f - 1) (cs.take k) n)).1),((gath2 (fun l=>Chosen p s l mode) true (fit,out) (xO p s (f - 1) (cs.take k) n)).2)) (leaves p s (f - 1) ((cs.set k (n:Int)).take (k+1)))).1≤1500)))) (zjn ?_)
   refine xC (!(decide ((gath2 (fun l=>Chosen p s l mode) true (((gath2 (fun l=>Chosen p s l mode) true (fit,out) (xO p s (f - 1) (cs.take k) n)).1),((gath2 (fun l=>Chosen p s l mode) true (fit,out) (xO p s (f - 1) (cs.take k) n)).2)) (leaves p s (f - 1) ((cs.set k (n:Int)).take (k+1)))).1≤1500))) rfl (fun h86=>?_) (fun h86=>?_)
   ·skip
    replace h86:=xB h86
    replace h86:=of_decide_eq_false h86
    refine zcr (sp (.bool false) (zjr (t_r (b_r (t_r (b_r (t_r (retD1 hD (.bool false) rfl rfl Tryz.call73 Tryz.func73 rfl Tryz.ntmps73 (Nat.le_of_ble_eq_true rfl) ?_))))))))
    clear hD D1
    refine xJ (oL rfl (H.cell 0 rfl rfl) (oL rfl (H.cell 9 rfl rfl) ?_))
    obtain ⟨b87,rfl⟩:=H.yg 8 rfl qg
    refine oI rfl rfl (sw (vg H 8 rfl 0 Tryz.sizeOf2 rfl rfl (i:=k) qg qg fun w88 H=>?_))
    try dsimp only [List.set] at H
    refine xN (ret0 rfl ⟨rfl,_,rfl,?_⟩)
    rw [zero_back qg p3] at H
    rw [walk_done (n:=n+1) qg (by rw [← e1];assumption) qg,← e1,decide_eq_false qm]
    exact ⟨ra81,((gath2 (fun l=>Chosen p s l mode) true (((gath2 (fun l=>Chosen p s l mode) true (fit,out) (xO p s (f - 1) (cs.take k) n)).1),((gath2 (fun l=>Chosen p s l mode) true (fit,out) (xO p s (f - 1) (cs.take k) n)).2)) (leaves p s (f - 1) ((cs.set k (n:Int)).take (k+1)))).2).length,rc83,rx84,rF85,rfl,N,H.QM 10 6 [0,1,2,3,4,5,6,7,8] [0,1,2,3,4,5] qp qp⟩
   ·skip
    replace h86:=xq h86
    replace h86:=of_decide_eq_true h86
    refine xf (t_n (xJ (oL rfl (H.cell 0 rfl rfl) (oL rfl (H.cell 9 rfl rfl) ?_))))
    obtain ⟨b89,rfl⟩:=H.yg 8 rfl qg
    refine oI rfl rfl (oL rfl (H.yE 8 rfl (iv:=k) (i:=k) qg qg) (sw (xX ((cs.set k (n:Int))[k]!) 1 rfl rfl qg (oI rfl rfl (sw (vg H 8 rfl (((cs.set k (n:Int))[k]!)+1) Tryz.sizeOf2 rfl rfl (i:=k) qg qg fun w90 H=>?_))))))
    try dsimp only [List.set] at H
    refine xN (b_n ?_)
    refine xg (m' :=1002 - (n+1)) qg ⟨_,((gath2 (fun l=>Chosen p s l mode) true (((gath2 (fun l=>Chosen p s l mode) true (fit,out) (xO p s (f - 1) (cs.take k) n)).1),((gath2 (fun l=>Chosen p s l mode) true (fit,out) (xO p s (f - 1) (cs.take k) n)).2)) (leaves p s (f - 1) ((cs.set k (n:Int)).take (k+1)))).1),ra81,((gath2 (fun l=>Chosen p s l mode) true (((gath2 (fun l=>Chosen p s l mode) true (fit,out) (xO p s (f - 1) (cs.take k) n)).1),((gath2 (fun l=>Chosen p s l mode) true (fit,out) (xO p s (f - 1) (cs.take k) n)).2)) (leaves p s (f - 1) ((cs.set k (n:Int)).take (k+1)))).2).length,rc83,((gath2 (fun l=>Chosen p s l mode) true (((gath2 (fun l=>Chosen p s l mode) true (fit,out) (xO p s (f - 1) (cs.take k) n)).1),((gath2 (fun l=>Chosen p s l mode) true (fit,out) (xO p s (f - 1) (cs.take k) n)).2)) (leaves p s (f - 1) ((cs.set k (n:Int)).take (k+1)))).2),rx84,rF85,((cs.set k (n:Int)).set k (((cs.set k (n:Int))[k]!)+1)),n+1,uE5,?_,?_,?_,?_,?_,rfl,N,H.QM 10 6 [9,0,1,2,3,4,5,6,7,8] [0,1,2,3,4,5] qp qp⟩
    · rw [e1]
    · rw [e1]
    · exact set_next qg n
    · omega
    · rw [← e1];assumption
  ·skip
   refine zx4 (zcr (sp (.bool true) (zjr (retD1 hD (.bool true) rfl rfl Tryz.call73 Tryz.func73 rfl Tryz.ntmps73 (Nat.le_of_ble_eq_true rfl) ?_))))
   clear hD D1
   refine xJ (oL rfl (H.cell 1 rfl rfl) (oL rfl (H.cell 0 rfl rfl) ?_))
   obtain ⟨b91,rfl⟩:=H.yg 9 rfl qg
   refine oI rfl rfl (sw (vg H 9 rfl 0 Tryz.sizeOf2 rfl rfl (i:=k) qg qg fun w92 H=>?_))
   try dsimp only [List.set] at H
   refine xN (ret0 rfl ⟨rfl,_,rfl,?_⟩)
   rw [zero_back qg p3] at H
   rw [walk_end p0 (len_first p2.1 qg) qg (n:=n) (fun h=>(by assumption:¬ NNTo _ _ _) ((fits_iff p0 p1 hc).2 ((fits_set qg p3.up n).2 h))) qg,decide_eq_true j2]
   exact ⟨zI,zC,zH,QA,Qz,rfl,N,H.QM 10 6 [1,2,3,4,5,6,7,8,9] [0,1,2,3,4,5] qp qp⟩

theorem from_ok (f:Nat):from_ok_S f:=Nat.strongRecOn (motive:=from_ok_S) f fun f IH=>by unfold from_ok_S;intros;apply from_ok_step f IH <;> assumption
theorem choices_ok (w:World) (p:qW) (s:qZ) (mode:Int) {qI:yOA} {xe:yLN} {apFree:yOA} {FpFree:yLN} {qR:yOA} {xx:yLN} {asCells:yOA} {FsCells:yLN} {qQ:yOA} {xw:yLN} (qX:qV.rep w xe [.slice qI p.qC.length qH] p.qC) (hpFree:qV.rep w FpFree [.slice apFree p.qL.length cpFree] p.qL) (xn:qV.rep w xx [.slice qR p.qB.length qM] p.qB) (hsCells:qV.rep w FsCells [.slice asCells s.qG.length csCells] s.qG) (xu:qV.rep w xw [.slice qQ s.qF.length qP] s.qF) (p0:zi p) (p1:xG p s):Calls Tryz.prog 41 #[.agg #[.int .i64 p.qJ,.slice qI p.qC.length qH,.slice apFree p.qL.length cpFree,.slice qR p.qB.length qM],.agg #[.slice asCells s.qG.length csCells,.slice qQ s.qF.length qP],.int .i64 mode] w (Ret (fun v w' =>∃ (ra0:yOA) (rn0:Nat) (rc0:Nat) (rx0:List Value) (rF0:yLN),v=.tuple #[.slice ra0 rn0 rc0,.int .i64 ((zJ p s mode).2)]∧Fresh w.heap.size [rF0]∧St w w' [rr ra0 rn0 rc0 22 1 rx0] [xW true rF0 rx0 ((zJ p s mode).1)]) w):=by
 refine en Tryz.func41 Tryz.ntmps41 ?_
 have H:=(((((St.start w).arg xu).arg hsCells).arg xn).arg hpFree).arg qX
 have zF:=qO qX
 have nhpFree:=qO hpFree
 have vC:=qO xn
 have nhsCells:=qO hsCells
 have vV:=qO xu
 clear qX hpFree xn hsCells xu
 have N:=Fresh.nil w.heap.size
 have p2:=p0.1.2.2.2.1
 refine zcr (sw (jd H [.int .i64 p.qJ,.slice qI p.qC.length qH,.slice apFree p.qL.length cpFree,.slice qR p.qB.length qM] fun b1 w2 H=>sw (jd H [.slice asCells s.qG.length csCells,.slice qQ s.qF.length qP] fun b3 w4 H=>sw (jd H [.int .i64 mode] fun b5 w6 H=>sps [.slice none 0 0,.int .i64 0] (zjc (sw (jH H Tryz.underlying27 ti22 fun b7 w8 H=>sw (ja H ti27 [.slice none 0 0] fun b9 w10 H=>sw (ja H ti3 [.int .i64 0] fun b11 w12 H=>sw (vz H 1 [.slice (some ⟨b7,0,none⟩) 0 0] Tryz.sizeOf27 fun w13 H=>?_))))))))))
 refine sw (vz H 0 [.int .i64 0] Tryz.sizeOf3 fun w14 H=>zjc (oF rfl (oL rfl (H.cell 5 rfl rfl) (oN rfl (sw (o_makeI H Tryz.underlying22 ti2 p.qB.length rfl rfl qg qg qg fun b15 w16 H=>sw (ja H ti22 [.slice none 0 0] fun b17 w18 H=>sw (vz H 0 [.slice (some ⟨b15,0,none⟩) p.qB.length p.qB.length] Tryz.sizeOf22 fun w19 H=>zjc (sw (ja H ti99 [.nilFunc] fun b20 w21 H=>zjc ?_))))))))))
 refine sp (.func (.func 71) #[] #[.pointer (some ⟨b17,0,none⟩),.pointer (some ⟨b11,0,none⟩),.pointer (some ⟨b1,0,none⟩),.pointer (some ⟨b3,0,none⟩),.pointer (some ⟨b5,0,none⟩),.pointer (some ⟨b9,0,none⟩),.pointer (some ⟨b20,0,none⟩)]) (sw (vz H 0 [.func (.func 71) #[] #[.pointer (some ⟨b17,0,none⟩),.pointer (some ⟨b11,0,none⟩),.pointer (some ⟨b1,0,none⟩),.pointer (some ⟨b3,0,none⟩),.pointer (some ⟨b5,0,none⟩),.pointer (some ⟨b9,0,none⟩),.pointer (some ⟨b20,0,none⟩)]] Tryz.sizeOf99 fun w22 H=>zjcc (oL rfl (H.cell 0 rfl rfl) ?_)))
 replace H:=H.boxRow 5 rfl 1 0 rfl qj
 replace H:=H.jC (α:=yLI)
 have H1:St w w22 [.box b17 [.slice (some ⟨b15,0,none⟩) p.qB.length p.qB.length] 22,.box b11 [.int .i64 0] 3,.box b1 [.int .i64 p.qJ,.slice qI p.qC.length qH,.slice apFree p.qL.length cpFree,.slice qR p.qB.length qM] 37,.box b3 [.slice asCells s.qG.length csCells,.slice qQ s.qF.length qP] 39,.box b5 [.int .i64 mode] 2,.box b9 [.slice (some ⟨b7,0,none⟩) 0 0] 27,.box b20 [.func (.func 71) #[] #[.pointer (some ⟨b17,0,none⟩),.pointer (some ⟨b11,0,none⟩),.pointer (some ⟨b1,0,none⟩),.pointer (some ⟨b3,0,none⟩),.pointer (some ⟨b5,0,none⟩),.pointer (some ⟨b9,0,none⟩),.pointer (some ⟨b20,0,none⟩)]] 99,rr (some ⟨b7,0,none⟩) 0 0 22 1 [],rr (some ⟨b15,0,none⟩) p.qB.length p.qB.length 2 1 ((List.replicate p.qB.length (0:Int)).map (Value.int .i64))] [sF false xe qI qH p.qC,sF false FpFree apFree cpFree p.qL,sF false xx qR qM p.qB,sF false FsCells asCells csCells s.qG,sF false xw qQ qP s.qF,xW true [] [] ([]:yLL)]:=H.pick [1,3,8,7,6,4,0,5,2] [1,2,3,4,5,0]
 have N1:Fresh _ [[]]:=N.emp
 have K1:Kept [] []:=Kept.nil _
 refine sw (o_callF #[.int .i64 0,.pointer (some ⟨b17,0,none⟩),.pointer (some ⟨b11,0,none⟩),.pointer (some ⟨b1,0,none⟩),.pointer (some ⟨b3,0,none⟩),.pointer (some ⟨b5,0,none⟩),.pointer (some ⟨b9,0,none⟩),.pointer (some ⟨b20,0,none⟩)] rfl rfl Tryz.call71 (from_ok p.qB.length 0 p s mode (0:Int) (List.replicate p.qB.length (0:Int)) ([]:yLL) b17 b11 b1 b3 b5 b9 b20 qI qH xe apFree cpFree FpFree qR qM xx asCells csCells FsCells qQ qP xw (some ⟨b7,0,none⟩) 0 0 [] [] (some ⟨b15,0,none⟩) p.qB.length p.qB.length H1 N1 K1 (by exact p0) (by exact p1) (by exact zeros_cnts p) (by exact zeros_from _) qg (by exact zeros_fit p0 p1 _) qj qj) ?_)
 clear H H1 N1 K1
 rintro _ w23 ⟨ra25,rn26,rc27,rx28,rF29,rfl,N,H⟩
 obtain rfl:=H.zB (α:=yLI) 7 rfl 5 rfl qj
 refine sp (.bool (!(decide ((gath2 (fun l=>Chosen p s l mode) true ((0:Int),([]:yLL)) (leaves p s p.qB.length ((List.replicate p.qB.length (0:Int)).take 0))).1≤1500)))) (zjn (xC (!(decide ((gath2 (fun l=>Chosen p s l mode) true ((0:Int),([]:yLL)) (leaves p s p.qB.length ((List.replicate p.qB.length (0:Int)).take 0))).1≤1500))) rfl (fun h30=>?_) (fun h30=>?_)))
 ·skip
  replace h30:=xB h30
  replace h30:=of_decide_eq_false h30
  refine zcr (sps [.slice none 0 0,.int .i64 3] (zjr (t_r ?_)))
  replace H:=H.nilRow 22 1
  replace H:=H.jC (α:=yLI)
  refine ret2 (.slice none 0 0) (.int .i64 3) rfl rfl rfl ⟨_,rfl,?_,H.base⟩
  rw [ch_no qm]
  exact ⟨none,0,0,[],[],rfl,(N.emp.pick [0]),H.pick [0] [0]⟩
 ·skip
  replace h30:=xq h30
  replace h30:=of_decide_eq_true h30
  refine xf (t_n (zcr (oL rfl (H.cell 5 rfl rfl) (sps [.slice ra25 (((gath2 (fun l=>Chosen p s l mode) true ((0:Int),([]:yLL)) (leaves p s p.qB.length ((List.replicate p.qB.length (0:Int)).take 0))).2).length) rc27,.int .i64 0] (zjr (ret2 (.slice ra25 (((gath2 (fun l=>Chosen p s l mode) true ((0:Int),([]:yLL)) (leaves p s p.qB.length ((List.replicate p.qB.length (0:Int)).take 0))).2).length) rc27) (.int .i64 0) rfl rfl rfl ⟨_,rfl,?_,H.base⟩))))))
  rw [ch_yes qm]
  exact ⟨ra25,((gath2 (fun l=>Chosen p s l mode) true ((0:Int),([]:yLL)) (leaves p s p.qB.length ((List.replicate p.qB.length (0:Int)).take 0))).2).length,rc27,rx28,rF29,rfl,N,H.pick [7] [5]⟩
theorem l00Put_ok (w:World) (l:yLI) (n:Int) {al:yOA} {Fl:yLN} (hl:qV.rep w Fl [.slice al l.length cl] l) (p0:l.length≤1000000):Calls Tryz.prog 52 #[.slice al l.length cl,.int .i64 n] w (Ret (fun v w' =>∃ (ra:yOA) (rn:Nat) (rc:Nat),v=.slice ra rn rc∧Fresh w.heap.size []∧St w w' [rr ra rn rc 2 1 ((putL n l).map (Value.int .i64))] []) w):=by
 refine en Tryz.func52 Tryz.ntmps52 ?_
 have H:=(St.start w).arg hl
 have nhl:=qO hl
 clear hl
 have N:=Fresh.nil w.heap.size
 refine zcr (sp (.slice none 0 0) (zjc (sw (jH H Tryz.underlying22 ti2 fun b1 w2 H=>sp (.slice (some ⟨b1,0,none⟩) 0 0) (zjc (sp (.bool false) (zjcc (sp (.int .i64 0) (zjn (xm ?_))))))))))
 replace H:=H.boxRowI 0 [] 0
 refine zK (fun m' ρ w3=>∃ (zu:Env) (zI:yOA) (zC:Nat) (zH:Nat) (out:yLI) (done:Bool) (i:Nat),ρ=upd (upd (upd (upd (upd zu 0 (.slice al l.length cl)) 1 (.int .i64 n)) 5 (.slice zI zC zH)) 6 (.bool done)) 7 (.int .i64 i)∧((i:Int)≤l.length)∧(PutTo n l out done i)∧m' =(l.length - (i:Int)).toNat∧Fresh w.heap.size []∧St w w3 [rr zI zC zH 2 1 (out.map (Value.int .i64))] [sF false Fl al cl l]) ((l.length - (0:Int)).toNat) ⟨_,(some ⟨b1,0,none⟩),0,0,([]:yLI),false,0,uE5,qg,(by exact PutTo.zero n l),rfl,N,H⟩ ?_
 clear H N
 rintro m' ρ w4 ⟨zu,zI,zC,zH,out,done,i,rfl,i0,i1,rfl,N,H⟩
 have hn_out:=H.y9 0 rfl
 have ob:=i1.bd
 refine zcc (sps [.int .i64 i,.slice al l.length cl] (oN rfl (sp (.bool (decide ((i:Int) < l.length))) (zjn (cD rfl (fun h5=>?_) (fun h5=>?_))))))
 ·skip
  refine xf (t_n (xP (xm (zcc (sps [.bool done,.bool !done,.bool !done] ?_)))))
  cases h6:(!done)
  ·skip
   replace h6:=xq h6
   refine zG [18,19,20,21,22,23] (sp (.bool false) (zjn (xC false rfl (fun h=>absurd h qj) (fun _=>xf (t_n (xJ (sps [.slice zI zC zH,.slice al l.length cl,.int .i64 i] ?_)))))))
   obtain ⟨b7,o8,rfl⟩:=H.addr 0 rfl qg
   refine oI rfl rfl (oL rfl (H.vY 0 rfl i qg qg) (sw (zt H Tryz.underlying22 ti2 [.int .i64 (l[i]!)] fun b10 w11 H=>sw (zA H 1 rfl 0 rfl Tryz.underlying22 ti2 rfl qj rfl rfl rfl qx qw qg fun a12 c13 w14 H=>?_))))
   rw [snocI] at H
   refine sp (.slice a12 (zC+1) c13) (xN (b_n (t_n (xJ (sp (.int .i64 i) (sw (xX i 1 rfl rfl qg (sp (.int .i64 (i+1)) (xN (xg (m' :=(l.length - ((i+1):Int)).toNat) qg ⟨_,a12,zC+1,c13,(out++[l[i]!]),done,i+1,uE5,?_,?_,rfl,N,H.pick [1] [0]⟩))))))))))
   · omega
   · first | exact i1.on qm qg | exact i1.less qm qg qm | exact i1.same qm qg qm qm | exact i1.more qm qg qm
  ·skip
   replace h6:=xB h6
   refine qY 17 rfl rfl (sp (.slice al l.length cl) (qY 17 rfl rfl (sp (.int .i64 i) (qY 17 rfl rfl ?_))))
   obtain ⟨b15,o16,rfl⟩:=H.addr 0 rfl qg
   refine oI rfl rfl (qY 17 rfl rfl (oL rfl (H.vY 0 rfl i qg qg) (qY 17 rfl rfl (sp (.int .i64 n) (qY 17 rfl rfl (sps [.bool (decide ((l[i]! :Int)≥n)),.bool (decide ((l[i]! :Int)≥n))] (zjn (cD rfl (fun h18=>?_) (fun h18=>?_)))))))))
   ·skip
    refine zcr (sp (.bool true) (zjc (sps [.slice (some ⟨b15,o16,none⟩) l.length cl,.int .i64 i] (oI rfl rfl (oL rfl (H.vY 0 rfl i qg qg) (sps [.int .i64 n,.bool (decide ((l[i]! :Int) > n))] (zjn (cD rfl (fun h19=>?_) (fun h19=>?_)))))))))
    ·skip
     refine xJ (sps [.slice zI zC zH,.int .i64 n] (sw (zt H Tryz.underlying22 ti2 [.int .i64 n] fun b20 w21 H=>sw (zA H 1 rfl 0 rfl Tryz.underlying22 ti2 rfl qj rfl rfl rfl qx qw qg fun a22 c23 w24 H=>?_))))
     rw [snocI] at H
     refine sp (.slice a22 (zC+1) c23) (zjn (xJ (sps [.slice a22 (zC+1) c23,.slice (some ⟨b15,o16,none⟩) l.length cl,.int .i64 i] (oI rfl rfl (oL rfl (H.vY 0 rfl i qg qg) (sw (zt H Tryz.underlying22 ti2 [.int .i64 (l[i]!)] fun b25 w26 H=>sw (zA H 2 rfl 0 rfl Tryz.underlying22 ti2 rfl qj rfl rfl rfl qx qw qg fun a27 c28 w29 H=>?_))))))))
     rw [snocI] at H
     refine sp (.slice a27 ((zC+1)+1) c28) (xN (b_n (t_n (xJ (sp (.int .i64 i) (sw (xX i 1 rfl rfl qg (sp (.int .i64 (i+1)) (xN (xg (m' :=(l.length - ((i+1):Int)).toNat) qg ⟨_,a27,(zC+1)+1,c28,((out++[n])++[l[i]!]),true,i+1,uE5,?_,?_,rfl,N,H.pick [2] [0]⟩))))))))))
     · omega
     · first | exact i1.on qm qg | exact i1.less qm qg qm | exact i1.same qm qg qm qm | exact i1.more qm qg qm
    ·skip
     refine xf (t_n (xJ (sps [.slice zI zC zH,.slice (some ⟨b15,o16,none⟩) l.length cl,.int .i64 i] (oI rfl rfl (oL rfl (H.vY 0 rfl i qg qg) (sw (zt H Tryz.underlying22 ti2 [.int .i64 (l[i]!)] fun b30 w31 H=>sw (zA H 1 rfl 0 rfl Tryz.underlying22 ti2 rfl qj rfl rfl rfl qx qw qg fun a32 c33 w34 H=>?_))))))))
     rw [snocI] at H
     refine sp (.slice a32 (zC+1) c33) (xN (b_n (t_n (xJ (sp (.int .i64 i) (sw (xX i 1 rfl rfl qg (sp (.int .i64 (i+1)) (xN (xg (m' :=(l.length - ((i+1):Int)).toNat) qg ⟨_,a32,zC+1,c33,(out++[l[i]!]),true,i+1,uE5,?_,?_,rfl,N,H.pick [1] [0]⟩))))))))))
     · omega
     · first | exact i1.on qm qg | exact i1.less qm qg qm | exact i1.same qm qg qm qm | exact i1.more qm qg qm
   ·skip
    refine xf (t_n (xJ (sps [.slice zI zC zH,.slice (some ⟨b15,o16,none⟩) l.length cl,.int .i64 i] (oI rfl rfl (oL rfl (H.vY 0 rfl i qg qg) (sw (zt H Tryz.underlying22 ti2 [.int .i64 (l[i]!)] fun b35 w36 H=>sw (zA H 1 rfl 0 rfl Tryz.underlying22 ti2 rfl qj rfl rfl rfl qx qw qg fun a37 c38 w39 H=>?_))))))))
    rw [snocI] at H
    refine sp (.slice a37 (zC+1) c38) (xN (b_n (t_n (xJ (sp (.int .i64 i) (sw (xX i 1 rfl rfl qg (sp (.int .i64 (i+1)) (xN (xg (m' :=(l.length - ((i+1):Int)).toNat) qg ⟨_,a37,zC+1,c38,(out++[l[i]!]),done,i+1,uE5,?_,?_,rfl,N,H.pick [1] [0]⟩))))))))))
    · omega
    · first | exact i1.on qm qg | exact i1.less qm qg qm | exact i1.same qm qg qm qm | exact i1.more qm qg qm
 ·skip
  refine zx4 (zcc (sps [.bool done,.bool !done] (zjn (xC (!done) rfl (fun h40=>?_) (fun h40=>?_)))))
  ·skip
   replace h40:=xB h40
   refine xJ (sps [.slice zI zC zH,.int .i64 n] (sw (zt H Tryz.underlying22 ti2 [.int .i64 n] fun b41 w42 H=>sw (zA H 1 rfl 0 rfl Tryz.underlying22 ti2 rfl qj rfl rfl rfl qx qw qg fun a43 c44 w45 H=>?_))))
   rw [snocI] at H
   refine sp (.slice a43 (zC+1) c44) (zjc (sps [.slice a43 (zC+1) c44,.slice a43 (zC+1) c44] (zjr (ret1 (.slice a43 (zC+1) c44) rfl rfl ⟨_,rfl,?_,H.base⟩))))
   first | rw [← i1.yes qm qg] | rw [← i1.no qm qg]
   exact ⟨a43,zC+1,c44,rfl,N,H.pick [1] []⟩
  ·skip
   replace h40:=xq h40
   refine xf (t_n (zcr (sps [.slice zI zC zH,.slice zI zC zH] (zjr (ret1 (.slice zI zC zH) rfl rfl ⟨_,rfl,?_,H.base⟩)))))
   first | rw [← i1.yes qm qg] | rw [← i1.no qm qg]
   exact ⟨zI,zC,zH,rfl,N,H.pick [0] []⟩
end
end Go.Proofs.YtkgdkfkgnodheaaGreat
