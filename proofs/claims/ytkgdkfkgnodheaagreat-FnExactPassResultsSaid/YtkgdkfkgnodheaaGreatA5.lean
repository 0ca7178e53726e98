/- Walks and laws, printed by program and by hand: what each function comes to, for all arguments, part 5. -/
import Derived.Test.YtkgdkfkgnodheaaGreatA4
import Derived.Test.YtkgdkfkgnodheaaGreatRows
import Derived.ProofKit
import Derived.OpenShut
import Derived.Carry
import Derived.BigQuiet
import Derived.Lib.SmallJoins
namespace Go.Proofs.YtkgdkfkgnodheaaGreat
set_option linter.unusedVariables false
set_option linter.unusedSimpArgs false
open Go.Proofs.YtkgdkfkgnodheaaGreat.Tot (tot)
open Go.Proofs.YtkgdkfkgnodheaaGreat.Mark (cnt mrk mkd mkd_mark cnt_mark)
section
open Go.RowKit
set_option linter.unusedVariables false
set_option linter.unusedSimpArgs false
set_option maxRecDepth 100000
set_option maxHeartbeats 4000000
def sortLI_ren:Go.Shelf.Ren:=⟨fun | 53=>77 | 64=>100 | 63=>99 | 78=>125 | 79=>126 | 70=>116 | 71=>117 | 72=>118 | 73=>119 | 74=>120 | 75=>121 | 59=>122 | 76=>123 | 77=>124 | 88=>131 | 89=>132 | 90=>133 | 91=>134 | 92=>135 | 68=>136 | 96=>137 | n=>n,fun | 22=>22 | 23=>2 | 3=>3 | 51=>126 | 0=>0 | 67=>148 | 69=>150 | 4=>4 | 61=>140 | 60=>139 | 44=>145 | 5=>5 | 9=>9 | 75=>155 | 79=>159 | 83=>161 | 84=>162 | n=>n,fun | n=>n⟩
theorem sortLI:Go.Proofs.SlLaysN.n53 Tryz.prog sortLI_ren:={
  mixed:=by kernel_rfl
  f53:=⟨Tryz.f77.name,by decide,Tryz.func77.trans (congrArg some (by kernel_rfl))⟩
  f59:=⟨Tryz.f122.name,by decide,Tryz.func122.trans (congrArg some (by kernel_rfl))⟩
  f63:=⟨Tryz.f99.name,by decide,Tryz.func99.trans (congrArg some (by kernel_rfl))⟩
  f64:=Tryz.func100.trans (congrArg some (by kernel_rfl))
  f68:=⟨Tryz.f136.name,by decide,Tryz.func136.trans (congrArg some (by kernel_rfl))⟩
  f70:=⟨Tryz.f116.name,by decide,Tryz.func116.trans (congrArg some (by kernel_rfl))⟩
  f71:=⟨Tryz.f117.name,by decide,Tryz.func117.trans (congrArg some (by kernel_rfl))⟩
  f72:=⟨Tryz.f118.name,by decide,Tryz.func118.trans (congrArg some (by kernel_rfl))⟩
  f73:=⟨Tryz.f119.name,by decide,Tryz.func119.trans (congrArg some (by kernel_rfl))⟩
  f74:=⟨Tryz.f120.name,by decide,Tryz.func120.trans (congrArg some (by kernel_rfl))⟩
  f75:=⟨Tryz.f121.name,by decide,Tryz.func121.trans (congrArg some (by kernel_rfl))⟩
  f76:=⟨Tryz.f123.name,by decide,Tryz.func123.trans (congrArg some (by kernel_rfl))⟩
  f77:=⟨Tryz.f124.name,by decide,Tryz.func124.trans (congrArg some (by kernel_rfl))⟩
  f78:=Tryz.func125.trans (congrArg some (by kernel_rfl))
  f79:=Tryz.func126.trans (congrArg some (by kernel_rfl))
  f88:=⟨Tryz.f131.name,by decide,Tryz.func131.trans (congrArg some (by kernel_rfl))⟩
  f89:=Tryz.func132.trans (congrArg some (by kernel_rfl))
  f90:=Tryz.func133.trans (congrArg some (by kernel_rfl))
  f91:=⟨Tryz.f134.name,by decide,Tryz.func134.trans (congrArg some (by kernel_rfl))⟩
  f92:=⟨Tryz.f135.name,by decide,Tryz.func135.trans (congrArg some (by kernel_rfl))⟩
  f96:=⟨Tryz.f137.name,by decide,Tryz.func137.trans (congrArg some (by kernel_rfl))⟩
  t0:=Tryz.underlying0
  a0:=Tryz.isAgg0
  z0:=Tryz.sizeOf0
  v0:=Tryz.zeroValue0
  t3:=Tryz.underlying3
  a3:=Tryz.isAgg3
  z3:=Tryz.sizeOf3
  v3:=Tryz.zeroValue3
  t4:=Tryz.underlying4
  a4:=Tryz.isAgg4
  z4:=Tryz.sizeOf4
  v4:=Tryz.zeroValue4
  t5:=Tryz.underlying5
  a5:=Tryz.isAgg5
  z5:=Tryz.sizeOf5
  v5:=Tryz.zeroValue5
  t9:=Tryz.underlying9
  a9:=Tryz.isAgg9
  z9:=Tryz.sizeOf9
  v9:=Tryz.zeroValue9
  t22:=Tryz.underlying22
  a22:=Tryz.isAgg22
  z22:=Tryz.sizeOf22
  v22:=Tryz.zeroValue22
  t23:=Tryz.underlying2
  a23:=Tryz.isAgg2
  z23:=Tryz.sizeOf2
  v23:=Tryz.zeroValue2
  t44:=Tryz.underlying145
  a44:=Tryz.isAgg145
  z44:=Tryz.sizeOf145
  v44:=Tryz.zeroValue145
  t51:=Tryz.underlying126
  a51:=Tryz.isAgg126
  z51:=Tryz.sizeOf126
  v51:=Tryz.zeroValue126
  t60:=Tryz.underlying139
  a60:=Tryz.isAgg139
  z60:=Tryz.sizeOf139
  v60:=Tryz.zeroValue139
  t61:=Tryz.underlying140
  a61:=Tryz.isAgg140
  z61:=Tryz.sizeOf140
  v61:=Tryz.zeroValue140
  t67:=Tryz.underlying148
  a67:=Tryz.isAgg148
  z67:=Tryz.sizeOf148
  v67:=Tryz.zeroValue148
  t69:=Tryz.underlying150
  a69:=Tryz.isAgg150
  z69:=Tryz.sizeOf150
  v69:=Tryz.zeroValue150
  t75:=Tryz.underlying155
  a75:=Tryz.isAgg155
  z75:=Tryz.sizeOf155
  v75:=Tryz.zeroValue155
  t79:=Tryz.underlying159
  a79:=Tryz.isAgg159
  z79:=Tryz.sizeOf159
  v79:=Tryz.zeroValue159
  t83:=Tryz.underlying161
  a83:=Tryz.isAgg161
  z83:=Tryz.sizeOf161
  v83:=Tryz.zeroValue161
  t84:=Tryz.underlying162
  a84:=Tryz.isAgg162
  z84:=Tryz.sizeOf162
  v84:=Tryz.zeroValue162 }
def compLI_ren:Go.Shelf.Ren:=⟨fun | 43=>78 | n=>n,fun | 22=>22 | 23=>2 | 3=>3 | 4=>4 | 0=>0 | n=>n,fun | n=>n⟩
theorem compLI:Go.Proofs.SlLaysN.n43 Tryz.prog compLI_ren:={
  mixed:=by kernel_rfl
  f43:=⟨Tryz.f78.name,by decide,Tryz.func78.trans (congrArg some (by kernel_rfl))⟩
  t0:=Tryz.underlying0
  a0:=Tryz.isAgg0
  z0:=Tryz.sizeOf0
  v0:=Tryz.zeroValue0
  t3:=Tryz.underlying3
  a3:=Tryz.isAgg3
  z3:=Tryz.sizeOf3
  v3:=Tryz.zeroValue3
  t4:=Tryz.underlying4
  a4:=Tryz.isAgg4
  z4:=Tryz.sizeOf4
  v4:=Tryz.zeroValue4
  t22:=Tryz.underlying22
  a22:=Tryz.isAgg22
  z22:=Tryz.sizeOf22
  v22:=Tryz.zeroValue22
  t23:=Tryz.underlying2
  a23:=Tryz.isAgg2
  z23:=Tryz.sizeOf2
  v23:=Tryz.zeroValue2
  i23:=by kernel_rfl }

theorem implGraph_ok (w:World) (p:qW) (s:qZ) (mode:Int) {qI:yOA} {qH:Nat} {xe:yLN} {apFree:yOA} {cpFree:Nat} {FpFree:yLN} {qR:yOA} {qM:Nat} {xx:yLN} {asCells:yOA} {csCells:Nat} {FsCells:yLN} {qQ:yOA} {qP:Nat} {xw:yLN} (qX:qV.rep w xe [.slice qI p.qC.length qH] p.qC) (hpFree:qV.rep w FpFree [.slice apFree p.qL.length cpFree] p.qL) (xn:qV.rep w xx [.slice qR p.qB.length qM] p.qB) (hsCells:qV.rep w FsCells [.slice asCells s.qG.length csCells] s.qG) (xu:qV.rep w xw [.slice qQ s.qF.length qP] s.qF):Calls Tryz.prog 11 #[.agg #[.int .i64 p.qJ,.slice qI p.qC.length qH,.slice apFree p.qL.length cpFree,.slice qR p.qB.length qM],.agg #[.slice asCells s.qG.length csCells,.slice qQ s.qF.length qP],.int .i64 mode] w (Ret (fun v w' =>∃ (ra0:yOA) (rn0:Nat) (rc0:Nat) (rx0:List Value) (rF0:yLN) (ra1:yOA) (rn1:Nat) (rc1:Nat) (rx1:List Value) (rF1:yLN),v=.tuple #[.slice ra0 rn0 rc0,.slice ra1 rn1 rc1,.int .i64 ((ve p s mode).2.2)]∧Fresh w.heap.size [rF0,rF1]∧St w w' [rr ra0 rn0 rc0 39 2 rx0,rr ra1 rn1 rc1 22 1 rx1] [xW true rF0 rx0 ((ve p s mode).1),xW true rF1 rx1 ((ve p s mode).2.1)]) w):=by
 refine en Tryz.func11 Tryz.ntmps11 ?_
 have H:=(((((St.start w).arg xu).arg hsCells).arg xn).arg hpFree).arg qX
 have zF:=qO qX
 have nhpFree:=qO hpFree
 have vC:=qO xn
 have nhsCells:=qO hsCells
 have vV:=qO xu
 clear qX hpFree xn hsCells xu
 have N:=Fresh.nil w.heap.size
 refine zcr (sw (jd H [.int .i64 p.qJ,.slice qI p.qC.length qH,.slice apFree p.qL.length cpFree,.slice qR p.qB.length qM] fun b1 w2 H=>sw (jd H [.slice asCells s.qG.length csCells,.slice qQ s.qF.length qP] fun b3 w4 H=>sps [.slice none 0 0,.slice none 0 0,.int .i64 0] (zjcc (sw (xZ [.int .i64 p.qJ,.slice qI p.qC.length qH,.slice apFree p.qL.length cpFree,.slice qR p.qB.length qM] Tryz.isAgg37 Tryz.sizeOf37 rfl (qN (H.cells 1 rfl) 0 4) ?_))))))
 refine sw (xZ [.slice asCells s.qG.length csCells,.slice qQ s.qF.length qP] Tryz.isAgg39 Tryz.sizeOf39 rfl (qN (H.cells 0 rfl) 0 2) (sp (.int .i64 mode) (sw (oq (modeOf_ok _ p s mode (H.get 0 rfl).1 (H.get 1 rfl).1 (H.get 2 rfl).1 (H.get 3 rfl).1 (H.get 4 rfl).1) H fun w6 H=>sp (.int .i64 (jc p s mode)) (zjc (sps [.int .i64 (jc p s mode),.bool ((jc p s mode:Int) != 0)] (zjn (xC ((jc p s mode:Int) != 0) rfl (fun h8=>?_) (fun h8=>?_)))))))))
 ·skip
  replace h8:=bne_iff_ne.1 h8
  refine zcr (sps [.int .i64 (jc p s mode),.slice none 0 0,.slice none 0 0,.int .i64 (jc p s mode)] (zjr (t_r ?_)))
  replace H:=H.nilRow 39 2
  replace H:=H.jC (α:=qZ)
  replace H:=H.nilRow 22 1
  replace H:=H.jC (α:=yLI)
  refine ret3 (.slice none 0 0) (.slice none 0 0) (.int .i64 (jc p s mode)) rfl rfl rfl rfl ⟨_,rfl,?_,H.base⟩
  rw [pg_code qm]
  exact ⟨none,0,0,[],[],none,0,0,[],[],rfl,N.emp.emp,H.pick [1,0] [0,0]⟩
 ·skip
  replace h8:=xA h8
  obtain ⟨p0,p1,p2⟩:=mcode_ok h8
  have k0:=h8
  refine xf (t_n (xP ?_))
  have z0:Cnts1 p (List.replicate p.qB.length (0:Int)):=⟨by simp,fun i hi=>by rw [zeros_get];omega⟩
  have z1:=p0.1.2.2.2.1
  refine c_cut (fun ρ w17=>∃ (zu:Env) (b9:Nat) (ra10:yOA) (rc11:Nat) (ra12:yOA) (rc13:Nat) (rx14:List Value) (b15:Nat) (rF16:yLN),ρ=upd (upd (upd zu 2 (.int .i64 mode)) 3 (.pointer (some ⟨b1,0,none⟩))) 10 (.pointer (some ⟨b9,0,none⟩))∧Fresh w.heap.size [rF16]∧St w w17 [.box b9 [.slice ra10 ((((xk p s (List.replicate p.qB.length (0:Int))).1).qG).length) rc11,.slice ra12 ((((xk p s (List.replicate p.qB.length (0:Int))).1).qF).length) rc13] 39,rr ra10 ((((xk p s (List.replicate p.qB.length (0:Int))).1).qG).length) rc11 22 1 rx14,rr ra12 ((((xk p s (List.replicate p.qB.length (0:Int))).1).qF).length) rc13 2 1 ((((xk p s (List.replicate p.qB.length (0:Int))).1).qF).map (Value.int .i64)),rr (some ⟨b15,0,none⟩) p.qB.length p.qB.length 2 1 ((List.replicate p.qB.length (0:Int)).map (Value.int .i64)),.box b3 [.slice asCells s.qG.length csCells,.slice qQ s.qF.length qP] 39,.box b1 [.int .i64 p.qJ,.slice qI p.qC.length qH,.slice apFree p.qL.length cpFree,.slice qR p.qB.length qM] 37] [xW true rF16 rx14 (((xk p s (List.replicate p.qB.length (0:Int))).1).qG),sF false xe qI qH p.qC,sF false FpFree apFree cpFree p.qL,sF false xx qR qM p.qB,sF false FsCells asCells csCells s.qG,sF false xw qQ qP s.qF]) ?_ ?_
  ·skip
   refine vK rfl H fun H=>rt 0 (.agg #[.int .i64 p.qJ,.slice qI p.qC.length qH,.slice apFree p.qL.length cpFree,.slice qR p.qB.length qM]) (Qc (cs:=[.int .i64 p.qJ,.slice qI p.qC.length qH,.slice apFree p.qL.length cpFree,.slice qR p.qB.length qM]) Tryz.isAgg37 Tryz.sizeOf37 rfl (fun _ h=>qN (h.cells 1 rfl) 0 4)) H ?_
   refine rt 1 (.agg #[.slice asCells s.qG.length csCells,.slice qQ s.qF.length qP]) (Qc (cs:=[.slice asCells s.qG.length csCells,.slice qQ s.qF.length qP]) Tryz.isAgg39 Tryz.sizeOf39 rfl (fun _ h=>qN (h.cells 0 rfl) 0 2)) H ?_
   refine tF 2 rfl rfl H ?_
   refine tL 3 rfl rfl (fun _ h=>h.cell 1 rfl rfl) H ?_
   refine tN 4 rfl rfl H ?_
   refine yz [5,10] qi qo (r_op rfl ?_ (r_op rfl ?_ yA))
   ·skip
    refine o_makeI H Tryz.underlying22 ti2 p.qB.length rfl rfl qg qg qg fun b19 w20 H=>⟨H.pick [1,2] [0,1,2,3,4],(yz [6,10] qi qo (r_op rfl ?_ (r_op rfl ?_ yA)))⟩
    ·skip
     obtain ⟨G21,hn22,h23⟩:=H.Qa 0 rfl
     have sz27:=H.base.size
     refine oc (args_eq (by rw [← hn22]) (step_ok _ p s (List.replicate p.qB.length (0:Int)) (H.get 0 rfl).1 (H.get 1 rfl).1 (H.get 2 rfl).1 (H.get 3 rfl).1 (H.get 4 rfl).1 (rep_at hn22 h23) (by exact p0) (by first | exact p1 | assumption) qm)) ?_
     rintro _ w25 ⟨ra24aCells,rn24aCells,rc24aCells,rx24aCells,rF24aCells,ra24aAround,rn24aAround,rc24aAround,rfl,M,K⟩ _
     replace N:=N.merge sz27 qo M
     replace H:=H.merge K M
     obtain rfl:=H.zB (α:=yLI) 0 rfl 0 rfl qj
     obtain rfl:=H.y9 1 rfl
     refine ⟨H.pick [3,4] [1,2,3,4,5],?_⟩
     have S:=H.zq [3,4] [1,2,3,4,5]
     refine rtp 7 (.tuple #[.agg #[.slice ra24aCells ((((xk p s (List.replicate p.qB.length (0:Int))).1).qG).length) rc24aCells,.slice ra24aAround ((((xk p s (List.replicate p.qB.length (0:Int))).1).qF).length) rc24aAround],.int .i64 ((xk p s (List.replicate p.qB.length (0:Int))).2)]) S ?_
     refine rtp 8 (.agg #[.slice ra24aCells ((((xk p s (List.replicate p.qB.length (0:Int))).1).qG).length) rc24aCells,.slice ra24aAround ((((xk p s (List.replicate p.qB.length (0:Int))).1).qF).length) rc24aAround]) S ?_
     refine rtp 9 (.int .i64 ((xk p s (List.replicate p.qB.length (0:Int))).2)) S ?_
     refine ro 10 rfl (ja H ti39 [.slice none 0 0,.slice none 0 0] fun b31 w32 H=>⟨H.pick [4,5] [1,2,3,4,5],(ro 11 rfl (jA H 0 [.slice ra24aCells ((((xk p s (List.replicate p.qB.length (0:Int))).1).qG).length) rc24aCells,.slice ra24aAround ((((xk p s (List.replicate p.qB.length (0:Int))).1).qF).length) rc24aAround] Tryz.sizeOf39 fun w33 H=>⟨H.pick [4,5] [1,2,3,4,5],(rtp 12 (.int .i64 ((xk p s (List.replicate p.qB.length (0:Int))).2)) (H.pick [4,5] [1,2,3,4,5]) ?_)⟩))⟩)
     refine xI qi ((meet ⟨_,b31,ra24aCells,rc24aCells,ra24aAround,rc24aAround,rx24aCells,b19,rF24aCells,uE3,N,H⟩))
    ·skip
     refine ja H ti39 [.slice none 0 0,.slice none 0 0] fun b34 w35 H=>⟨H.pick [2,3] [0,1,2,3,4],(ro 6 rfl ?_)⟩
     obtain ⟨G36,hn37,h38⟩:=H.Qa 1 rfl
     have sz42:=H.base.size
     refine oc (args_eq (by rw [← hn37]) (step_ok _ p s (List.replicate p.qB.length (0:Int)) (H.get 0 rfl).1 (H.get 1 rfl).1 (H.get 2 rfl).1 (H.get 3 rfl).1 (H.get 4 rfl).1 (rep_at hn37 h38) (by exact p0) (by first | exact p1 | assumption) qm)) ?_
     rintro _ w40 ⟨ra39aCells,rn39aCells,rc39aCells,rx39aCells,rF39aCells,ra39aAround,rn39aAround,rc39aAround,rfl,M,K⟩ _
     replace N:=N.merge sz42 qo M
     replace H:=H.merge K M
     obtain rfl:=H.zB (α:=yLI) 0 rfl 0 rfl qj
     obtain rfl:=H.y9 1 rfl
     refine ⟨H.pick [4,5] [1,2,3,4,5],?_⟩
     have S:=H.zq [4,5] [1,2,3,4,5]
     refine rtp 7 (.tuple #[.agg #[.slice ra39aCells ((((xk p s (List.replicate p.qB.length (0:Int))).1).qG).length) rc39aCells,.slice ra39aAround ((((xk p s (List.replicate p.qB.length (0:Int))).1).qF).length) rc39aAround],.int .i64 ((xk p s (List.replicate p.qB.length (0:Int))).2)]) S ?_
     refine rtp 8 (.agg #[.slice ra39aCells ((((xk p s (List.replicate p.qB.length (0:Int))).1).qG).length) rc39aCells,.slice ra39aAround ((((xk p s (List.replicate p.qB.length (0:Int))).1).qF).length) rc39aAround]) S ?_
     refine rtp 9 (.int .i64 ((xk p s (List.replicate p.qB.length (0:Int))).2)) S ?_
     refine ro 11 rfl (jA H 2 [.slice ra39aCells ((((xk p s (List.replicate p.qB.length (0:Int))).1).qG).length) rc39aCells,.slice ra39aAround ((((xk p s (List.replicate p.qB.length (0:Int))).1).qF).length) rc39aAround] Tryz.sizeOf39 fun w46 H=>⟨H.pick [4,5] [1,2,3,4,5],(rtp 12 (.int .i64 ((xk p s (List.replicate p.qB.length (0:Int))).2)) (H.pick [4,5] [1,2,3,4,5]) ?_)⟩)
     refine xI qi ((meet ⟨_,b34,ra39aCells,rc39aCells,ra39aAround,rc39aAround,rx39aCells,b19,rF39aCells,uE3,N,H.pick [2,0,1,3,4,5] [0,1,2,3,4,5]⟩))
   ·skip
    refine ja H ti39 [.slice none 0 0,.slice none 0 0] fun b47 w48 H=>⟨H.pick [1,2] [0,1,2,3,4],(ro 5 rfl (o_makeI H Tryz.underlying22 ti2 p.qB.length rfl rfl qg qg qg fun b49 w50 H=>⟨H.pick [2,3] [0,1,2,3,4],(ro 6 rfl ?_)⟩))⟩
    obtain ⟨G51,hn52,h53⟩:=H.Qa 0 rfl
    have sz57:=H.base.size
    refine oc (args_eq (by rw [← hn52]) (step_ok _ p s (List.replicate p.qB.length (0:Int)) (H.get 0 rfl).1 (H.get 1 rfl).1 (H.get 2 rfl).1 (H.get 3 rfl).1 (H.get 4 rfl).1 (rep_at hn52 h53) (by exact p0) (by first | exact p1 | assumption) qm)) ?_
    rintro _ w55 ⟨ra54aCells,rn54aCells,rc54aCells,rx54aCells,rF54aCells,ra54aAround,rn54aAround,rc54aAround,rfl,M,K⟩ _
    replace N:=N.merge sz57 qo M
    replace H:=H.merge K M
    obtain rfl:=H.zB (α:=yLI) 0 rfl 0 rfl qj
    obtain rfl:=H.y9 1 rfl
    refine ⟨H.pick [4,5] [1,2,3,4,5],?_⟩
    have S:=H.zq [4,5] [1,2,3,4,5]
    refine rtp 7 (.tuple #[.agg #[.slice ra54aCells ((((xk p s (List.replicate p.qB.length (0:Int))).1).qG).length) rc54aCells,.slice ra54aAround ((((xk p s (List.replicate p.qB.length (0:Int))).1).qF).length) rc54aAround],.int .i64 ((xk p s (List.replicate p.qB.length (0:Int))).2)]) S ?_
    refine rtp 8 (.agg #[.slice ra54aCells ((((xk p s (List.replicate p.qB.length (0:Int))).1).qG).length) rc54aCells,.slice ra54aAround ((((xk p s (List.replicate p.qB.length (0:Int))).1).qF).length) rc54aAround]) S ?_
    refine rtp 9 (.int .i64 ((xk p s (List.replicate p.qB.length (0:Int))).2)) S ?_
    refine ro 11 rfl (jA H 3 [.slice ra54aCells ((((xk p s (List.replicate p.qB.length (0:Int))).1).qG).length) rc54aCells,.slice ra54aAround ((((xk p s (List.replicate p.qB.length (0:Int))).1).qF).length) rc54aAround] Tryz.sizeOf39 fun w61 H=>⟨H.pick [4,5] [1,2,3,4,5],(rtp 12 (.int .i64 ((xk p s (List.replicate p.qB.length (0:Int))).2)) (H.pick [4,5] [1,2,3,4,5]) ?_)⟩)
    refine xI qi ((meet ⟨_,b47,ra54aCells,rc54aCells,ra54aAround,rc54aAround,rx54aCells,b49,rF54aCells,uE3,N,H.pick [3,0,1,2,4,5] [0,1,2,3,4,5]⟩))
  ·skip
   clear H N
   rintro ρ w62 ⟨zu,b9,ra10,rc11,ra12,rc13,rx14,b15,rF16,rfl,N,H⟩
   refine t_n (xP ?_)
   have e0:(xk p s (List.replicate p.qB.length (0:Int))).1=s:=by rw [pstep_none p0 p1]
   rw [e0] at H
   refine xJ (sw (xZ [.slice ra10 ((s.qG).length) rc11,.slice ra12 ((s.qF).length) rc13] Tryz.isAgg39 Tryz.sizeOf39 rfl (qN (H.cells 0 rfl) 0 2) (sw (zt H Tryz.underlying32 ti39 [.slice ra10 ((s.qG).length) rc11,.slice ra12 ((s.qF).length) rc13] fun b63 w64 H=>sw (jH H Tryz.underlying27 ti22 fun b65 w66 H=>sps [.slice (some ⟨b63,0,none⟩) 1 1,.slice (some ⟨b65,0,none⟩) 0 0] (zjcc (sp (.int .i64 0) (zjn (xm ?_)))))))))
   replace H:=H.boxRow 1 rfl 2 1 rfl qj
   replace H:=H.jC (α:=qZ)
   have H0:=H
   obtain ⟨G67,hg69,hn68,H⟩:=H.freezeR (α:=yLI) 3 rfl 1 rfl qj
   replace N:Fresh w.heap.size [G67]:=Fresh.ice N H0 3 hg69.1 hg69.2 (H0.jL [])
   clear H0
   obtain ⟨G70,N,hn71,H⟩:=H.vw 4 rfl N (H.jL [0])
   replace H:=H.snoc_StockD 2 rfl 1 rfl 0 rfl
   replace N:Fresh w.heap.size [([]++(G67++G70))]:=(N.emp.pick [2,1,0]).join.swap.join
   replace H:St _ _ [.box b65 [] 22,rr (some ⟨b63,0,none⟩) 1 1 39 2 [.slice ra10 ((s.qG).length) rc11,.slice ra12 ((s.qF).length) rc13],.box b9 [.slice ra10 ((s.qG).length) rc11,.slice ra12 ((s.qF).length) rc13] 39,rr none 0 0 0 1 [],rr none 0 0 0 1 [],rr (some ⟨b15,0,none⟩) p.qB.length p.qB.length 2 1 ((List.replicate p.qB.length (0:Int)).map (Value.int .i64)),.box b3 [.slice asCells s.qG.length csCells,.slice qQ s.qF.length qP] 39,.box b1 [.int .i64 p.qJ,.slice qI p.qC.length qH,.slice apFree p.qL.length cpFree,.slice qR p.qB.length qM] 37] [xW true ([]++(G67++G70)) [.slice ra10 ((s.qG).length) rc11,.slice ra12 ((s.qF).length) rc13] [s],sF true G70 ra12 rc13 s.qF,sF true G67 ra10 rc11 s.qG,xW true [] [] ([]:List qZ),xW true rF16 rx14 s.qG,sF false xe qI qH p.qC,sF false FpFree apFree cpFree p.qL,sF false xx qR qM p.qB,sF false FsCells asCells csCells s.qG,sF false xw qQ qP s.qF]:=H
   replace H:=H.boxRow 0 rfl 1 0 rfl qj
   replace H:=H.jC (α:=yLI)
   refine zK (fun m' ρ w72=>∃ (zu:Env) (yR:yOA) (vM:Nat) (jD:Nat) (list:List qZ) (x_list:List Value) (F_list:yLN) (zY:yOA) (zT:Nat) (zX:Nat) (next:yLL) (jK:List Value) (vk:yLN) (i:Nat),ρ=upd (upd (upd (upd (upd zu 2 (.int .i64 mode)) 3 (.pointer (some ⟨b1,0,none⟩))) 12 (.slice yR vM jD)) 13 (.slice zY zT zX)) 14 (.int .i64 i)∧(yV p s mode i=some (list,next))∧(i≤list.length)∧m' =200 - i∧Fresh w.heap.size [F_list,vk]∧St w w72 [rr zY zT zX 22 1 jK,rr yR vM jD 39 2 x_list,.box b9 [.slice ra10 ((s.qG).length) rc11,.slice ra12 ((s.qF).length) rc13] 39,rr (some ⟨b15,0,none⟩) p.qB.length p.qB.length 2 1 ((List.replicate p.qB.length (0:Int)).map (Value.int .i64)),.box b3 [.slice asCells s.qG.length csCells,.slice qQ s.qF.length qP] 39,.box b1 [.int .i64 p.qJ,.slice qI p.qC.length qH,.slice apFree p.qL.length cpFree,.slice qR p.qB.length qM] 37] [xW true vk jK next,xW true F_list x_list list,sF true G70 ra12 rc13 s.qF,sF true G67 ra10 rc11 s.qG,sF false xe qI qH p.qC,sF false FpFree apFree cpFree p.qL,sF false xx qR qM p.qB,sF false FsCells asCells csCells s.qG,sF false xw qQ qP s.qF]) (200 - 0) ⟨_,(some ⟨b63,0,none⟩),1,1,[s],[.slice ra10 ((s.qG).length) rc11,.slice ra12 ((s.qF).length) rc13],([]++(G67++G70)),(some ⟨b65,0,none⟩),0,0,([]:yLL),[],[],0,uE5,(by rfl),(by exact Nat.zero_le _),rfl,(N.emp.pick [1,0]),H.pick [0,1,2,5,6,7] [0,1,2,3,6,7,8,9,10]⟩ ?_
   clear H N
   rintro m' ρ w73 ⟨zu,yR,vM,jD,list,x_list,F_list,zY,zT,zX,next,jK,vk,i,rfl,j1,j0,rfl,N,H⟩
   have hn_list:=H.zB (α:=qZ) 1 rfl 1 rfl qj
   have hn_next:=H.zB (α:=yLI) 0 rfl 0 rfl qj
   have oo:=outTo_ok p1 i j1
   obtain ⟨ol1,ol2,ol3⟩:=outTo_len i j1
   have ol4:=ol3 j0
   refine zcc (sps [.int .i64 i,.slice yR vM jD] (oN rfl (sp (.bool (decide ((i:Int) < vM))) (zjn (cD rfl (fun h74=>?_) (fun h74=>?_))))))
   ·skip
    refine xf (t_n (xP (xm (xP ?_))))
    refine vK rfl H fun H=>rt 0 (.agg #[.int .i64 p.qJ,.slice qI p.qC.length qH,.slice apFree p.qL.length cpFree,.slice qR p.qB.length qM]) (Qc (cs:=[.int .i64 p.qJ,.slice qI p.qC.length qH,.slice apFree p.qL.length cpFree,.slice qR p.qB.length qM]) Tryz.isAgg37 Tryz.sizeOf37 rfl (fun _ h=>qN (h.cells 5 rfl) 0 4)) H ?_
    refine rtp 1 (.slice yR vM jD) H ?_
    refine rtp 2 (.int .i64 i) H ?_
    obtain ⟨b76,rfl⟩:=H.yg 1 rfl qg
    obtain ⟨ae77Cells,ce77Cells,Fe77Cells,ae77Around,ce77Around,Fe77Around,hx78,H⟩:=H.rowel_StockD 1 rfl 1 rfl (iv:=i) i qg qg
    have S:=H.zq [0,1,2,3,4,5] [2,3,4,5,6,7,8,9,10]
    refine tI 3 rfl rfl rfl S ?_
    refine rt 4 (.agg #[.slice ae77Cells (((list[i]!).qG).length) ce77Cells,.slice ae77Around (((list[i]!).qF).length) ce77Around]) (Qc (cs:=[.slice ae77Cells (((list[i]!).qG).length) ce77Cells,.slice ae77Around (((list[i]!).qF).length) ce77Around]) Tryz.isAgg39 Tryz.sizeOf39 rfl (fun _ h=>qN (fun j v hj=>h.rowGet 1 rfl (hx78 j v hj)) 0 2)) S ?_
    refine rtp 5 (.int .i64 mode) S ?_
    refine ro 6 rfl ?_
    have so:=oo i qg
    have sz82:=H.base.size
    have lt83:=H.ltN (L:=[F_list,vk]) [3,2]
    refine oc (choices_ok _ p (list[i]!) mode (H.get 6 rfl).1 (H.get 7 rfl).1 (H.get 8 rfl).1 (H.get 0 rfl).1 (H.get 1 rfl).1 (by exact p0) (by first | exact p1 | assumption)) ?_
    rintro _ w80 ⟨ra79a,rn79a,rc79a,rx79a,rF79a,rfl,M,K⟩ _
    replace N:=N.merge sz82 lt83 M
    replace H:=H.merge K M
    obtain rfl:=H.zB (α:=yLI) 0 rfl 0 rfl qj
    refine ⟨H.pick [1,2,3,4,5,6] [3,4,5,6,7,8,9,10,11],?_⟩
    have S:=H.zq [1,2,3,4,5,6] [3,4,5,6,7,8,9,10,11]
    refine rtp 7 (.tuple #[.slice ra79a (((zJ p (list[i]!) mode).1).length) rc79a,.int .i64 ((zJ p (list[i]!) mode).2)]) S ?_
    refine rtp 8 (.slice ra79a (((zJ p (list[i]!) mode).1).length) rc79a) S ?_
    refine rtp 9 (.int .i64 ((zJ p (list[i]!) mode).2)) S ?_
    refine rtp 10 (.slice ra79a (((zJ p (list[i]!) mode).1).length) rc79a) S ?_
    refine rtp 11 (.int .i64 ((zJ p (list[i]!) mode).2)) S ?_
    refine xI qi (t_n (zcc (sps [.int .i64 ((zJ p (list[i]!) mode).2),.bool (((zJ p (list[i]!) mode).2:Int) != 0)] (zjn (xC (((zJ p (list[i]!) mode).2:Int) != 0) rfl (fun h85=>?_) (fun h85=>?_))))))
    ·skip
     replace h85:=bne_iff_ne.1 h85
     have hm:=ch_many h85
     refine zcr (sps [.int .i64 ((zJ p (list[i]!) mode).2),.slice none 0 0,.slice none 0 0,.int .i64 ((zJ p (list[i]!) mode).2)] (zjr (t_r (zr5 ?_))))
     replace H:=H.nilRow 39 2
     replace H:=H.jC (α:=qZ)
     replace H:=H.nilRow 22 1
     replace H:=H.jC (α:=yLI)
     refine ret3 (.slice none 0 0) (.slice none 0 0) (.int .i64 ((zJ p (list[i]!) mode).2)) rfl rfl rfl rfl ⟨_,rfl,?_,H.base⟩
     rw [pg_no k0 (vF (outTo_much j1 qg hm.2) qg),hm.1]
     exact ⟨none,0,0,[],[],none,0,0,[],[],rfl,(N.emp.emp.pick [0,1]),H.pick [1,0] [0,0]⟩
    ·skip
     replace h85:=xA h85
     have so:=oo i qg
     have hc:=h85
     have hcr:=(ch_ok hc).2
     have hcl:=chr_len hc
     refine xf (t_n (zcr (sw (jH H Tryz.underlying22 ti2 fun b86 w87 H=>sp (.slice (some ⟨b86,0,none⟩) 0 0) (zjcc (sp (.slice ra79a (((zJ p (list[i]!) mode).1).length) rc79a) (oN rfl (sp (.int .i64 0) (zjn (xm ?_))))))))))
     replace H:=H.boxRowI 0 [] 0
     refine zK (fun m' ρ w88=>∃ (zu:Env) (a_list_1:yOA) (xE:Nat) (zl:Nat) (list_1:List qZ) (vP:List Value) (zN:yLN) (a_own:yOA) (n_own:Nat) (c_own:Nat) (own:yLI) (k:Nat),ρ=upd (upd (upd (upd (upd (upd (upd (upd (upd zu 2 (.int .i64 mode)) 3 (.pointer (some ⟨b1,0,none⟩))) 12 (.slice a_list_1 xE zl)) 13 (.slice zY zT zX)) 14 (.int .i64 i)) 17 (.slice a_own n_own c_own)) 63 (.slice ra79a (((zJ p (list[i]!) mode).1).length) rc79a)) 64 (.int .i64 (((zJ p (list[i]!) mode).1).length))) 65 (.int .i64 k)∧((k:Int)≤(((zJ p (list[i]!) mode).1).length))∧(inTo p (list[i]!) (zJ p (list[i]!) mode).1 list k=some (list_1,own))∧m' =((((zJ p (list[i]!) mode).1).length) - (k:Int)).toNat∧Fresh w.heap.size [rF79a,vk,zN]∧St w w88 [rr a_own n_own c_own 2 1 (own.map (Value.int .i64)),rr ra79a (((zJ p (list[i]!) mode).1).length) rc79a 22 1 rx79a,rr zY zT zX 22 1 jK,rr a_list_1 xE zl 39 2 vP,.box b9 [.slice ra10 ((s.qG).length) rc11,.slice ra12 ((s.qF).length) rc13] 39,rr (some ⟨b15,0,none⟩) p.qB.length p.qB.length 2 1 ((List.replicate p.qB.length (0:Int)).map (Value.int .i64)),.box b3 [.slice asCells s.qG.length csCells,.slice qQ s.qF.length qP] 39,.box b1 [.int .i64 p.qJ,.slice qI p.qC.length qH,.slice apFree p.qL.length cpFree,.slice qR p.qB.length qM] 37] [xW true rF79a rx79a ((zJ p (list[i]!) mode).1),xW true vk jK next,xW true zN vP list_1,sF true G70 ra12 rc13 s.qF,sF true G67 ra10 rc11 s.qG,sF false xe qI qH p.qC,sF false FpFree apFree cpFree p.qL,sF false xx qR qM p.qB,sF false FsCells asCells csCells s.qG,sF false xw qQ qP s.qF]) (((((zJ p (list[i]!) mode).1).length) - (0:Int)).toNat) ⟨_,(some ⟨b76,0,none⟩),vM,jD,list,x_list,F_list,(some ⟨b86,0,none⟩),0,0,([]:yLI),0,uE9,qg,(by rfl),rfl,(N.pick [0,2,1]),H.pick [0,1,2,3,4,5,6,7] [0,3,4,5,6,7,8,9,10,11]⟩ ?_
     clear H N
     rintro m' ρ w89 ⟨zu,a_list_1,xE,zl,list_1,vP,zN,a_own,n_own,c_own,own,k,rfl,i0,k1,rfl,N,H⟩
     have hn_list:=H.zB (α:=qZ) 3 rfl 2 rfl qj
     have hn_own:=H.y9 0 rfl
     obtain ⟨il1,il2,il3⟩:=inTo_len ol2 k k1
     refine zcr (sp (.bool (decide ((k:Int) < (((zJ p (list[i]!) mode).1).length)))) (zjn (xP (cD rfl (fun h90=>?_) (fun h90=>?_)))))
     ·skip
      refine xf (t_n (xP (xm (zcr ?_))))
      obtain ⟨b91,rfl⟩:=H.yg 1 rfl qg
      refine oI rfl rfl ?_
      obtain ⟨a92,c93,G94,s95,h96,H⟩:=H.jX 1 rfl 0 rfl (iv:=k) k qg qg
      refine oL rfl (h96) (sp (.slice a92 ((((zJ p (list[i]!) mode).1)[k]!).length) c93) (zjn (xP ?_)))
      obtain ⟨b97,rfl⟩:=H.yg 3 rfl qg
      refine c_cut (fun ρ w105=>∃ (zu:Env) (b98:Nat) (ra99:yOA) (rc100:Nat) (ra101:yOA) (rc102:Nat) (rx103:List Value) (rF104:yLN),ρ=upd (upd (upd (upd (upd (upd (upd (upd (upd (upd (upd zu 2 (.int .i64 mode)) 3 (.pointer (some ⟨b1,0,none⟩))) 12 (.slice (some ⟨b97,0,none⟩) xE zl)) 13 (.slice zY zT zX)) 14 (.int .i64 i)) 17 (.slice a_own n_own c_own)) 20 (.pointer (some ⟨b98,0,none⟩))) 21 (.int .i64 ((xk p (list_1[i]!) (((zJ p (list[i]!) mode).1)[k]!)).2))) 63 (.slice (some ⟨b91,0,none⟩) (((zJ p (list[i]!) mode).1).length) rc79a)) 64 (.int .i64 (((zJ p (list[i]!) mode).1).length))) 65 (.int .i64 k)∧Fresh w.heap.size [rF104,rF79a,vk,zN]∧St w w105 [.box b98 [.slice ra99 ((((xk p (list_1[i]!) (((zJ p (list[i]!) mode).1)[k]!)).1).qG).length) rc100,.slice ra101 ((((xk p (list_1[i]!) (((zJ p (list[i]!) mode).1)[k]!)).1).qF).length) rc102] 39,rr ra99 ((((xk p (list_1[i]!) (((zJ p (list[i]!) mode).1)[k]!)).1).qG).length) rc100 22 1 rx103,rr ra101 ((((xk p (list_1[i]!) (((zJ p (list[i]!) mode).1)[k]!)).1).qF).length) rc102 2 1 ((((xk p (list_1[i]!) (((zJ p (list[i]!) mode).1)[k]!)).1).qF).map (Value.int .i64)),rr a_own n_own c_own 2 1 (own.map (Value.int .i64)),rr (some ⟨b91,0,none⟩) (((zJ p (list[i]!) mode).1).length) rc79a 22 1 rx79a,rr zY zT zX 22 1 jK,rr (some ⟨b97,0,none⟩) xE zl 39 2 vP,.box b9 [.slice ra10 ((s.qG).length) rc11,.slice ra12 ((s.qF).length) rc13] 39,rr (some ⟨b15,0,none⟩) p.qB.length p.qB.length 2 1 ((List.replicate p.qB.length (0:Int)).map (Value.int .i64)),.box b3 [.slice asCells s.qG.length csCells,.slice qQ s.qF.length qP] 39,.box b1 [.int .i64 p.qJ,.slice qI p.qC.length qH,.slice apFree p.qL.length cpFree,.slice qR p.qB.length qM] 37] [xW true rF104 rx103 (((xk p (list_1[i]!) (((zJ p (list[i]!) mode).1)[k]!)).1).qG),xW true rF79a rx79a ((zJ p (list[i]!) mode).1),xW true vk jK next,xW true zN vP list_1,sF true G70 ra12 rc13 s.qF,sF true G67 ra10 rc11 s.qG,sF false xe qI qH p.qC,sF false FpFree apFree cpFree p.qL,sF false xx qR qM p.qB,sF false FsCells asCells csCells s.qG,sF false xw qQ qP s.qF]) ?_ ?_
      ·skip
       refine vK rfl H fun H=>rt 0 (.agg #[.int .i64 p.qJ,.slice qI p.qC.length qH,.slice apFree p.qL.length cpFree,.slice qR p.qB.length qM]) (Qc (cs:=[.int .i64 p.qJ,.slice qI p.qC.length qH,.slice apFree p.qL.length cpFree,.slice qR p.qB.length qM]) Tryz.isAgg37 Tryz.sizeOf37 rfl (fun _ h=>qN (h.cells 7 rfl) 0 4)) H ?_
       refine rtp 1 (.slice (some ⟨b97,0,none⟩) xE zl) H ?_
       refine rtp 2 (.int .i64 i) H ?_
       obtain ⟨ae107Cells,ce107Cells,Fe107Cells,ae107Around,ce107Around,Fe107Around,hx108,H⟩:=H.rowel_StockD 3 rfl 3 rfl (iv:=i) i qg qg
       have S:=H.zq [0,1,2,3,4,5,6,7] [2,3,4,5,6,7,8,9,10,11,12]
       refine tI 3 rfl rfl rfl S ?_
       refine rt 4 (.agg #[.slice ae107Cells (((list_1[i]!).qG).length) ce107Cells,.slice ae107Around (((list_1[i]!).qF).length) ce107Around]) (Qc (cs:=[.slice ae107Cells (((list_1[i]!).qG).length) ce107Cells,.slice ae107Around (((list_1[i]!).qF).length) ce107Around]) Tryz.isAgg39 Tryz.sizeOf39 rfl (fun _ h=>qN (fun j v hj=>h.rowGet 3 rfl (hx108 j v hj)) 0 2)) S ?_
       refine rtp 5 (.slice a92 ((((zJ p (list[i]!) mode).1)[k]!).length) c93) S ?_
       refine yz [6,10] qi qo (r_op rfl ?_ (r_op rfl ?_ yA))
       ·skip
        have qc:=chr_mem p0 so hc (k:=k) qg
        have le:=inTo_pre k k1 i qg
        have so1:xG p (list_1[i]!):=by rw [le];exact so
        have sz112:=H.base.size
        have lt113:=H.ltN (L:=[rF79a,vk,zN]) [3,4,5]
        refine oc (step_ok _ p (list_1[i]!) (((zJ p (list[i]!) mode).1)[k]!) (H.get 8 rfl).1 (H.get 9 rfl).1 (H.get 10 rfl).1 (H.get 0 rfl).1 (H.get 1 rfl).1 (H.get 2 rfl).1 (by exact p0) (by first | exact p1 | assumption) qm) ?_
        rintro _ w110 ⟨ra109aCells,rn109aCells,rc109aCells,rx109aCells,rF109aCells,ra109aAround,rn109aAround,rc109aAround,rfl,M,K⟩ _
        replace N:=N.merge sz112 lt113 M
        replace H:=H.merge K M
        obtain rfl:=H.zB (α:=yLI) 0 rfl 0 rfl qj
        obtain rfl:=H.y9 1 rfl
        refine ⟨H.pick [2,3,4,5,6,7,8,9] [3,4,5,6,7,8,9,10,11,12,13],?_⟩
        have S:=H.zq [2,3,4,5,6,7,8,9] [3,4,5,6,7,8,9,10,11,12,13]
        refine rtp 7 (.tuple #[.agg #[.slice ra109aCells ((((xk p (list_1[i]!) (((zJ p (list[i]!) mode).1)[k]!)).1).qG).length) rc109aCells,.slice ra109aAround ((((xk p (list_1[i]!) (((zJ p (list[i]!) mode).1)[k]!)).1).qF).length) rc109aAround],.int .i64 ((xk p (list_1[i]!) (((zJ p (list[i]!) mode).1)[k]!)).2)]) S ?_
        refine rtp 8 (.agg #[.slice ra109aCells ((((xk p (list_1[i]!) (((zJ p (list[i]!) mode).1)[k]!)).1).qG).length) rc109aCells,.slice ra109aAround ((((xk p (list_1[i]!) (((zJ p (list[i]!) mode).1)[k]!)).1).qF).length) rc109aAround]) S ?_
        refine rtp 9 (.int .i64 ((xk p (list_1[i]!) (((zJ p (list[i]!) mode).1)[k]!)).2)) S ?_
        refine ro 10 rfl (ja H ti39 [.slice none 0 0,.slice none 0 0] fun b116 w117 H=>⟨H.pick [3,4,5,6,7,8,9,10] [3,4,5,6,7,8,9,10,11,12,13],(ro 11 rfl (jA H 0 [.slice ra109aCells ((((xk p (list_1[i]!) (((zJ p (list[i]!) mode).1)[k]!)).1).qG).length) rc109aCells,.slice ra109aAround ((((xk p (list_1[i]!) (((zJ p (list[i]!) mode).1)[k]!)).1).qF).length) rc109aAround] Tryz.sizeOf39 fun w118 H=>⟨H.pick [3,4,5,6,7,8,9,10] [3,4,5,6,7,8,9,10,11,12,13],(rtp 12 (.int .i64 ((xk p (list_1[i]!) (((zJ p (list[i]!) mode).1)[k]!)).2)) (H.pick [3,4,5,6,7,8,9,10] [3,4,5,6,7,8,9,10,11,12,13]) ?_)⟩))⟩)
        refine xI qi ((meet ⟨_,b116,ra109aCells,rc109aCells,ra109aAround,rc109aAround,rx109aCells,rF109aCells,uE11,N,H.pick [0,1,2,3,4,5,6,7,8,9,10] [0,4,5,6,7,8,9,10,11,12,13]⟩))
       ·skip
        refine ja H ti39 [.slice none 0 0,.slice none 0 0] fun b119 w120 H=>⟨H.pick [1,2,3,4,5,6,7,8] [2,3,4,5,6,7,8,9,10,11,12],(ro 6 rfl ?_)⟩
        have qc:=chr_mem p0 so hc (k:=k) qg
        have le:=inTo_pre k k1 i qg
        have so1:xG p (list_1[i]!):=by rw [le];exact so
        have sz124:=H.base.size
        have lt125:=H.ltN (L:=[rF79a,vk,zN]) [3,4,5]
        refine oc (step_ok _ p (list_1[i]!) (((zJ p (list[i]!) mode).1)[k]!) (H.get 8 rfl).1 (H.get 9 rfl).1 (H.get 10 rfl).1 (H.get 0 rfl).1 (H.get 1 rfl).1 (H.get 2 rfl).1 (by exact p0) (by first | exact p1 | assumption) qm) ?_
        rintro _ w122 ⟨ra121aCells,rn121aCells,rc121aCells,rx121aCells,rF121aCells,ra121aAround,rn121aAround,rc121aAround,rfl,M,K⟩ _
        replace N:=N.merge sz124 lt125 M
        replace H:=H.merge K M
        obtain rfl:=H.zB (α:=yLI) 0 rfl 0 rfl qj
        obtain rfl:=H.y9 1 rfl
        refine ⟨H.pick [3,4,5,6,7,8,9,10] [3,4,5,6,7,8,9,10,11,12,13],?_⟩
        have S:=H.zq [3,4,5,6,7,8,9,10] [3,4,5,6,7,8,9,10,11,12,13]
        refine rtp 7 (.tuple #[.agg #[.slice ra121aCells ((((xk p (list_1[i]!) (((zJ p (list[i]!) mode).1)[k]!)).1).qG).length) rc121aCells,.slice ra121aAround ((((xk p (list_1[i]!) (((zJ p (list[i]!) mode).1)[k]!)).1).qF).length) rc121aAround],.int .i64 ((xk p (list_1[i]!) (((zJ p (list[i]!) mode).1)[k]!)).2)]) S ?_
        refine rtp 8 (.agg #[.slice ra121aCells ((((xk p (list_1[i]!) (((zJ p (list[i]!) mode).1)[k]!)).1).qG).length) rc121aCells,.slice ra121aAround ((((xk p (list_1[i]!) (((zJ p (list[i]!) mode).1)[k]!)).1).qF).length) rc121aAround]) S ?_
        refine rtp 9 (.int .i64 ((xk p (list_1[i]!) (((zJ p (list[i]!) mode).1)[k]!)).2)) S ?_
        refine ro 11 rfl (jA H 2 [.slice ra121aCells ((((xk p (list_1[i]!) (((zJ p (list[i]!) mode).1)[k]!)).1).qG).length) rc121aCells,.slice ra121aAround ((((xk p (list_1[i]!) (((zJ p (list[i]!) mode).1)[k]!)).1).qF).length) rc121aAround] Tryz.sizeOf39 fun w128 H=>⟨H.pick [3,4,5,6,7,8,9,10] [3,4,5,6,7,8,9,10,11,12,13],(rtp 12 (.int .i64 ((xk p (list_1[i]!) (((zJ p (list[i]!) mode).1)[k]!)).2)) (H.pick [3,4,5,6,7,8,9,10] [3,4,5,6,7,8,9,10,11,12,13]) ?_)⟩)
        refine xI qi ((meet ⟨_,b119,ra121aCells,rc121aCells,ra121aAround,rc121aAround,rx121aCells,rF121aCells,uE11,N,H.pick [2,0,1,3,4,5,6,7,8,9,10] [0,4,5,6,7,8,9,10,11,12,13]⟩))
      ·skip
       clear H N
       rintro ρ w129 ⟨zu,b98,ra99,rc100,ra101,rc102,rx103,rF104,rfl,N,H⟩
       refine t_n (zcc (sps [.int .i64 ((xk p (list_1[i]!) (((zJ p (list[i]!) mode).1)[k]!)).2),.bool (((xk p (list_1[i]!) (((zJ p (list[i]!) mode).1)[k]!)).2:Int) != 0)] (zjn (xC (((xk p (list_1[i]!) (((zJ p (list[i]!) mode).1)[k]!)).2:Int) != 0) rfl (fun h130=>?_) (fun h130=>?_)))))
       ·skip
        replace h130:=bne_iff_ne.1 h130
        have le:=inTo_pre k k1 i qg
        have hb0:=pstep_bad h130
        have hb:=hb0.1
        rw [le] at hb
        refine zcr (sps [.int .i64 ((xk p (list_1[i]!) (((zJ p (list[i]!) mode).1)[k]!)).2),.slice none 0 0,.slice none 0 0,.int .i64 ((xk p (list_1[i]!) (((zJ p (list[i]!) mode).1)[k]!)).2)] (zjr (t_r (zr5 (zr5 ?_)))))
        replace H:=H.nilRow 39 2
        replace H:=H.jC (α:=qZ)
        replace H:=H.nilRow 22 1
        replace H:=H.jC (α:=yLI)
        refine ret3 (.slice none 0 0) (.slice none 0 0) (.int .i64 ((xk p (list_1[i]!) (((zJ p (list[i]!) mode).1)[k]!)).2)) rfl rfl rfl rfl ⟨_,rfl,?_,H.base⟩
        rw [pg_no k0 (vF (Qk j1 qg (k:=k+1) (by rw [← hcr];omega) (inTo_bad (hcr▸k1) (hcr▸hb))) qg),hb0.2]
        exact ⟨none,0,0,[],[],none,0,0,[],[],rfl,(N.emp.emp.pick [0,1]),H.pick [1,0] [0,0]⟩
       ·skip
        replace h130:=xA h130
        have le:=inTo_pre k k1 i qg
        obtain ⟨hs,he⟩:=pstep_is h130
        rw [le] at hs
        have he2:(xk p (list_1[i]!) (((zJ p (list[i]!) mode).1)[k]!)).1=(vH p (list[i]!) (((zJ p (list[i]!) mode).1)[k]!)):=he.trans (by rw [le])
        rw [he2] at H
        refine xf (t_n (zcr (sps [.slice (some ⟨b97,0,none⟩) xE zl,.func (.func 43) #[] #[.pointer (some ⟨b98,0,none⟩)]] (sw (jG #[.slice (some ⟨b97,0,none⟩) xE zl,.func (.func 43) #[] #[.pointer (some ⟨b98,0,none⟩)]] rfl rfl Tryz.call42 (en Tryz.func42 Tryz.ntmps42 ?_))))))
        refine zcr (sp (.int .i64 0) (zjcc (sp (.slice (some ⟨b97,0,none⟩) xE zl) (oN rfl (sp (.int .i64 0) (zjn (xm ?_)))))))
        refine zK (fun m' ρ w131=>∃ (zu:Env) (i_1:Nat),ρ=upd (upd (upd (upd zu 0 (.slice (some ⟨b97,0,none⟩) xE zl)) 1 (.func (.func 43) #[] #[.pointer (some ⟨b98,0,none⟩)])) 7 (.int .i64 xE)) 8 (.int .i64 i_1)∧((i_1:Int)≤xE)∧(noneTo (fun zz=>decide (list_1[zz]! =(vH p (list[i]!) (((zJ p (list[i]!) mode).1)[k]!)))) i_1)∧m' =(xE - (i_1:Int)).toNat∧Fresh w.heap.size [rF104,rF79a,vk,zN]∧St w w131 [.box b98 [.slice ra99 (((vH p (list[i]!) (((zJ p (list[i]!) mode).1)[k]!)).qG).length) rc100,.slice ra101 (((vH p (list[i]!) (((zJ p (list[i]!) mode).1)[k]!)).qF).length) rc102] 39,rr ra99 (((vH p (list[i]!) (((zJ p (list[i]!) mode).1)[k]!)).qG).length) rc100 22 1 rx103,rr ra101 (((vH p (list[i]!) (((zJ p (list[i]!) mode).1)[k]!)).qF).length) rc102 2 1 (((vH p (list[i]!) (((zJ p (list[i]!) mode).1)[k]!)).qF).map (Value.int .i64)),rr a_own n_own c_own 2 1 (own.map (Value.int .i64)),rr (some ⟨b91,0,none⟩) (((zJ p (list[i]!) mode).1).length) rc79a 22 1 rx79a,rr zY zT zX 22 1 jK,rr (some ⟨b97,0,none⟩) xE zl 39 2 vP,.box b9 [.slice ra10 ((s.qG).length) rc11,.slice ra12 ((s.qF).length) rc13] 39,rr (some ⟨b15,0,none⟩) p.qB.length p.qB.length 2 1 ((List.replicate p.qB.length (0:Int)).map (Value.int .i64)),.box b3 [.slice asCells s.qG.length csCells,.slice qQ s.qF.length qP] 39,.box b1 [.int .i64 p.qJ,.slice qI p.qC.length qH,.slice apFree p.qL.length cpFree,.slice qR p.qB.length qM] 37] [xW true rF104 rx103 ((vH p (list[i]!) (((zJ p (list[i]!) mode).1)[k]!)).qG),xW true rF79a rx79a ((zJ p (list[i]!) mode).1),xW true vk jK next,xW true zN vP list_1,sF true G70 ra12 rc13 s.qF,sF true G67 ra10 rc11 s.qG,sF false xe qI qH p.qC,sF false FpFree apFree cpFree p.qL,sF false xx qR qM p.qB,sF false FsCells asCells csCells s.qG,sF false xw qQ qP s.qF]) ((xE - (0:Int)).toNat) ⟨_,0,uE4,qg,qy,rfl,N,H⟩ ?_
        clear H N
        rintro m' ρ w132 ⟨zu,i_1,rfl,i0,i1,rfl,N,H⟩
        refine zcr (sp (.bool (decide ((i_1:Int) < xE))) (zjn (xP (cD rfl (fun h133=>?_) (fun h133=>?_)))))
        ·skip
         refine xf (t_n (xP (xm (zcr (sps [.int .i64 i_1,.int .i64 i_1] (zjc (sps [.func (.func 43) #[] #[.pointer (some ⟨b98,0,none⟩)],.slice (some ⟨b97,0,none⟩) xE zl,.int .i64 i_1] ?_)))))))
         obtain ⟨ae134Cells,ce134Cells,Fe134Cells,ae134Around,ce134Around,Fe134Around,hx135,H⟩:=H.rowel_StockD 6 rfl 3 rfl (iv:=i_1) i_1 qg qg
         refine oI rfl rfl (sw (xZ [.slice ae134Cells (((list_1[i_1]!).qG).length) ce134Cells,.slice ae134Around (((list_1[i_1]!).qF).length) ce134Around] Tryz.isAgg39 Tryz.sizeOf39 rfl (qN (fun j v hj=>H.rowGet 6 rfl (hx135 j v hj)) 0 2) (sw (jG #[.agg #[.slice ae134Cells (((list_1[i_1]!).qG).length) ce134Cells,.slice ae134Around (((list_1[i_1]!).qF).length) ce134Around],.pointer (some ⟨b98,0,none⟩)] rfl rfl Tryz.call43 (en Tryz.func43 Tryz.ntmps43 ?_)))))
         refine zcr (sw (jd H [.slice ae134Cells (((list_1[i_1]!).qG).length) ce134Cells,.slice ae134Around (((list_1[i_1]!).qF).length) ce134Around] fun b136 w137 H=>sp (.bool false) (zjc (sw (xZ [.slice ae134Cells (((list_1[i_1]!).qG).length) ce134Cells,.slice ae134Around (((list_1[i_1]!).qF).length) ce134Around] Tryz.isAgg39 Tryz.sizeOf39 rfl (qN (H.cells 0 rfl) 0 2) ?_)))))
         refine sw (xZ [.slice ra99 (((vH p (list[i]!) (((zJ p (list[i]!) mode).1)[k]!)).qG).length) rc100,.slice ra101 (((vH p (list[i]!) (((zJ p (list[i]!) mode).1)[k]!)).qF).length) rc102] Tryz.isAgg39 Tryz.sizeOf39 rfl (qN (H.cells 1 rfl) 0 2) ?_)
         obtain ⟨G138,hn139,h140⟩:=H.rowIsR (α:=yLI) 2 rfl 2 rfl qj
         obtain ⟨G141,hn142,h143⟩:=H.Qa 3 rfl
         refine sw (oq (sameStock_ok _ (list_1[i_1]!) (vH p (list[i]!) (((zJ p (list[i]!) mode).1)[k]!)) (H.get 0 rfl).1 (H.get 1 rfl).1 h140 h143) H fun w145 H=>sp (.bool (decide ((list_1[i_1]!)=(vH p (list[i]!) (((zJ p (list[i]!) mode).1)[k]!))))) (zjr (ret1 (.bool (decide ((list_1[i_1]!)=(vH p (list[i]!) (((zJ p (list[i]!) mode).1)[k]!))))) rfl rfl ⟨_,rfl,?_⟩)))
         replace H:=H.erases [0]
         dsimp only [Qg,List.eraseIdx] at H
         refine zjn (cD rfl (fun h147=>?_) (fun h147=>?_))
         ·skip
          refine zcr (sps [.int .i64 i_1,.int .i64 i_1] (zjr (zr5 (ret1 (.int .i64 i_1) rfl rfl ⟨_,rfl,(sp (.int .i64 i_1) (zjcc (sps [.int .i64 i_1,.bool (decide ((i_1:Int) < 0))] (zjn (cD rfl (fun h148=>?_) (fun h148=>?_))))))⟩))))
          ·skip
           exfalso;omega
          ·skip
           have hf:=find_at i1 qg qm
           refine xf (t_n (zcc (sp (.slice (some ⟨b97,0,none⟩) xE zl) (oN rfl (sp (.bool (decide ((xE:Int) > 200))) (zjn (cD rfl (fun h149=>?_) (fun h149=>?_))))))))
           ·skip
            exfalso;omega
           ·skip
            refine xf (t_n (xJ (sps [.slice a_own n_own c_own,.int .i64 i_1] (sw (zt H Tryz.underlying22 ti2 [.int .i64 i_1] fun b150 w151 H=>sw (zA H 4 rfl 0 rfl Tryz.underlying22 ti2 rfl qj rfl rfl rfl qx qw qg fun a152 c153 w154 H=>?_))))))
            rw [snocI] at H
            refine sp (.slice a152 (n_own+1) c153) (xN (b_n (t_n (xJ (sw (xX k 1 rfl rfl qg (sp (.int .i64 (k+1)) (xN (xg (m' :=((((zJ p (list[i]!) mode).1).length) - ((k+1):Int)).toNat) qg ⟨_,(some ⟨b97,0,none⟩),xE,zl,list_1,vP,zN,a152,n_own+1,c153,(own++[(i_1:Int)]),k+1,uE9,?_,?_,rfl,(N.pick [1,2,3]),H.pick [4,5,6,7,8,9,10,11] [3,4,5,6,7,8,9,10,11,12]⟩)))))))))
            · omega
            · first | (rw [← hf];exact inTo_old k1 hs qg) | (rw [hn_list];exact inTo_new k1 hs qg qg)
         ·skip
          refine xf (b_n (t_n (xJ (sw (xX i_1 1 rfl rfl qg (sp (.int .i64 (i_1+1)) (xN (xg (m' :=(xE - ((i_1+1):Int)).toNat) qg ⟨_,i_1+1,uE4,?_,?_,rfl,N,H.pick [0,1,2,3,4,5,6,7,8,9,10] [2,3,4,5,6,7,8,9,10,11,12]⟩))))))))
          · omega
          · exact noneTo_succ i1 (decide_eq_false qm)
        ·skip
         refine zx4 (zcr (sp (.int .i64 (-1)) (zjr (ret1 (.int .i64 (-1)) rfl rfl ⟨_,rfl,(sp (.int .i64 (-1)) (zjcc (sps [.int .i64 (-1),.bool true] (zjn ?_))))⟩))))
         have hf:=find_not i1 qg
         refine xC true rfl (fun _=>zcr (sp (.slice (some ⟨b97,0,none⟩) xE zl) (oN rfl (sp (.int .i64 xE) (zjn (xJ (sp (.slice (some ⟨b97,0,none⟩) xE zl) (sw (xZ [.slice ra99 (((vH p (list[i]!) (((zJ p (list[i]!) mode).1)[k]!)).qG).length) rc100,.slice ra101 (((vH p (list[i]!) (((zJ p (list[i]!) mode).1)[k]!)).qF).length) rc102] Tryz.isAgg39 Tryz.sizeOf39 rfl (qN (H.cells 0 rfl) 0 2) ?_))))))))) (fun h=>absurd h qj)
         refine sw (zt H Tryz.underlying32 ti39 [.slice ra99 (((vH p (list[i]!) (((zJ p (list[i]!) mode).1)[k]!)).qG).length) rc100,.slice ra101 (((vH p (list[i]!) (((zJ p (list[i]!) mode).1)[k]!)).qF).length) rc102] fun b155 w156 H=>?_)
         have H0:=H
         obtain ⟨G160,hg162,hn161,H⟩:=H.freezeR (α:=yLI) 2 rfl 0 rfl qj
         replace N:Fresh w.heap.size [G160,rF79a,vk,zN]:=Fresh.ice N H0 2 hg162.1 hg162.2 (H0.jL [1,2,3])
         clear H0
         obtain ⟨G163,N,hn164,H⟩:=H.vw 3 rfl N (H.jL [0,2,3,4])
         refine sw (zA H 7 rfl 0 rfl Tryz.underlying32 ti39 rfl qj rfl rfl rfl qx qw qg fun a157 c158 w159 H=>?_)
         replace H:=H.snoc_StockD 5 rfl 1 rfl 0 rfl
         replace N:Fresh w.heap.size [(zN++(G160++G163)),rF79a,vk]:=(N.pick [1,0,4,2,3]).join.swap.join
         refine sp (.slice a157 (xE+1) c158) (zjcc (sp (.slice a157 (xE+1) c158) (oN rfl (sp (.bool (decide ((xE+1:Int) > 200))) (zjn (cD rfl (fun h165=>?_) (fun h165=>?_)))))))
         ·skip
          refine zcr (sps [.slice none 0 0,.slice none 0 0,.int .i64 3] (zjr (t_r (zr5 (zr5 ?_)))))
          replace H:=H.nilRow 39 2
          replace H:=H.jC (α:=qZ)
          replace H:=H.nilRow 22 1
          replace H:=H.jC (α:=yLI)
          refine ret3 (.slice none 0 0) (.slice none 0 0) (.int .i64 3) rfl rfl rfl rfl ⟨_,rfl,?_,H.base⟩
          rw [pg_no k0 (vF (Qk j1 qg (k:=k+1) (by rw [← hcr];omega) (hcr▸inTo_many k1 hs qg qg)) qg)]
          exact ⟨none,0,0,[],[],none,0,0,[],[],rfl,(N.emp.emp.pick [0,1]),H.pick [1,0] [0,0]⟩
         ·skip
          refine xf (t_n (xJ (sps [.slice a_own n_own c_own,.int .i64 xE] (sw (zt H Tryz.underlying22 ti2 [.int .i64 xE] fun b166 w167 H=>sw (zA H 5 rfl 0 rfl Tryz.underlying22 ti2 rfl qj rfl rfl rfl qx qw qg fun a168 c169 w170 H=>?_))))))
          rw [snocI] at H
          refine sp (.slice a168 (n_own+1) c169) (xN (b_n (t_n (xJ (sw (xX k 1 rfl rfl qg (sp (.int .i64 (k+1)) (xN ?_))))))))
          refine xg (m' :=((((zJ p (list[i]!) mode).1).length) - ((k+1):Int)).toNat) qg ⟨_,a157,xE+1,c158,(list_1++[⟨(vH p (list[i]!) (((zJ p (list[i]!) mode).1)[k]!)).qG,(vH p (list[i]!) (((zJ p (list[i]!) mode).1)[k]!)).qF⟩]),vP++[.slice ra99 (((vH p (list[i]!) (((zJ p (list[i]!) mode).1)[k]!)).qG).length) rc100,.slice ra101 (((vH p (list[i]!) (((zJ p (list[i]!) mode).1)[k]!)).qF).length) rc102],(zN++(G160++G163)),a168,n_own+1,c169,(own++[(xE:Int)]),k+1,uE9,?_,?_,rfl,(N.pick [1,2,0]),H.pick [5,6,7,8,9,10,11,12] [4,5,0,7,8,9,10,11,12,13]⟩
          · omega
          · first | (rw [← hf];exact inTo_old k1 hs qg) | (rw [hn_list];exact inTo_new k1 hs qg qg)
     ·skip
      refine zx4 (xJ (sps [.slice zY zT zX,.slice a_own n_own c_own] (sw (jG #[.slice a_own n_own c_own] rfl rfl Tryz.call45 (en Tryz.func45 Tryz.ntmps45 ?_)))))
      refine zcr (sp (.slice none 0 0) (zjc (sp (.slice a_own n_own c_own) ?_)))
      have sl172:=sortI_len own
      refine sw (o_callF #[.slice a_own n_own c_own] rfl rfl Tryz.call77 (sortRowI sortLI H 0 rfl (by first | omega | (simp only [List.length_append,List.length_cons,List.length_nil];omega))) ?_)
      rintro _ w171 ⟨rfl,H⟩
      refine zjc (sp (.slice a_own n_own c_own) (sw (o_callF #[.slice a_own n_own c_own] rfl rfl Tryz.call78 (compSortRow compLI H 0 rfl) ?_)))
      rintro _ w173 ⟨rfl,H⟩
      refine sp (.slice a_own ((vU own).length) c_own) (zjr (ret1 (.slice a_own ((vU own).length) c_own) rfl rfl ⟨_,rfl,(sw (zt H Tryz.underlying27 ti22 [.slice a_own ((vU own).length) c_own] fun b174 w175 H=>?_))⟩))
      obtain ⟨G179,N,hn180,H⟩:=H.vw 1 rfl N (H.jL [0,1,2])
      refine sw (zA H 3 rfl 0 rfl Tryz.underlying27 ti22 rfl qj rfl rfl rfl qx qw qg fun a176 c177 w178 H=>?_)
      replace H:=H.jy 2 rfl 0 rfl
      replace N:Fresh w.heap.size [(vk++G179),rF79a,zN]:=(N.pick [2,0,1,3]).join
      refine sp (.slice a176 (zT+1) c177) (xN (b_n (t_n (xJ (sp (.int .i64 i) (sw (xX i 1 rfl rfl qg (sp (.int .i64 (i+1)) (xN (xg (m' :=200 - (i+1)) qg ⟨_,a_list_1,xE,zl,list_1,vP,zN,a176,zT+1,c177,(next++[(vU own)]),jK++[.slice a_own ((vU own).length) c_own],(vk++G179),i+1,uE5,?_,?_,rfl,(N.pick [2,0]),H.pick [3,4,5,6,7,8] [0,4,5,6,7,8,9,10,11]⟩))))))))))
      · exact outTo_next j1 qg (ch_ok hc).1 (hcr▸(show k=(zJ p (list[i]!) mode).1.length by omega)▸k1)
      · omega
   ·skip
    refine zx4 (zcr (sps [.slice yR vM jD,.slice zY zT zX,.slice yR vM jD,.slice zY zT zX,.int .i64 0] (zjr (ret3 (.slice yR vM jD) (.slice zY zT zX) (.int .i64 0) rfl rfl rfl rfl ⟨_,rfl,?_,H.base⟩))))
    rw [pg_ok k0 (graph_end j1 qg qg)]
    exact ⟨yR,vM,jD,x_list,F_list,zY,zT,zX,jK,vk,rfl,N,H.pick [1,0] [1,0]⟩
end
section
set_option linter.unusedVariables false
variable {p : qW} {s : qZ} {mode cell : Int}
def yB (l:List qZ) (nx:yLL):Nat→List qZ
  | 0=>[]
  | i+1=>if (nx[i]!).length=0 then yB l nx i++[l[i]!] else yB l nx i
theorem rest_yes {l:List qZ} {nx:yLL} {i:Nat} (h:(nx[i]!).length=0):yB l nx i++[l[i]!]=yB l nx (i+1):=by rw [yB,if_pos h]
theorem rest_no {l:List qZ} {nx:yLL} {i:Nat} (h:¬ (nx[i]!).length=0):yB l nx i=yB l nx (i+1):=by rw [yB,if_neg h]
theorem rest_len (l:List qZ) (nx:yLL):∀ i,(yB l nx i).length≤i
  | 0=>Nat.le_refl _
  | i+1=>by
    have:=rest_len l nx i
    rw [yB]
    split
    · simp;omega
    · omega
theorem rest_ok {l:List qZ} {nx:yLL} (h:∀ j,j < l.length→xG p (l[j]!)):∀ i,i≤l.length→∀ k,k < (yB l nx i).length→xG p ((yB l nx i)[k]!)
  | 0,_,k,hk=>by simp [yB] at hk
  | i+1,hi,k,hk=>by
    have ih:=rest_ok (nx:=nx) h i qg
    rw [yB] at hk ⊢
    split at hk
    · rename_i e
      rw [if_pos e]
      by_cases e2:k < (yB l nx i).length
      · have:=ih k e2
        simp only [List.getElem!_eq_getElem?_getD] at this ⊢
        rwa [List.getElem?_append_left e2]
      · have:k=(yB l nx i).length:=by simp at hk;omega
        subst this
        have e3:(yB l nx i++[l[i]!])[(yB l nx i).length]! =l[i]! :=by simp [List.getElem!_eq_getElem?_getD]
        rw [e3];exact h i qg
    · rename_i e
      rw [if_neg e];exact ih k hk
noncomputable def yC (p:qW) (s:qZ) (mode:Int):List qZ×Bool:=match pGraph p s mode with | some (l,nx)=>(yB l nx l.length,true) | none=>([],false)
theorem rs_ok {l:List qZ} {nx:yLL} (h:pGraph p s mode=some (l,nx)):yC p s mode=(yB l nx l.length,true):=by unfold yC;rw [h]
theorem rs_no (h:pGraph p s mode=none):yC p s mode=([],false):=by unfold yC;rw [h]
theorem rs_all (hs:xG p s):(yC p s mode).1.length≤200∧∀ k,k < (yC p s mode).1.length→xG p ((yC p s mode).1[k]!):=by
  cases hg:pGraph p s mode with
  | none=>rw [rs_no hg];exact ⟨Nat.zero_le _,fun k hk=>by simp at hk⟩
  | some x=>
    obtain ⟨l,nx⟩:=x
    rw [rs_ok hg]
    exact ⟨Nat.le_trans (rest_len l nx _) (outTo_len 200 hg).2.1,rest_ok (outTo_ok hs 200 hg) _ (Nat.le_refl _)⟩
noncomputable def vZ (p:qW) (s:qZ) (mode:Int):List qZ×Int:=if (ve p s mode).2.2=0 then (yB (ve p s mode).1 (ve p s mode).2.1 (ve p s mode).1.length,0) else ([],(ve p s mode).2.2)
theorem rt_0 (h:(ve p s mode).2.2=0) {i:Nat} (hi:i=(ve p s mode).1.length):vZ p s mode=(yB (ve p s mode).1 (ve p s mode).2.1 i,0):=by subst hi;exact if_pos h
theorem rt_c (h:(ve p s mode).2.2≠0):vZ p s mode=([],(ve p s mode).2.2):=if_neg h
theorem rt_code (h:jc p s mode≠0):vZ p s mode=([],jc p s mode):=by
  have e:=pg_code h
  rw [rt_c (by rw [e];exact h),e]
theorem rt_lim (h:jc p s mode=0) (h2:(yC p s mode).2=false):vZ p s mode=([],3):=by
  cases hg:pGraph p s mode with
  | none=>
    have e:=pg_no h hg
    rw [rt_c (by rw [e];decide),e]
  | some x=>rw [rs_ok hg] at h2;cases h2
theorem rt_ok (h:jc p s mode=0) (h2:(yC p s mode).2=true):vZ p s mode=((yC p s mode).1,0):=by
  cases hg:pGraph p s mode with
  | none=>rw [rs_no hg] at h2;cases h2
  | some x=>
    have e:=pg_ok h hg
    rw [rt_0 (by rw [e]) rfl,e,rs_ok hg]
theorem pg_all (h:(ve p s mode).2.2=0):jc p s mode=0∧(ve p s mode).1.length≤200∧(ve p s mode).2.1.length=(ve p s mode).1.length:=by
  by_cases hm:jc p s mode=0
  · cases hg:pGraph p s mode with
    | none=>rw [pg_no hm hg] at h;cases h
    | some x=>
      obtain ⟨l,nx⟩:=x
      rw [pg_ok hm hg]
      have o1:=outTo_len 200 hg
      have o2:=outTo_nx 200 hg
      have o3:=outTo_full hg
      exact ⟨hm,o1.2.1,Nat.le_antisymm o2 o3⟩
  · rw [pg_code hm] at h;exact absurd h hm
theorem rt_all:(vZ p s mode).1.length≤200∧((vZ p s mode).2=0→jc p s mode=0)∧(jc p s mode=0→∀ k,k < (vZ p s mode).1.length→xG p ((vZ p s mode).1[k]!)):=by
  by_cases hm:jc p s mode=0
  · have hs:=(mcode_ok hm).2.1
    cases h2:(yC p s mode).2 with
    | false=>rw [rt_lim hm h2];exact ⟨by simp,fun h=>absurd h qj,fun _ k hk=>by simp at hk⟩
    | true=>
      have e:=rt_ok hm h2
      have ra:=rs_all (mode:=mode) hs
      rw [e]
      dsimp only
      exact ⟨ra.1,fun _=>hm,fun _=>ra.2⟩
  · have e:=rt_code hm
    exact ⟨by rw [e];simp,fun h=>by rw [e] at h;exact h,fun h=>absurd h hm⟩
def Qj (l:List qZ) (cell:Int) (i:Nat):yLI:=(l.take i).map fun t=>yM (t.qG[cell.toNat]!)
theorem sums_next {l:List qZ} {i:Nat} (hi:i < l.length):Qj l cell i++[yM ((l[i]!).qG[cell.toNat]!)]=Qj l cell (i+1):=by
  unfold Qj
  rw [← take_snoc hi,List.map_append];rfl
theorem sums_len (l:List qZ) (cell:Int) (i:Nat):(Qj l cell i).length≤l.length:=by unfold Qj;rw [List.length_map,List.length_take];omega
theorem sums_put {l:List qZ} {i:Nat} (hi:i < l.length):putL (yM ((l[i]!).qG[cell.toNat]!)) (vU (Qj l cell i))=vU (Qj l cell (i+1)):=by rw [← sums_next hi,putAll_snoc]
noncomputable def cCode (p:qW) (s:qZ) (mode cell:Int):Int:=if jc p s mode=0∧¬ (0≤cell∧cell≤(p.qC.length:Int) - 1) then 2 else jc p s mode
noncomputable def zk (p:qW) (s:qZ) (mode cell:Int):yLI×Int:=
  if cCode p s mode cell=0 then (if (vZ p s mode).2=0 then (vU (Qj (vZ p s mode).1 cell (vZ p s mode).1.length),0) else ([],(vZ p s mode).2)) else ([],cCode p s mode cell)
theorem cc_no (h:jc p s mode≠0):cCode p s mode cell=jc p s mode:=by unfold cCode;rw [if_neg fun h' =>h h'.1]
theorem cc_2 (h:jc p s mode=0) (h2:¬ (0≤cell∧cell≤(p.qC.length:Int) - 1)):cCode p s mode cell=2:=by unfold cCode;rw [if_pos ⟨h,h2⟩]
theorem cc_0 (h:jc p s mode=0) (h2:0≤cell∧cell≤(p.qC.length:Int) - 1):cCode p s mode cell=0:=by unfold cCode;rw [if_neg fun h' =>h'.2 h2,h]
theorem pr_code (h:jc p s mode≠0):zk p s mode cell=([],jc p s mode):=by unfold zk;rw [cc_no h,if_neg h]
theorem pr_2 (h:jc p s mode=0) (h2:¬ (0≤cell∧cell≤(p.qC.length:Int) - 1)):zk p s mode cell=([],2):=by unfold zk;rw [cc_2 h h2,if_neg qj]
theorem pr_lim (h:jc p s mode=0) (h2:0≤cell∧cell≤(p.qC.length:Int) - 1) (h3:(vZ p s mode).2≠0):zk p s mode cell=([],(vZ p s mode).2):=by unfold zk;rw [cc_0 h h2,if_pos rfl,if_neg h3]
theorem pr_0 (h:jc p s mode=0) (h2:0≤cell∧cell≤(p.qC.length:Int) - 1) (h3:(vZ p s mode).2=0) {i:Nat} (hi:i=(vZ p s mode).1.length):zk p s mode cell=(vU (Qj (vZ p s mode).1 cell i),0):=by subst hi;unfold zk;rw [cc_0 h h2,if_pos rfl,if_pos h3]
theorem few_pr (p:qW) (s:qZ) (mode cell:Int):cnt (zk p s mode cell).1≤200:=by
  have key:(zk p s mode cell).1.length≤200:=by
    unfold zk
    split
    · split
      · have h1:=putAll_len (Qj (vZ p s mode).1 cell (vZ p s mode).1.length)
        have h2:=sums_len (vZ p s mode).1 cell (vZ p s mode).1.length
        have h3:=(rt_all (p:=p) (s:=s) (mode:=mode)).1
        show (vU _).length≤200
        omega
      · exact Nat.zero_le _
    · exact Nat.zero_le _
  rw [cnt_ints];exact key
end
section
open Go.RowKit
def cellsF (B:yLN) (v:Value) (xs:List Value):Fact where
  F:=B
  φ:=fun w=>xs=[]∨∃ b o m c,v=.slice (some ⟨b,o,none⟩) m c∧B=[b]∧zM w b o xs
  stay:=by
    rintro w w' (h | ⟨b,o,m,c,h1,h2,h3⟩) hs
    · exact Or.inl h
    · exact Or.inr ⟨b,o,m,c,h1,h2,cellsAt_stay h3 (hs b (by simp [h2]))⟩

section
variable {W0 w : World} {ps : List Prv} {Γ : List Fact} {L : List yLN}
theorem St.pool {α:Type} [qV α] (H:St W0 w ps Γ) (i:Nat) {F:yLN} {v:Value} {l:List α} (hf:Γ[i]? =some (isF true F v l)) (N:Fresh W0.heap.size (F :: L)):
    ∃ (xs:List Value) (B P:yLN),Fresh W0.heap.size (P :: L)∧St W0 w ps (xW true P (xs.drop (0 * qV.size α)) (l.drop 0) :: cellsF B v xs :: Γ):=by
  obtain ⟨⟨a,cap,hc,_,h⟩,hfr⟩:=H.get i hf
  simp only [List.cons.injEq,and_true] at hc
  rcases h with ⟨hl,hF⟩ | ⟨b,o,F',vs,ha,hF,_,hr,hcl⟩
  · refine ⟨[],[],[],N.less qo qo,?_⟩
    subst hl
    exact (H.add (cellsF [] v []) (Or.inl rfl) (by simp [cellsF])).add _ ⟨by simp [reps],fun _=>zx.nil _⟩ (by simp [xW])
  · refine ⟨vs,[b],F',N.less (fun x hx=>by rw [hF];simp [hx]) (fun hn=>by rw [hF] at hn;exact (List.nodup_cons.1 hn).2),?_⟩
    have h1:=H.yj i hf (cellsF [b] v vs) (Or.inr ⟨b,o,l.length,cap,by rw [hc,ha],rfl,hcl⟩) (fun x hx=>by have hx:x∈[b]:=hx;show x∈F;rw [hF];simp at hx;simp [hx])
    refine h1.yj (i+1) hf (xW true F' (vs.drop (0 * qV.size α)) (l.drop 0)) ⟨?_,fun _=>(hfr rfl).sub fun x hx=>by rw [hF];simp [hx]⟩ fun x hx=>by have hx:x∈F' :=hx;show x∈F;rw [hF];simp [hx]
    rw [Nat.zero_mul];exact hr
theorem St.drain {α:Type} [qV α] [Inhabited α] (H:St W0 w ps Γ) (j:Nat) {B:yLN} {b o m c:Nat} {xs:List Value} (hx:Γ[j]? =some (cellsF B (.slice (some ⟨b,o,none⟩) m c) xs)) (i:Nat) {P:yLN} {l:List α} {k0:Nat}
    (hf:Γ[i]? =some (xW true P (xs.drop (k0 * qV.size α)) (l.drop k0))) (N:Fresh W0.heap.size (P :: L)) (hz:0 < qV.size α) (k:Nat) (h0:k0≤k) (hk:k < l.length):
    ∃ cs G P',zM w b (o+k * qV.size α) cs∧qV.rep w G cs (l[k]!)∧zx w G∧(∀ x∈G,x∈P)∧b∈B∧Fresh W0.heap.size (G :: P' :: L)∧(∀ x∈P',x∈P)∧reps w P' (xs.drop ((k+1) * qV.size α)) (l.drop (k+1))∧zx w P' :=by
  obtain ⟨d,rfl⟩:∃ d,k=k0+d:=⟨k - k0,by omega⟩
  obtain ⟨hr,hfr⟩:=H.get i hf
  obtain ⟨F1,Fk,F2,v1,cs,v2,hP,hv,hv1,hcs,hrep,_,h2⟩:=reps_get hr d (by rw [List.length_drop];omega)
  have hlen:=congrArg List.length hv
  simp only [List.length_append,List.length_drop] at hlen
  have e1:(k0+d+1) * qV.size α=k0 * qV.size α+(d * qV.size α+qV.size α):=by rw [Nat.add_mul,Nat.add_mul,Nat.one_mul];omega
  have e2:(k0+d) * qV.size α=k0 * qV.size α+d * qV.size α:=Nat.add_mul ..
  have hxs:xs.take (k0 * qV.size α)++v1++cs++v2=xs:=by rw [List.append_assoc,List.append_assoc,← List.append_assoc v1,← hv,List.take_append_drop]
  have hgl:(l.drop k0)[d]'(by rw [List.length_drop];omega)=l[k0+d]! :=by rw [List.getElem_drop,getElem!_pos l _ hk]
  rw [hgl] at hrep
  obtain ⟨m',c',hB,hcl⟩:∃ m' c' :Nat,B=[b]∧zM w b o xs:=by
    rcases H.get j hx with h | ⟨b',o',m',c',h1,h2',h3⟩
    · rw [h] at hlen;simp at hlen;omega
    · simp only [Value.slice.injEq,Option.some.injEq,Addr.mk.injEq,and_true] at h1
      obtain ⟨⟨rfl,rfl⟩,_⟩:=h1
      exact ⟨m',c',h2',h3⟩
  have hd:(l.drop k0).drop (d+1)=l.drop (k0+d+1):=by rw [List.drop_drop];congr 1
  rw [hd] at h2
  have hv2:xs.drop ((k0+d+1) * qV.size α)=v2:=by
    rw [e1,← List.drop_drop,hv,List.drop_append,List.drop_of_length_le (by simp only [List.length_append];omega),List.nil_append]
    simp only [List.length_append]
    rw [show d * qV.size α+qV.size α - (v1.length+cs.length)=0 by omega];rfl
  have hndP:P.Nodup:=N.nd P qo
  have hsub:∀ x∈Fk++F2,x∈P:=fun x hx=>by
    rw [hP,List.append_assoc];exact List.mem_append_right _ hx
  refine ⟨cs,Fk,F2,?_,hrep,(hfr rfl).sub fun x hx=>hsub x (by simp [hx]),fun x hx=>hsub x (by simp [hx]),by simp [hB],(N.less hsub fun hn=>?_).split,fun x hx=>hsub x (by simp [hx]),by rw [hv2];exact h2,(hfr rfl).sub fun x hx=>hsub x (by simp [hx])⟩
  · rw [← hxs] at hcl
    have:=cells_mid hcl
    rw [List.length_append,hv1,List.length_take_of_le qg,← e2] at this
    exact this
  · rw [hP,List.append_assoc] at hn;exact (List.nodup_append.1 hn).2.1

theorem St.drain_StockD (H:St W0 w ps Γ) (j:Nat) {B:yLN} {b o m c:Nat} {xs:List Value} (hx:Γ[j]? =some (cellsF B (.slice (some ⟨b,o,none⟩) m c) xs)) (i:Nat) {P:yLN} {l:List qZ} {k0:Nat}
    (hf:Γ[i]? =some (xW true P (xs.drop (k0 * 2)) (l.drop k0))) (N:Fresh W0.heap.size (P :: L)) (iv:Int) (k:Nat) (hi:iv.toNat=k) (h0:k0≤k) (hk:k < l.length):
    ∃ (aA:yOA) (cA:Nat) (FA:yLN) (aB:yOA) (cB:Nat) (FB P' :yLN),Fresh W0.heap.size (FA :: FB :: P' :: L)∧
      St W0 w ps (isF true FA (.slice aA ((l[k]!).qG.length) cA) ((l[k]!).qG) :: isF true FB (.slice aB ((l[k]!).qF.length) cB) ((l[k]!).qF) ::
        atF b (o+iv.toNat * 2) [.slice aA ((l[k]!).qG.length) cA,.slice aB ((l[k]!).qF.length) cB] :: xW true P' (xs.drop ((k+1) * 2)) (l.drop (k+1)) :: Γ):=by
  subst hi
  obtain ⟨cs,G,P',hc,hr,hfr,hsub,hB,N',hs2,h2,hf2⟩:=St.drain (α:=qZ) H j hx i hf N (show 0 < 2 by decide) iv.toNat h0 hk
  obtain ⟨vA,vB,FA,FB,rfl,hFF,hA,hBb⟩:=id hr
  obtain ⟨aA,cA,rfl⟩:=slice_form hA
  obtain ⟨aB,cB,rfl⟩:=slice_form hBb
  subst hFF
  have s1:=H.yj i hf (xW true P' (xs.drop ((iv.toNat+1) * 2)) (l.drop (iv.toNat+1))) ⟨h2,fun _=>hf2⟩ hs2
  have s2:=s1.yj (j+1) hx (atF b (o+iv.toNat * 2) [.slice aA _ cA,.slice aB _ cB]) hc (fun x hx=>by have hx:x∈[b]:=hx;simp at hx;subst hx;exact hB)
  have s4:=s2.yj (i+2) hf (isF true FB _ ((l[iv.toNat]!).qF)) ⟨hBb,fun _=>hfr.sub fun x hx=>by simp [hx]⟩ (fun x hx=>hsub x (by have hx:x∈FB:=hx;simp [hx]))
  exact ⟨aA,cA,FA,aB,cB,FB,P',N'.split,s4.yj (i+3) hf (isF true FA _ ((l[iv.toNat]!).qG)) ⟨hA,fun _=>hfr.sub fun x hx=>by simp [hx]⟩ (fun x hx=>hsub x (by have hx:x∈FA:=hx;simp [hx]))⟩
end
end
section
open Go.RowKit
set_option linter.unusedVariables false
set_option linter.unusedSimpArgs false
set_option maxRecDepth 100000
set_option maxHeartbeats 4000000
variable {qH cpFree qM csCells qP : Nat}
theorem l06Rest_ok (w:World) (p:qW) (s:qZ) (mode:Int) {bp op:Nat} {qI:yOA} {xe:yLN} {apFree:yOA} {FpFree:yLN} {qR:yOA} {xx:yLN} {bs os:Nat} {asCells:yOA} {FsCells:yLN} {qQ:yOA} {xw:yLN} (hp:zM w bp op [.int .i64 p.qJ,.slice qI p.qC.length qH,.slice apFree p.qL.length cpFree,.slice qR p.qB.length qM]) (qX:qV.rep w xe [.slice qI p.qC.length qH] p.qC) (hpFree:qV.rep w FpFree [.slice apFree p.qL.length cpFree] p.qL) (xn:qV.rep w xx [.slice qR p.qB.length qM] p.qB) (hs:zM w bs os [.slice asCells s.qG.length csCells,.slice qQ s.qF.length qP]) (hsCells:qV.rep w FsCells [.slice asCells s.qG.length csCells] s.qG) (xu:qV.rep w xw [.slice qQ s.qF.length qP] s.qF) (p0:zi p) (p1:xG p s):Calls Tryz.prog 51 #[.pointer (some ⟨bp,op,none⟩),.pointer (some ⟨bs,os,none⟩),.int .i64 mode] w (Ret (fun v w' =>∃ (ra0:yOA) (rc0:Nat) (rF0:yLN),v=.tuple #[.slice ra0 (((yC p s mode).1).length) rc0,.bool ((yC p s mode).2)]∧Fresh w.heap.size [rF0]∧St w w' [] [sF true rF0 ra0 rc0 ((yC p s mode).1)]) w):=by
 refine en Tryz.func51 Tryz.ntmps51 ?_
 have H:=(((((((St.start w).arg xu).arg hsCells).argAt hs).arg xn).arg hpFree).arg qX).argAt hp
 have zF:=qO qX
 have nhpFree:=qO hpFree
 have vC:=qO xn
 have nhsCells:=qO hsCells
 have vV:=qO xu
 clear hp qX hpFree xn hs hsCells xu
 have N:=Fresh.nil w.heap.size
 refine zcr (sps [.slice none 0 0,.bool false] (zjc (sps [.pointer (some ⟨bp,op,none⟩),.pointer (some ⟨bs,os,none⟩),.int .i64 mode] (sw (jG #[.pointer (some ⟨bp,op,none⟩),.pointer (some ⟨bs,os,none⟩),.int .i64 mode] rfl rfl Tryz.call34 (en Tryz.func34 Tryz.ntmps34 ?_))))))
 refine zcr (sps [.slice none 0 0,.slice none 0 0,.bool false] (zjc (sp (.pointer (some ⟨bs,os,none⟩)) ?_)))
 have w1:=p1.1
 have w2:=p0.1.2.1.2
 have w3:=p1.2.1.1.2
 have w4:∀ k,k < s.qG.length→(s.qG[k]!).length≤1000000:=fun k hk=>by have:=(p1.2.2.1 k hk).1.2;omega
 have sz4:=H.base.size
 refine sw (oc (l06OwnStock_ok _ s (qN (H.get 4 rfl) 0 2) (H.get 5 rfl).1 (H.get 6 rfl).1 qh qh qh) ?_)
 rintro _ w2 ⟨ra1Cells,rn1Cells,rc1Cells,rx1Cells,rF1Cells,ra1Around,rn1Around,rc1Around,rfl,M,K⟩ _
 replace N:=N.merge sz4 qo M
 replace H:=H.merge K M
 obtain rfl:=H.zB (α:=yLI) 0 rfl 0 rfl qj
 obtain rfl:=H.y9 1 rfl
 refine sw (zt H Tryz.underlying32 ti39 [.slice ra1Cells s.qG.length rc1Cells,.slice ra1Around s.qF.length rc1Around] fun b8 w9 H=>sp (.slice (some ⟨b8,0,none⟩) 1 1) (zjc (sw (jH H Tryz.underlying27 ti22 fun b10 w11 H=>sp (.slice (some ⟨b10,0,none⟩) 0 0) (zjcc (sp (.int .i64 0) (zjn (xm ?_))))))))
 replace H:=H.boxRow 1 rfl 2 1 rfl qj
 replace H:=H.jC (α:=qZ)
 have H0:=H
 obtain ⟨G12,hg14,hn13,H⟩:=H.freezeR (α:=yLI) 2 rfl 1 rfl qj
 replace N:Fresh w.heap.size [G12]:=Fresh.ice N H0 2 hg14.1 hg14.2 (H0.jL [])
 clear H0
 obtain ⟨G15,N,hn16,H⟩:=H.vw 3 rfl N (H.jL [0])
 replace H:=H.snoc_StockD 2 rfl 1 rfl 0 rfl
 replace N:Fresh w.heap.size [([]++(G12++G15))]:=(N.emp.pick [2,1,0]).join.swap.join
 replace H:St _ _ [.box b10 [] 22,rr (some ⟨b8,0,none⟩) 1 1 39 2 [.slice ra1Cells s.qG.length rc1Cells,.slice ra1Around s.qF.length rc1Around],rr none 0 0 0 1 [],rr none 0 0 0 1 []] [xW true ([]++(G12++G15)) [.slice ra1Cells s.qG.length rc1Cells,.slice ra1Around s.qF.length rc1Around] [s],sF true G15 ra1Around rc1Around s.qF,sF true G12 ra1Cells rc1Cells s.qG,xW true [] [] ([]:List qZ),xW true rF1Cells rx1Cells s.qG,atF bp op [.int .i64 p.qJ,.slice qI p.qC.length qH,.slice apFree p.qL.length cpFree,.slice qR p.qB.length qM],sF false xe qI qH p.qC,sF false FpFree apFree cpFree p.qL,sF false xx qR qM p.qB,atF bs os [.slice asCells s.qG.length csCells,.slice qQ s.qF.length qP],sF false FsCells asCells csCells s.qG,sF false xw qQ qP s.qF]:=H
 replace H:=H.boxRow 0 rfl 1 0 rfl qj
 replace H:=H.jC (α:=yLI)
 refine zK (fun m' ρ w17=>∃ (zu:Env) (yR:yOA) (vM:Nat) (jD:Nat) (list:List qZ) (x_list:List Value) (F_list:yLN) (zY:yOA) (zT:Nat) (zX:Nat) (next:yLL) (jK:List Value) (vk:yLN) (i:Nat),ρ=upd (upd (upd (upd (upd zu 0 (.pointer (some ⟨bp,op,none⟩))) 2 (.int .i64 mode)) 9 (.slice yR vM jD)) 10 (.slice zY zT zX)) 11 (.int .i64 i)∧(yV p s mode i=some (list,next))∧(i≤list.length)∧m' =(200 - (i:Int)).toNat∧Fresh w.heap.size [F_list,vk]∧St w w17 [rr zY zT zX 22 1 jK,rr yR vM jD 39 2 x_list] [xW true vk jK next,xW true F_list x_list list,atF bp op [.int .i64 p.qJ,.slice qI p.qC.length qH,.slice apFree p.qL.length cpFree,.slice qR p.qB.length qM],sF false xe qI qH p.qC,sF false FpFree apFree cpFree p.qL,sF false xx qR qM p.qB,atF bs os [.slice asCells s.qG.length csCells,.slice qQ s.qF.length qP],sF false FsCells asCells csCells s.qG,sF false xw qQ qP s.qF]) ((200 - (0:Int)).toNat) ⟨_,(some ⟨b8,0,none⟩),1,1,[s],[.slice ra1Cells s.qG.length rc1Cells,.slice ra1Around s.qF.length rc1Around],([]++(G12++G15)),(some ⟨b10,0,none⟩),0,0,([]:yLL),[],[],0,uE5,(by rfl),(by exact Nat.zero_le _),rfl,(N.emp.pick [1,0]),H.pick [0,1] [0,1,6,7,8,9,10,11,12]⟩ ?_
 clear H N
 rintro m' ρ w18 ⟨zu,yR,vM,jD,list,x_list,F_list,zY,zT,zX,next,jK,vk,i,rfl,j1,j0,rfl,N,H⟩
 have hn_list:=H.zB (α:=qZ) 1 rfl 1 rfl qj
 have hn_next:=H.zB (α:=yLI) 0 rfl 0 rfl qj
 have oo:=outTo_ok p1 i j1
 obtain ⟨ol1,ol2,ol3⟩:=outTo_len i j1
 have ol4:=ol3 j0
 refine zcc (sps [.int .i64 i,.slice yR vM jD] (oN rfl (sp (.bool (decide ((i:Int) < vM))) (zjn (cD rfl (fun h19=>?_) (fun h19=>?_))))))
 ·skip
  refine xf (t_n (xP (xm (zcr (sps [.pointer (some ⟨bp,op,none⟩),.slice yR vM jD,.int .i64 i] ?_)))))
  obtain ⟨b20,rfl⟩:=H.yg 1 rfl qg
  obtain ⟨ae21Cells,ce21Cells,Fe21Cells,ae21Around,ce21Around,Fe21Around,hx22,H⟩:=H.rowel_StockD 1 rfl 1 rfl (iv:=i) i qg qg
  refine oI rfl rfl (sp (.int .i64 mode) ?_)
  have so:=oo i qg
  have sz26:=H.base.size
  have lt27:=H.ltN (L:=[F_list,vk]) [3,2]
  refine sw (oc (l06Choices_ok _ p (list[i]!) mode (qN (H.get 4 rfl) 0 4) (H.get 5 rfl).1 (H.get 6 rfl).1 (H.get 7 rfl).1 (qN (fun j v hj=>H.rowGet 1 rfl (hx22 j v hj)) 0 2) (H.get 0 rfl).1 (H.get 1 rfl).1 (by exact p0) (by first | exact p1 | assumption)) ?_)
  rintro _ w24 ⟨ra23a,rn23a,rc23a,rx23a,rF23a,rfl,M,K⟩ _
  replace N:=N.merge sz26 lt27 M
  replace H:=H.merge K M
  obtain rfl:=H.zB (α:=yLI) 0 rfl 0 rfl qj
  refine sps [.tuple #[.slice ra23a (((xh p (list[i]!) mode).2).length) rc23a,.bool (decide ((xh p (list[i]!) mode).1≤1500))],.slice ra23a (((xh p (list[i]!) mode).2).length) rc23a,.bool (decide ((xh p (list[i]!) mode).1≤1500)),.slice ra23a (((xh p (list[i]!) mode).2).length) rc23a,.bool (decide ((xh p (list[i]!) mode).1≤1500))] (zjcc (sps [.bool (decide ((xh p (list[i]!) mode).1≤1500)),.bool (!(decide ((xh p (list[i]!) mode).1≤1500)))] (zjn (xC (!(decide ((xh p (list[i]!) mode).1≤1500))) rfl (fun h29=>?_) (fun h29=>?_)))))
  ·skip
   replace h29:=xB h29
   replace h29:=of_decide_eq_false h29
   refine zcr (sps [.slice (some ⟨b20,0,none⟩) vM jD,.slice zY zT zX,.slice (some ⟨b20,0,none⟩) vM jD,.slice zY zT zX,.bool false] (zjr (t_r (zr5 (ret3 (.slice (some ⟨b20,0,none⟩) vM jD) (.slice zY zT zX) (.bool false) rfl rfl rfl rfl ⟨_,rfl,?_⟩)))))
   replace H:=H.erases [0]
   dsimp only [Qg,List.eraseIdx] at H
   refine sps [.tuple #[.slice (some ⟨b20,0,none⟩) vM jD,.slice zY zT zX,.bool false],.slice (some ⟨b20,0,none⟩) vM jD,.slice zY zT zX,.bool false,.slice (some ⟨b20,0,none⟩) vM jD,.slice zY zT zX,.bool false] (zjc (sw (jH H Tryz.underlying32 ti39 fun b30 w31 H=>sp (.slice (some ⟨b30,0,none⟩) 0 0) (zjcc (sp (.int .i64 0) (zjn (xm ?_)))))))
   replace H:=H.boxRow 0 rfl 2 0 rfl qj
   replace H:=H.jC (α:=qZ)
   replace H:St _ _ [rr (some ⟨b30,0,none⟩) 0 0 39 2 [],rr zY zT zX 22 1 jK,rr (some ⟨b20,0,none⟩) vM jD 39 2 x_list] [xW true [] [] ([]:List qZ),xW true rF23a rx23a ((xh p (list[i]!) mode).2),sF true Fe21Cells ae21Cells ce21Cells ((list[i]!).qG),sF true Fe21Around ae21Around ce21Around ((list[i]!).qF),xW true vk jK next,xW true F_list x_list list,atF bp op [.int .i64 p.qJ,.slice qI p.qC.length qH,.slice apFree p.qL.length cpFree,.slice qR p.qB.length qM],sF false xe qI qH p.qC,sF false FpFree apFree cpFree p.qL,sF false xx qR qM p.qB,atF bs os [.slice asCells s.qG.length csCells,.slice qQ s.qF.length qP],sF false FsCells asCells csCells s.qG,sF false xw qQ qP s.qF]:=H
   refine zK (fun m' ρ w32=>∃ (zu:Env) (zI:yOA) (zC:Nat) (zH:Nat) (out:List qZ) (QA:List Value) (Qz:yLN) (i_1:Nat),ρ=upd (upd (upd (upd (upd zu 8 (.slice (some ⟨b20,0,none⟩) vM jD)) 9 (.slice zY zT zX)) 10 (.bool false)) 11 (.slice zI zC zH)) 12 (.int .i64 i_1)∧out=([]:List qZ)∧m' =0∧Fresh w.heap.size [F_list,vk,Qz]∧St w w32 [rr zI zC zH 39 2 QA,rr zY zT zX 22 1 jK,rr (some ⟨b20,0,none⟩) vM jD 39 2 x_list] [xW true Qz QA out,xW true vk jK next,xW true F_list x_list list]) (0) ⟨_,(some ⟨b30,0,none⟩),0,0,([]:List qZ),[],[],0,uE5,(by rfl),rfl,(N.emp.pick [2,3,0]),H.pick [0,1,2] [0,4,5]⟩ ?_
   clear H N
   rintro m' ρ w33 ⟨zu,zI,zC,zH,out,QA,Qz,i_1,rfl,rfl,rfl,N,H⟩
   have hn_out:=H.zB (α:=qZ) 0 rfl 0 rfl qj
   refine zcc (sps [.int .i64 i_1,.slice (some ⟨b20,0,none⟩) vM jD] (oN rfl (sps [.bool (decide ((i_1:Int) < vM)),.bool (decide ((i_1:Int) < vM))] ?_)))
   cases h34:(decide ((i_1:Int) < vM))
   ·skip
    replace h34:=of_decide_eq_false h34
    refine zG [27] (sp (.bool false) (zjn (xC false rfl (fun h=>absurd h qj) (fun _=>zx4 (zcr (sps [.slice zI zC zH,.bool false,.slice zI zC zH,.bool false] (zjr ?_)))))))
    have H0:=H
    obtain ⟨G35,hg37,hn36,H⟩:=H.freezeR (α:=qZ) 0 rfl 0 rfl qj
    replace N:Fresh w.heap.size [G35,F_list,vk]:=Fresh.ice (N.pick [2,0,1]) H0 0 hg37.1 hg37.2 (H0.jL [2,1])
    clear H0
    obtain rfl:=H.isLen 0 rfl
    refine ret2 (.slice zI (([]:List qZ).length) zH) (.bool false) rfl rfl rfl ⟨_,rfl,?_,H.base⟩
    first | rw [rs_no (vF (outTo_much j1 qg qm) qg)] | rw [rs_no (vF (Qk j1 qg (k:=c+1) qg (inTo_bad k1 hb)) qg)] | rw [rs_no (vF (Qk j1 qg (k:=c+1) qg (inTo_many k1 hs (by unfold findS;omega) qg)) qg)]
    exact ⟨zI,zH,G35,rfl,(N.pick [0]),H.pick [] [0]⟩
   ·skip
    replace h34:=of_decide_eq_true h34
    refine qY 26 rfl rfl (sps [.bool false,.bool false] (zjn (xC false rfl (fun h=>absurd h qj) (fun _=>zx4 (zcr (sps [.slice zI zC zH,.bool false,.slice zI zC zH,.bool false] (zjr ?_)))))))
    have H0:=H
    obtain ⟨G38,hg40,hn39,H⟩:=H.freezeR (α:=qZ) 0 rfl 0 rfl qj
    replace N:Fresh w.heap.size [G38,F_list,vk]:=Fresh.ice (N.pick [2,0,1]) H0 0 hg40.1 hg40.2 (H0.jL [2,1])
    clear H0
    obtain rfl:=H.isLen 0 rfl
    refine ret2 (.slice zI (([]:List qZ).length) zH) (.bool false) rfl rfl rfl ⟨_,rfl,?_,H.base⟩
    first | rw [rs_no (vF (outTo_much j1 qg qm) qg)] | rw [rs_no (vF (Qk j1 qg (k:=c+1) qg (inTo_bad k1 hb)) qg)] | rw [rs_no (vF (Qk j1 qg (k:=c+1) qg (inTo_many k1 hs (by unfold findS;omega) qg)) qg)]
    exact ⟨zI,zH,G38,rfl,(N.pick [0]),H.pick [] [0]⟩
  ·skip
   replace h29:=xq h29
   replace h29:=of_decide_eq_true h29
   refine xf (t_n (zcr (sw (jH H Tryz.underlying22 ti2 fun b41 w42 H=>sp (.slice (some ⟨b41,0,none⟩) 0 0) (zjcc (sp (.int .i64 0) (zjn (xm ?_))))))))
   replace H:=H.boxRowI 0 [] 0
   refine zK (fun m' ρ w43=>∃ (zu:Env) (a_list_1:yOA) (xE:Nat) (zl:Nat) (list_1:List qZ) (vP:List Value) (zN:yLN) (a_row:yOA) (n_row:Nat) (c_row:Nat) (row:yLI) (c:Nat) (row0:yLI),ρ=upd (upd (upd (upd (upd (upd (upd (upd zu 0 (.pointer (some ⟨bp,op,none⟩))) 2 (.int .i64 mode)) 9 (.slice a_list_1 xE zl)) 10 (.slice zY zT zX)) 11 (.int .i64 i)) 12 (.slice ra23a (((xh p (list[i]!) mode).2).length) rc23a)) 14 (.slice a_row n_row c_row)) 15 (.int .i64 c)∧row=(vU row0)∧((c:Int)≤(((xh p (list[i]!) mode).2).length))∧(inTo p (list[i]!) (xh p (list[i]!) mode).2 list c=some (list_1,row0))∧m' =((((xh p (list[i]!) mode).2).length) - (c:Int)).toNat∧Fresh w.heap.size [rF23a,vk,zN]∧St w w43 [rr a_row n_row c_row 2 1 (row.map (Value.int .i64)),rr ra23a (((xh p (list[i]!) mode).2).length) rc23a 22 1 rx23a,rr zY zT zX 22 1 jK,rr a_list_1 xE zl 39 2 vP] [xW true rF23a rx23a ((xh p (list[i]!) mode).2),xW true vk jK next,xW true zN vP list_1,atF bp op [.int .i64 p.qJ,.slice qI p.qC.length qH,.slice apFree p.qL.length cpFree,.slice qR p.qB.length qM],sF false xe qI qH p.qC,sF false FpFree apFree cpFree p.qL,sF false xx qR qM p.qB,atF bs os [.slice asCells s.qG.length csCells,.slice qQ s.qF.length qP],sF false FsCells asCells csCells s.qG,sF false xw qQ qP s.qF]) (((((xh p (list[i]!) mode).2).length) - (0:Int)).toNat) ⟨_,(some ⟨b20,0,none⟩),vM,jD,list,x_list,F_list,(some ⟨b41,0,none⟩),0,0,([]:yLI),0,[],uE8,(by rfl),qg,(by rfl),rfl,(N.pick [0,2,1]),H.pick [0,1,2,3] [0,3,4,5,6,7,8,9,10,11]⟩ ?_
   clear H N
   rintro m' ρ w44 ⟨zu,a_list_1,xE,zl,list_1,vP,zN,a_row,n_row,c_row,row,c,row0,rfl,rfl,i0,k1,rfl,N,H⟩
   have hn_list:=H.zB (α:=qZ) 3 rfl 2 rfl qj
   have hn_row:=H.y9 0 rfl
   obtain ⟨il1,il2,il3⟩:=inTo_len ol2 c k1
   have pl:=pch_len p (list[i]!) mode
   have rl:=putAll_len row0
   refine zcc (sps [.int .i64 c,.slice ra23a (((xh p (list[i]!) mode).2).length) rc23a] (oN rfl (sp (.bool (decide ((c:Int) < (((xh p (list[i]!) mode).2).length)))) (zjn (cD rfl (fun h45=>?_) (fun h45=>?_))))))
   ·skip
    refine xf (t_n (xP (xm (xP ?_))))
    obtain ⟨b46,rfl⟩:=H.yg 3 rfl qg
    obtain ⟨b47,rfl⟩:=H.yg 1 rfl qg
    refine c_cut (fun ρ w55=>∃ (zu:Env) (b48:Nat) (ra49:yOA) (rc50:Nat) (ra51:yOA) (rc52:Nat) (rx53:List Value) (rF54:yLN),ρ=upd (upd (upd (upd (upd (upd (upd (upd (upd (upd zu 0 (.pointer (some ⟨bp,op,none⟩))) 2 (.int .i64 mode)) 9 (.slice (some ⟨b46,0,none⟩) xE zl)) 10 (.slice zY zT zX)) 11 (.int .i64 i)) 12 (.slice (some ⟨b47,0,none⟩) (((xh p (list[i]!) mode).2).length) rc23a)) 14 (.slice a_row n_row c_row)) 15 (.int .i64 c)) 16 (.pointer (some ⟨b48,0,none⟩))) 17 (.int .i64 ((xk p (list_1[i]!) (((xh p (list[i]!) mode).2)[c]!)).2))∧Fresh w.heap.size [rF54,rF23a,vk,zN]∧St w w55 [.box b48 [.slice ra49 ((((xk p (list_1[i]!) (((xh p (list[i]!) mode).2)[c]!)).1).qG).length) rc50,.slice ra51 ((((xk p (list_1[i]!) (((xh p (list[i]!) mode).2)[c]!)).1).qF).length) rc52] 39,rr ra49 ((((xk p (list_1[i]!) (((xh p (list[i]!) mode).2)[c]!)).1).qG).length) rc50 22 1 rx53,rr ra51 ((((xk p (list_1[i]!) (((xh p (list[i]!) mode).2)[c]!)).1).qF).length) rc52 2 1 ((((xk p (list_1[i]!) (((xh p (list[i]!) mode).2)[c]!)).1).qF).map (Value.int .i64)),rr a_row n_row c_row 2 1 ((vU row0).map (Value.int .i64)),rr (some ⟨b47,0,none⟩) (((xh p (list[i]!) mode).2).length) rc23a 22 1 rx23a,rr zY zT zX 22 1 jK,rr (some ⟨b46,0,none⟩) xE zl 39 2 vP] [xW true rF54 rx53 (((xk p (list_1[i]!) (((xh p (list[i]!) mode).2)[c]!)).1).qG),xW true rF23a rx23a ((xh p (list[i]!) mode).2),xW true vk jK next,xW true zN vP list_1,atF bp op [.int .i64 p.qJ,.slice qI p.qC.length qH,.slice apFree p.qL.length cpFree,.slice qR p.qB.length qM],sF false xe qI qH p.qC,sF false FpFree apFree cpFree p.qL,sF false xx qR qM p.qB,atF bs os [.slice asCells s.qG.length csCells,.slice qQ s.qF.length qP],sF false FsCells asCells csCells s.qG,sF false xw qQ qP s.qF]) ?_ ?_
    ·skip
     refine vK rfl H fun H=>rtp 0 (.pointer (some ⟨bp,op,none⟩)) H ?_
     refine rtp 1 (.slice (some ⟨b46,0,none⟩) xE zl) H ?_
     refine rtp 2 (.int .i64 i) H ?_
     obtain ⟨ae57Cells,ce57Cells,Fe57Cells,ae57Around,ce57Around,Fe57Around,hx58,H⟩:=H.rowel_StockD 3 rfl 2 rfl (iv:=i) i qg qg
     have S:=H.zq [0,1,2,3] [2,3,4,5,6,7,8,9,10,11]
     refine tI 3 rfl rfl rfl S ?_
     refine rtp 4 (.slice (some ⟨b47,0,none⟩) (((xh p (list[i]!) mode).2).length) rc23a) S ?_
     refine rtp 5 (.int .i64 c) S ?_
     refine tI 6 rfl rfl rfl S ?_
     refine yz [7,12] qi qo (r_op rfl ?_ (r_op rfl ?_ yA))
     ·skip
      obtain ⟨a59,c60,G61,s62,h63,H⟩:=H.jX 1 rfl 2 rfl (iv:=c) c qg qg
      refine xY (.slice a59 ((((xh p (list[i]!) mode).2)[c]!).length) c60) Tryz.isAgg22 rfl (h63) (⟨H.pick [0,1,2,3] [3,4,5,6,7,8,9,10,11,12],(yz [8,12] qi qo (r_op rfl ?_ (r_op rfl ?_ yA)))⟩)
      ·skip
       obtain ⟨qc,qf,ql⟩:=pch_mem (mode:=mode) p0 so (k:=c) qg
       have le:=inTo_pre c k1 i qg
       have so1:xG p (list_1[i]!):=by rw [le];exact so
       have qf1:Fits p (list_1[i]!) (((xh p (list[i]!) mode).2)[c]!):=by rw [le];exact qf
       have sz67:=H.base.size
       have lt68:=H.ltN (L:=[rF23a,vk,zN]) [3,4,5]
       refine oc (l06Step_ok _ p (list_1[i]!) (((xh p (list[i]!) mode).2)[c]!) (qN (H.get 6 rfl) 0 4) (H.get 7 rfl).1 (H.get 8 rfl).1 (H.get 9 rfl).1 (qN (fun j v hj=>H.rowGet 3 rfl (hx58 j v hj)) 0 2) (H.get 1 rfl).1 (H.get 2 rfl).1 (H.get 0 rfl).1 (by exact p0) (by first | exact p1 | assumption) qm qm) ?_
       rintro _ w65 ⟨ra64aCells,rn64aCells,rc64aCells,rx64aCells,rF64aCells,ra64aAround,rn64aAround,rc64aAround,rfl,M,K⟩ _
       replace N:=N.merge sz67 lt68 M
       replace H:=H.merge K M
       obtain rfl:=H.zB (α:=yLI) 0 rfl 0 rfl qj
       obtain rfl:=H.y9 1 rfl
       refine ⟨H.pick [2,3,4,5] [4,5,6,7,8,9,10,11,12,13],?_⟩
       have S:=H.zq [2,3,4,5] [4,5,6,7,8,9,10,11,12,13]
       refine rtp 9 (.tuple #[.agg #[.slice ra64aCells ((((xk p (list_1[i]!) (((xh p (list[i]!) mode).2)[c]!)).1).qG).length) rc64aCells,.slice ra64aAround ((((xk p (list_1[i]!) (((xh p (list[i]!) mode).2)[c]!)).1).qF).length) rc64aAround],.int .i64 ((xk p (list_1[i]!) (((xh p (list[i]!) mode).2)[c]!)).2)]) S ?_
       refine rtp 10 (.agg #[.slice ra64aCells ((((xk p (list_1[i]!) (((xh p (list[i]!) mode).2)[c]!)).1).qG).length) rc64aCells,.slice ra64aAround ((((xk p (list_1[i]!) (((xh p (list[i]!) mode).2)[c]!)).1).qF).length) rc64aAround]) S ?_
       refine rtp 11 (.int .i64 ((xk p (list_1[i]!) (((xh p (list[i]!) mode).2)[c]!)).2)) S ?_
       refine ro 12 rfl (ja H ti39 [.slice none 0 0,.slice none 0 0] fun b71 w72 H=>⟨H.pick [3,4,5,6] [4,5,6,7,8,9,10,11,12,13],(ro 13 rfl (jA H 0 [.slice ra64aCells ((((xk p (list_1[i]!) (((xh p (list[i]!) mode).2)[c]!)).1).qG).length) rc64aCells,.slice ra64aAround ((((xk p (list_1[i]!) (((xh p (list[i]!) mode).2)[c]!)).1).qF).length) rc64aAround] Tryz.sizeOf39 fun w73 H=>⟨H.pick [3,4,5,6] [4,5,6,7,8,9,10,11,12,13],(rtp 14 (.int .i64 ((xk p (list_1[i]!) (((xh p (list[i]!) mode).2)[c]!)).2)) (H.pick [3,4,5,6] [4,5,6,7,8,9,10,11,12,13]) ?_)⟩))⟩)
       refine xI qi ((meet ⟨_,b71,ra64aCells,rc64aCells,ra64aAround,rc64aAround,rx64aCells,rF64aCells,uE10,N,H.pick [0,1,2,3,4,5,6] [0,4,5,6,7,8,9,10,11,12,13]⟩))
      ·skip
       refine ja H ti39 [.slice none 0 0,.slice none 0 0] fun b74 w75 H=>⟨H.pick [1,2,3,4] [3,4,5,6,7,8,9,10,11,12],(ro 8 rfl ?_)⟩
       obtain ⟨qc,qf,ql⟩:=pch_mem (mode:=mode) p0 so (k:=c) qg
       have le:=inTo_pre c k1 i qg
       have so1:xG p (list_1[i]!):=by rw [le];exact so
       have qf1:Fits p (list_1[i]!) (((xh p (list[i]!) mode).2)[c]!):=by rw [le];exact qf
       have sz79:=H.base.size
       have lt80:=H.ltN (L:=[rF23a,vk,zN]) [3,4,5]
       refine oc (l06Step_ok _ p (list_1[i]!) (((xh p (list[i]!) mode).2)[c]!) (qN (H.get 6 rfl) 0 4) (H.get 7 rfl).1 (H.get 8 rfl).1 (H.get 9 rfl).1 (qN (fun j v hj=>H.rowGet 4 rfl (hx58 j v hj)) 0 2) (H.get 1 rfl).1 (H.get 2 rfl).1 (H.get 0 rfl).1 (by exact p0) (by first | exact p1 | assumption) qm qm) ?_
       rintro _ w77 ⟨ra76aCells,rn76aCells,rc76aCells,rx76aCells,rF76aCells,ra76aAround,rn76aAround,rc76aAround,rfl,M,K⟩ _
       replace N:=N.merge sz79 lt80 M
       replace H:=H.merge K M
       obtain rfl:=H.zB (α:=yLI) 0 rfl 0 rfl qj
       obtain rfl:=H.y9 1 rfl
       refine ⟨H.pick [3,4,5,6] [4,5,6,7,8,9,10,11,12,13],?_⟩
       have S:=H.zq [3,4,5,6] [4,5,6,7,8,9,10,11,12,13]
       refine rtp 9 (.tuple #[.agg #[.slice ra76aCells ((((xk p (list_1[i]!) (((xh p (list[i]!) mode).2)[c]!)).1).qG).length) rc76aCells,.slice ra76aAround ((((xk p (list_1[i]!) (((xh p (list[i]!) mode).2)[c]!)).1).qF).length) rc76aAround],.int .i64 ((xk p (list_1[i]!) (((xh p (list[i]!) mode).2)[c]!)).2)]) S ?_
       refine rtp 10 (.agg #[.slice ra76aCells ((((xk p (list_1[i]!) (((xh p (list[i]!) mode).2)[c]!)).1).qG).length) rc76aCells,.slice ra76aAround ((((xk p (list_1[i]!) (((xh p (list[i]!) mode).2)[c]!)).1).qF).length) rc76aAround]) S ?_
       refine rtp 11 (.int .i64 ((xk p (list_1[i]!) (((xh p (list[i]!) mode).2)[c]!)).2)) S ?_
       refine ro 13 rfl (jA H 2 [.slice ra76aCells ((((xk p (list_1[i]!) (((xh p (list[i]!) mode).2)[c]!)).1).qG).length) rc76aCells,.slice ra76aAround ((((xk p (list_1[i]!) (((xh p (list[i]!) mode).2)[c]!)).1).qF).length) rc76aAround] Tryz.sizeOf39 fun w83 H=>⟨H.pick [3,4,5,6] [4,5,6,7,8,9,10,11,12,13],(rtp 14 (.int .i64 ((xk p (list_1[i]!) (((xh p (list[i]!) mode).2)[c]!)).2)) (H.pick [3,4,5,6] [4,5,6,7,8,9,10,11,12,13]) ?_)⟩)
       refine xI qi ((meet ⟨_,b74,ra76aCells,rc76aCells,ra76aAround,rc76aAround,rx76aCells,rF76aCells,uE10,N,H.pick [2,0,1,3,4,5,6] [0,4,5,6,7,8,9,10,11,12,13]⟩))
     ·skip
      refine ja H ti39 [.slice none 0 0,.slice none 0 0] fun b84 w85 H=>⟨H.pick [1,2,3,4] [2,3,4,5,6,7,8,9,10,11],(ro 7 rfl ?_)⟩
      obtain ⟨a86,c87,G88,s89,h90,H⟩:=H.jX 2 rfl 2 rfl (iv:=c) c qg qg
      refine xY (.slice a86 ((((xh p (list[i]!) mode).2)[c]!).length) c87) Tryz.isAgg22 rfl (h90) (⟨H.pick [1,2,3,4] [3,4,5,6,7,8,9,10,11,12],(ro 8 rfl ?_)⟩)
      obtain ⟨qc,qf,ql⟩:=pch_mem (mode:=mode) p0 so (k:=c) qg
      have le:=inTo_pre c k1 i qg
      have so1:xG p (list_1[i]!):=by rw [le];exact so
      have qf1:Fits p (list_1[i]!) (((xh p (list[i]!) mode).2)[c]!):=by rw [le];exact qf
      have sz94:=H.base.size
      have lt95:=H.ltN (L:=[rF23a,vk,zN]) [3,4,5]
      refine oc (l06Step_ok _ p (list_1[i]!) (((xh p (list[i]!) mode).2)[c]!) (qN (H.get 6 rfl) 0 4) (H.get 7 rfl).1 (H.get 8 rfl).1 (H.get 9 rfl).1 (qN (fun j v hj=>H.rowGet 4 rfl (hx58 j v hj)) 0 2) (H.get 1 rfl).1 (H.get 2 rfl).1 (H.get 0 rfl).1 (by exact p0) (by first | exact p1 | assumption) qm qm) ?_
      rintro _ w92 ⟨ra91aCells,rn91aCells,rc91aCells,rx91aCells,rF91aCells,ra91aAround,rn91aAround,rc91aAround,rfl,M,K⟩ _
      replace N:=N.merge sz94 lt95 M
      replace H:=H.merge K M
      obtain rfl:=H.zB (α:=yLI) 0 rfl 0 rfl qj
      obtain rfl:=H.y9 1 rfl
      refine ⟨H.pick [3,4,5,6] [4,5,6,7,8,9,10,11,12,13],?_⟩
      have S:=H.zq [3,4,5,6] [4,5,6,7,8,9,10,11,12,13]
      refine rtp 9 (.tuple #[.agg #[.slice ra91aCells ((((xk p (list_1[i]!) (((xh p (list[i]!) mode).2)[c]!)).1).qG).length) rc91aCells,.slice ra91aAround ((((xk p (list_1[i]!) (((xh p (list[i]!) mode).2)[c]!)).1).qF).length) rc91aAround],.int .i64 ((xk p (list_1[i]!) (((xh p (list[i]!) mode).2)[c]!)).2)]) S ?_
      refine rtp 10 (.agg #[.slice ra91aCells ((((xk p (list_1[i]!) (((xh p (list[i]!) mode).2)[c]!)).1).qG).length) rc91aCells,.slice ra91aAround ((((xk p (list_1[i]!) (((xh p (list[i]!) mode).2)[c]!)).1).qF).length) rc91aAround]) S ?_
      refine rtp 11 (.int .i64 ((xk p (list_1[i]!) (((xh p (list[i]!) mode).2)[c]!)).2)) S ?_
      refine ro 13 rfl (jA H 2 [.slice ra91aCells ((((xk p (list_1[i]!) (((xh p (list[i]!) mode).2)[c]!)).1).qG).length) rc91aCells,.slice ra91aAround ((((xk p (list_1[i]!) (((xh p (list[i]!) mode).2)[c]!)).1).qF).length) rc91aAround] Tryz.sizeOf39 fun w98 H=>⟨H.pick [3,4,5,6] [4,5,6,7,8,9,10,11,12,13],(rtp 14 (.int .i64 ((xk p (list_1[i]!) (((xh p (list[i]!) mode).2)[c]!)).2)) (H.pick [3,4,5,6] [4,5,6,7,8,9,10,11,12,13]) ?_)⟩)
      refine xI qi ((meet ⟨_,b84,ra91aCells,rc91aCells,ra91aAround,rc91aAround,rx91aCells,rF91aCells,uE10,N,H.pick [2,0,1,3,4,5,6] [0,4,5,6,7,8,9,10,11,12,13]⟩))
    ·skip
     clear H N
     rintro ρ w99 ⟨zu,b48,ra49,rc50,ra51,rc52,rx53,rF54,rfl,N,H⟩
     refine t_n (zcc (sps [.int .i64 ((xk p (list_1[i]!) (((xh p (list[i]!) mode).2)[c]!)).2),.bool (((xk p (list_1[i]!) (((xh p (list[i]!) mode).2)[c]!)).2:Int) != 0)] (zjn (xC (((xk p (list_1[i]!) (((xh p (list[i]!) mode).2)[c]!)).2:Int) != 0) rfl (fun h100=>?_) (fun h100=>?_)))))
     ·skip
      replace h100:=bne_iff_ne.1 h100
      have le:=inTo_pre c k1 i qg
      have hb:=(pstep_bad h100).1
      rw [le] at hb
      refine zcr (sps [.slice (some ⟨b46,0,none⟩) xE zl,.slice zY zT zX,.slice (some ⟨b46,0,none⟩) xE zl,.slice zY zT zX,.bool false] (zjr (t_r (zr5 (zr5 (ret3 (.slice (some ⟨b46,0,none⟩) xE zl) (.slice zY zT zX) (.bool false) rfl rfl rfl rfl ⟨_,rfl,?_⟩))))))
      replace H:=H.erases [4,3,2,1,0]
      dsimp only [Qg,List.eraseIdx] at H
      refine sps [.tuple #[.slice (some ⟨b46,0,none⟩) xE zl,.slice zY zT zX,.bool false],.slice (some ⟨b46,0,none⟩) xE zl,.slice zY zT zX,.bool false,.slice (some ⟨b46,0,none⟩) xE zl,.slice zY zT zX,.bool false] (zjc (sw (jH H Tryz.underlying32 ti39 fun b101 w102 H=>sp (.slice (some ⟨b101,0,none⟩) 0 0) (zjcc (sp (.int .i64 0) (zjn (xm ?_)))))))
      replace H:=H.boxRow 0 rfl 2 0 rfl qj
      replace H:=H.jC (α:=qZ)
      replace H:St _ _ [rr (some ⟨b101,0,none⟩) 0 0 39 2 [],rr zY zT zX 22 1 jK,rr (some ⟨b46,0,none⟩) xE zl 39 2 vP] [xW true [] [] ([]:List qZ),xW true rF54 rx53 (((xk p (list_1[i]!) (((xh p (list[i]!) mode).2)[c]!)).1).qG),xW true rF23a rx23a ((xh p (list[i]!) mode).2),xW true vk jK next,xW true zN vP list_1,atF bp op [.int .i64 p.qJ,.slice qI p.qC.length qH,.slice apFree p.qL.length cpFree,.slice qR p.qB.length qM],sF false xe qI qH p.qC,sF false FpFree apFree cpFree p.qL,sF false xx qR qM p.qB,atF bs os [.slice asCells s.qG.length csCells,.slice qQ s.qF.length qP],sF false FsCells asCells csCells s.qG,sF false xw qQ qP s.qF]:=H
      refine zK (fun m' ρ w103=>∃ (zu:Env) (zI:yOA) (zC:Nat) (zH:Nat) (out:List qZ) (QA:List Value) (Qz:yLN) (i_1:Nat),ρ=upd (upd (upd (upd (upd zu 8 (.slice (some ⟨b46,0,none⟩) xE zl)) 9 (.slice zY zT zX)) 10 (.bool false)) 11 (.slice zI zC zH)) 12 (.int .i64 i_1)∧out=([]:List qZ)∧m' =0∧Fresh w.heap.size [vk,zN,Qz]∧St w w103 [rr zI zC zH 39 2 QA,rr zY zT zX 22 1 jK,rr (some ⟨b46,0,none⟩) xE zl 39 2 vP] [xW true Qz QA out,xW true vk jK next,xW true zN vP list_1]) (0) ⟨_,(some ⟨b101,0,none⟩),0,0,([]:List qZ),[],[],0,uE5,(by rfl),rfl,(N.emp.pick [3,4,0]),H.pick [0,1,2] [0,3,4]⟩ ?_
      clear H N
      rintro m' ρ w104 ⟨zu,zI,zC,zH,out,QA,Qz,i_1,rfl,rfl,rfl,N,H⟩
      have hn_out:=H.zB (α:=qZ) 0 rfl 0 rfl qj
      refine zcc (sps [.int .i64 i_1,.slice (some ⟨b46,0,none⟩) xE zl] (oN rfl (sps [.bool (decide ((i_1:Int) < xE)),.bool (decide ((i_1:Int) < xE))] ?_)))
      cases h105:(decide ((i_1:Int) < xE))
      ·skip
       replace h105:=of_decide_eq_false h105
       refine zG [27] (sp (.bool false) (zjn (xC false rfl (fun h=>absurd h qj) (fun _=>zx4 (zcr (sps [.slice zI zC zH,.bool false,.slice zI zC zH,.bool false] (zjr ?_)))))))
       have H0:=H
       obtain ⟨G106,hg108,hn107,H⟩:=H.freezeR (α:=qZ) 0 rfl 0 rfl qj
       replace N:Fresh w.heap.size [G106,vk,zN]:=Fresh.ice (N.pick [2,0,1]) H0 0 hg108.1 hg108.2 (H0.jL [1,2])
       clear H0
       obtain rfl:=H.isLen 0 rfl
       refine ret2 (.slice zI (([]:List qZ).length) zH) (.bool false) rfl rfl rfl ⟨_,rfl,?_,H.base⟩
       first | rw [rs_no (vF (outTo_much j1 qg qm) qg)] | rw [rs_no (vF (Qk j1 qg (k:=c+1) qg (inTo_bad k1 hb)) qg)] | rw [rs_no (vF (Qk j1 qg (k:=c+1) qg (inTo_many k1 hs (by unfold findS;omega) qg)) qg)]
       exact ⟨zI,zH,G106,rfl,(N.pick [0]),H.pick [] [0]⟩
      ·skip
       replace h105:=of_decide_eq_true h105
       refine qY 26 rfl rfl (sps [.bool false,.bool false] (zjn (xC false rfl (fun h=>absurd h qj) (fun _=>zx4 (zcr (sps [.slice zI zC zH,.bool false,.slice zI zC zH,.bool false] (zjr ?_)))))))
       have H0:=H
       obtain ⟨G109,hg111,hn110,H⟩:=H.freezeR (α:=qZ) 0 rfl 0 rfl qj
       replace N:Fresh w.heap.size [G109,vk,zN]:=Fresh.ice (N.pick [2,0,1]) H0 0 hg111.1 hg111.2 (H0.jL [1,2])
       clear H0
       obtain rfl:=H.isLen 0 rfl
       refine ret2 (.slice zI (([]:List qZ).length) zH) (.bool false) rfl rfl rfl ⟨_,rfl,?_,H.base⟩
       first | rw [rs_no (vF (outTo_much j1 qg qm) qg)] | rw [rs_no (vF (Qk j1 qg (k:=c+1) qg (inTo_bad k1 hb)) qg)] | rw [rs_no (vF (Qk j1 qg (k:=c+1) qg (inTo_many k1 hs (by unfold findS;omega) qg)) qg)]
       exact ⟨zI,zH,G109,rfl,(N.pick [0]),H.pick [] [0]⟩
     ·skip
      replace h100:=xA h100
      have le:=inTo_pre c k1 i qg
      obtain ⟨hs,he⟩:=pstep_is h100
      rw [le] at hs
      have he2:(xk p (list_1[i]!) (((xh p (list[i]!) mode).2)[c]!)).1=(vH p (list[i]!) (((xh p (list[i]!) mode).2)[c]!)):=he.trans (by rw [le])
      rw [he2] at H
      refine xf (t_n (zcr (sp (.slice (some ⟨b46,0,none⟩) xE zl) ?_)))
      obtain ⟨G112,hn113,h114⟩:=H.rowIsR (α:=qZ) 6 rfl 3 rfl qj
      obtain ⟨G115,hn116,h117⟩:=H.rowIsR (α:=yLI) 1 rfl 0 rfl qj
      obtain ⟨G118,hn119,h120⟩:=H.Qa 2 rfl
      refine sw (oq (args_eq (by rw [← hn113]) (l06Find_ok _ list_1 (vH p (list[i]!) (((xh p (list[i]!) mode).2)[c]!)) (hn113▸h114) (qN (H.cells 0 rfl) 0 2) h117 h120)) H fun w122 H=>sp (.int .i64 (firstIdx (fun zz=>decide (list_1[zz]! =(vH p (list[i]!) (((xh p (list[i]!) mode).2)[c]!)))) list_1.length)) (zjcc (sps [.int .i64 (firstIdx (fun zz=>decide (list_1[zz]! =(vH p (list[i]!) (((xh p (list[i]!) mode).2)[c]!)))) list_1.length),.bool (decide ((firstIdx (fun zz=>decide (list_1[zz]! =(vH p (list[i]!) (((xh p (list[i]!) mode).2)[c]!)))) list_1.length:Int) < 0))] (zjn ?_))))
      refine cD rfl (fun h124=>?_) (fun h124=>?_)
      ·skip
       refine zcc (sp (.slice (some ⟨b46,0,none⟩) xE zl) (oN rfl (sp (.bool (decide ((xE:Int)≥200))) (zjn (cD rfl (fun h125=>?_) (fun h125=>?_))))))
       ·skip
        refine zcr (sps [.slice (some ⟨b46,0,none⟩) xE zl,.slice zY zT zX,.slice (some ⟨b46,0,none⟩) xE zl,.slice zY zT zX,.bool false] (zjr (t_r (t_r (zr5 (zr5 (ret3 (.slice (some ⟨b46,0,none⟩) xE zl) (.slice zY zT zX) (.bool false) rfl rfl rfl rfl ⟨_,rfl,?_⟩)))))))
        replace H:=H.erases [4,3,2,1,0]
        dsimp only [Qg,List.eraseIdx] at H
        refine sps [.tuple #[.slice (some ⟨b46,0,none⟩) xE zl,.slice zY zT zX,.bool false],.slice (some ⟨b46,0,none⟩) xE zl,.slice zY zT zX,.bool false,.slice (some ⟨b46,0,none⟩) xE zl,.slice zY zT zX,.bool false] (zjc (sw (jH H Tryz.underlying32 ti39 fun b126 w127 H=>sp (.slice (some ⟨b126,0,none⟩) 0 0) (zjcc (sp (.int .i64 0) (zjn (xm ?_)))))))
        replace H:=H.boxRow 0 rfl 2 0 rfl qj
        replace H:=H.jC (α:=qZ)
        replace H:St _ _ [rr (some ⟨b126,0,none⟩) 0 0 39 2 [],rr zY zT zX 22 1 jK,rr (some ⟨b46,0,none⟩) xE zl 39 2 vP] [xW true [] [] ([]:List qZ),xW true rF54 rx53 ((vH p (list[i]!) (((xh p (list[i]!) mode).2)[c]!)).qG),xW true rF23a rx23a ((xh p (list[i]!) mode).2),xW true vk jK next,xW true zN vP list_1,atF bp op [.int .i64 p.qJ,.slice qI p.qC.length qH,.slice apFree p.qL.length cpFree,.slice qR p.qB.length qM],sF false xe qI qH p.qC,sF false FpFree apFree cpFree p.qL,sF false xx qR qM p.qB,atF bs os [.slice asCells s.qG.length csCells,.slice qQ s.qF.length qP],sF false FsCells asCells csCells s.qG,sF false xw qQ qP s.qF]:=H
        refine zK (fun m' ρ w128=>∃ (zu:Env) (zI:yOA) (zC:Nat) (zH:Nat) (out:List qZ) (QA:List Value) (Qz:yLN) (i_1:Nat),ρ=upd (upd (upd (upd (upd zu 8 (.slice (some ⟨b46,0,none⟩) xE zl)) 9 (.slice zY zT zX)) 10 (.bool false)) 11 (.slice zI zC zH)) 12 (.int .i64 i_1)∧out=([]:List qZ)∧m' =0∧Fresh w.heap.size [vk,zN,Qz]∧St w w128 [rr zI zC zH 39 2 QA,rr zY zT zX 22 1 jK,rr (some ⟨b46,0,none⟩) xE zl 39 2 vP] [xW true Qz QA out,xW true vk jK next,xW true zN vP list_1]) (0) ⟨_,(some ⟨b126,0,none⟩),0,0,([]:List qZ),[],[],0,uE5,(by rfl),rfl,(N.emp.pick [3,4,0]),H.pick [0,1,2] [0,3,4]⟩ ?_
        clear H N
        rintro m' ρ w129 ⟨zu,zI,zC,zH,out,QA,Qz,i_1,rfl,rfl,rfl,N,H⟩
        have hn_out:=H.zB (α:=qZ) 0 rfl 0 rfl qj
        refine zcc (sps [.int .i64 i_1,.slice (some ⟨b46,0,none⟩) xE zl] (oN rfl (sps [.bool (decide ((i_1:Int) < xE)),.bool (decide ((i_1:Int) < xE))] ?_)))
        cases h130:(decide ((i_1:Int) < xE))
        ·skip
         replace h130:=of_decide_eq_false h130
         refine zG [27] (sp (.bool false) (zjn (xC false rfl (fun h=>absurd h qj) (fun _=>zx4 (zcr (sps [.slice zI zC zH,.bool false,.slice zI zC zH,.bool false] (zjr ?_)))))))
         have H0:=H
         obtain ⟨G131,hg133,hn132,H⟩:=H.freezeR (α:=qZ) 0 rfl 0 rfl qj
         replace N:Fresh w.heap.size [G131,vk,zN]:=Fresh.ice (N.pick [2,0,1]) H0 0 hg133.1 hg133.2 (H0.jL [1,2])
         clear H0
         obtain rfl:=H.isLen 0 rfl
         refine ret2 (.slice zI (([]:List qZ).length) zH) (.bool false) rfl rfl rfl ⟨_,rfl,?_,H.base⟩
         first | rw [rs_no (vF (outTo_much j1 qg qm) qg)] | rw [rs_no (vF (Qk j1 qg (k:=c+1) qg (inTo_bad k1 hb)) qg)] | rw [rs_no (vF (Qk j1 qg (k:=c+1) qg (inTo_many k1 hs (by unfold findS;omega) qg)) qg)]
         exact ⟨zI,zH,G131,rfl,(N.pick [0]),H.pick [] [0]⟩
        ·skip
         replace h130:=of_decide_eq_true h130
         refine qY 26 rfl rfl (sps [.bool false,.bool false] (zjn (xC false rfl (fun h=>absurd h qj) (fun _=>zx4 (zcr (sps [.slice zI zC zH,.bool false,.slice zI zC zH,.bool false] (zjr ?_)))))))
         have H0:=H
         obtain ⟨G134,hg136,hn135,H⟩:=H.freezeR (α:=qZ) 0 rfl 0 rfl qj
         replace N:Fresh w.heap.size [G134,vk,zN]:=Fresh.ice (N.pick [2,0,1]) H0 0 hg136.1 hg136.2 (H0.jL [1,2])
         clear H0
         obtain rfl:=H.isLen 0 rfl
         refine ret2 (.slice zI (([]:List qZ).length) zH) (.bool false) rfl rfl rfl ⟨_,rfl,?_,H.base⟩
         first | rw [rs_no (vF (outTo_much j1 qg qm) qg)] | rw [rs_no (vF (Qk j1 qg (k:=c+1) qg (inTo_bad k1 hb)) qg)] | rw [rs_no (vF (Qk j1 qg (k:=c+1) qg (inTo_many k1 hs (by unfold findS;omega) qg)) qg)]
         exact ⟨zI,zH,G134,rfl,(N.pick [0]),H.pick [] [0]⟩
       ·skip
        refine xf (t_n (zcr (sp (.slice (some ⟨b46,0,none⟩) xE zl) (oN rfl (sp (.int .i64 xE) (zjn (xJ (sp (.slice (some ⟨b46,0,none⟩) xE zl) (sw (xZ [.slice ra49 (((vH p (list[i]!) (((xh p (list[i]!) mode).2)[c]!)).qG).length) rc50,.slice ra51 (((vH p (list[i]!) (((xh p (list[i]!) mode).2)[c]!)).qF).length) rc52] Tryz.isAgg39 Tryz.sizeOf39 rfl (qN (H.cells 0 rfl) 0 2) ?_))))))))))
        refine sw (zt H Tryz.underlying32 ti39 [.slice ra49 (((vH p (list[i]!) (((xh p (list[i]!) mode).2)[c]!)).qG).length) rc50,.slice ra51 (((vH p (list[i]!) (((xh p (list[i]!) mode).2)[c]!)).qF).length) rc52] fun b137 w138 H=>?_)
        have H0:=H
        obtain ⟨G142,hg144,hn143,H⟩:=H.freezeR (α:=yLI) 2 rfl 0 rfl qj
        replace N:Fresh w.heap.size [G142,rF23a,vk,zN]:=Fresh.ice N H0 2 hg144.1 hg144.2 (H0.jL [1,2,3])
        clear H0
        obtain ⟨G145,N,hn146,H⟩:=H.vw 3 rfl N (H.jL [0,2,3,4])
        refine sw (zA H 7 rfl 0 rfl Tryz.underlying32 ti39 rfl qj rfl rfl rfl qx qw qg fun a139 c140 w141 H=>?_)
        replace H:=H.snoc_StockD 5 rfl 1 rfl 0 rfl
        replace N:Fresh w.heap.size [(zN++(G142++G145)),rF23a,vk]:=(N.pick [1,0,4,2,3]).join.swap.join
        refine sp (.slice a139 (xE+1) c140) (zjn (xJ (sps [.slice a_row n_row c_row,.int .i64 xE] ?_)))
        obtain ⟨G147,hn148,h149⟩:=H.Qa 4 rfl
        have sz153:=H.base.size
        refine sw (oc (args_eq (by rw [← hn148]) (l00Put_ok _ (vU row0) xE (hn148▸h149) qh)) ?_)
        rintro _ w151 ⟨ra150,rn150,rc150,rfl,M,K⟩ _
        replace H:=H.merge K M
        obtain rfl:=H.y9 0 rfl
        refine sp (.slice ra150 ((putL xE (vU row0)).length) rc150) (xN (b_n (t_n (xJ (sp (.int .i64 c) (sw (xX c 1 rfl rfl qg (sp (.int .i64 (c+1)) (xN ?_)))))))))
        refine xg (m' :=((((xh p (list[i]!) mode).2).length) - ((c+1):Int)).toNat) qg ⟨_,a139,xE+1,c140,(list_1++[⟨(vH p (list[i]!) (((xh p (list[i]!) mode).2)[c]!)).qG,(vH p (list[i]!) (((xh p (list[i]!) mode).2)[c]!)).qF⟩]),vP++[.slice ra49 (((vH p (list[i]!) (((xh p (list[i]!) mode).2)[c]!)).qG).length) rc50,.slice ra51 (((vH p (list[i]!) (((xh p (list[i]!) mode).2)[c]!)).qF).length) rc52],(zN++(G142++G145)),ra150,(putL xE (vU row0)).length,rc150,putL xE (vU row0),c+1,(row0++[(xE:Int)]),uE8,?_,?_,?_,rfl,(N.pick [1,2,0]),H.pick [0,6,7,8] [4,5,0,7,8,9,10,11,12,13]⟩
        · exact (putAll_snoc _ _).symm
        · omega
        · first | exact inTo_old k1 hs (by unfold findS;omega) | (rw [hn_list];exact inTo_new k1 hs (by unfold findS;omega) qg)
      ·skip
       refine xf (t_n (xJ (sps [.slice a_row n_row c_row,.int .i64 (firstIdx (fun zz=>decide (list_1[zz]! =(vH p (list[i]!) (((xh p (list[i]!) mode).2)[c]!)))) list_1.length)] ?_)))
       obtain ⟨G156,hn157,h158⟩:=H.Qa 3 rfl
       have sz162:=H.base.size
       refine sw (oc (args_eq (by rw [← hn157]) (l00Put_ok _ (vU row0) (firstIdx (fun zz=>decide (list_1[zz]! =(vH p (list[i]!) (((xh p (list[i]!) mode).2)[c]!)))) list_1.length) (hn157▸h158) qh)) ?_)
       rintro _ w160 ⟨ra159,rn159,rc159,rfl,M,K⟩ _
       replace H:=H.merge K M
       obtain rfl:=H.y9 0 rfl
       refine sp (.slice ra159 ((putL (firstIdx (fun zz=>decide (list_1[zz]! =(vH p (list[i]!) (((xh p (list[i]!) mode).2)[c]!)))) list_1.length) (vU row0)).length) rc159) (xN (b_n (t_n (xJ (sp (.int .i64 c) (sw (xX c 1 rfl rfl qg (sp (.int .i64 (c+1)) (xN ?_)))))))))
       refine xg (m' :=((((xh p (list[i]!) mode).2).length) - ((c+1):Int)).toNat) qg ⟨_,(some ⟨b46,0,none⟩),xE,zl,list_1,vP,zN,ra159,(putL (firstIdx (fun zz=>decide (list_1[zz]! =(vH p (list[i]!) (((xh p (list[i]!) mode).2)[c]!)))) list_1.length) (vU row0)).length,rc159,putL (firstIdx (fun zz=>decide (list_1[zz]! =(vH p (list[i]!) (((xh p (list[i]!) mode).2)[c]!)))) list_1.length) (vU row0),c+1,(row0++[(firstIdx (fun zz=>decide (list_1[zz]! =(vH p (list[i]!) (((xh p (list[i]!) mode).2)[c]!)))) list_1.length:Int)]),uE8,?_,?_,?_,rfl,(N.pick [1,2,3]),H.pick [0,5,6,7] [1,2,3,4,5,6,7,8,9,10]⟩
       · exact (putAll_snoc _ _).symm
       · omega
       · first | exact inTo_old k1 hs (by unfold findS;omega) | (rw [hn_list];exact inTo_new k1 hs (by unfold findS;omega) qg)
   ·skip
    refine zx4 (xJ (sps [.slice zY zT zX,.slice a_row n_row c_row] (sw (zt H Tryz.underlying27 ti22 [.slice a_row n_row c_row] fun b165 w166 H=>?_))))
    obtain ⟨G170,N,hn171,H⟩:=H.vw 1 rfl N (H.jL [0,1,2])
    refine sw (zA H 3 rfl 0 rfl Tryz.underlying27 ti22 rfl qj rfl rfl rfl qx qw qg fun a167 c168 w169 H=>?_)
    replace H:=H.jy 2 rfl 0 rfl
    replace N:Fresh w.heap.size [(vk++G170),rF23a,zN]:=(N.pick [2,0,1,3]).join
    refine sp (.slice a167 (zT+1) c168) (xN (b_n (t_n (xJ (sp (.int .i64 i) (sw (xX i 1 rfl rfl qg (sp (.int .i64 (i+1)) (xN (xg (m' :=(200 - ((i+1):Int)).toNat) qg ⟨_,a_list_1,xE,zl,list_1,vP,zN,a167,zT+1,c168,(next++[(vU row0)]),jK++[.slice a_row n_row c_row],(vk++G170),i+1,uE5,?_,?_,rfl,(N.pick [2,0]),H.pick [3,4] [0,4,5,6,7,8,9,10,11]⟩))))))))))
    · exact outTo_next j1 qg qm ((show c=(xh p (list[i]!) mode).2.length by omega)▸k1)
    · omega
 ·skip
  refine zx4 (zcr (sps [.slice yR vM jD,.slice zY zT zX,.slice yR vM jD,.slice zY zT zX,.bool true] (zjr (ret3 (.slice yR vM jD) (.slice zY zT zX) (.bool true) rfl rfl rfl rfl ⟨_,rfl,(sps [.tuple #[.slice yR vM jD,.slice zY zT zX,.bool true],.slice yR vM jD,.slice zY zT zX,.bool true,.slice yR vM jD,.slice zY zT zX,.bool true] (zjc (sw (jH H Tryz.underlying32 ti39 fun b172 w173 H=>sp (.slice (some ⟨b172,0,none⟩) 0 0) ?_))))⟩))))
  refine zjcc (sp (.int .i64 0) (zjn (xm ?_)))
  have H0:=H
  obtain ⟨G174,hg176,hn175,H⟩:=H.freezeR (α:=qZ) 2 rfl 1 rfl qj
  replace N:Fresh w.heap.size [G174,vk]:=Fresh.ice N H0 2 hg176.1 hg176.2 (H0.jL [0])
  clear H0
  obtain ⟨xs177,B178,P179,N,H⟩:=H.pool (α:=qZ) 0 rfl N
  replace H:=H.boxRow 0 rfl 2 0 rfl qj
  replace H:=H.jC (α:=qZ)
  replace H:St _ _ [rr (some ⟨b172,0,none⟩) 0 0 39 2 [],rr zY zT zX 22 1 jK,rr none 0 0 0 1 []] [xW true [] [] ([]:List qZ),xW true P179 (xs177.drop (0 * 2)) (list.drop 0),cellsF B178 (.slice yR vM jD) xs177,isF true G174 (.slice yR vM jD) list,xW true vk jK next,xW true F_list x_list list,atF bp op [.int .i64 p.qJ,.slice qI p.qC.length qH,.slice apFree p.qL.length cpFree,.slice qR p.qB.length qM],sF false xe qI qH p.qC,sF false FpFree apFree cpFree p.qL,sF false xx qR qM p.qB,atF bs os [.slice asCells s.qG.length csCells,.slice qQ s.qF.length qP],sF false FsCells asCells csCells s.qG,sF false xw qQ qP s.qF]:=H
  refine zK (fun m' ρ w180=>∃ (zu:Env) (zI:yOA) (zC:Nat) (zH:Nat) (out:List qZ) (QA:List Value) (Qz:yLN) (i_1:Nat) (q:Nat) (P_q:yLN),ρ=upd (upd (upd (upd (upd zu 8 (.slice yR vM jD)) 9 (.slice zY zT zX)) 10 (.bool true)) 11 (.slice zI zC zH)) 12 (.int .i64 i_1)∧out=(yB list next i_1)∧(i_1≤list.length)∧(q≤i_1)∧m' =list.length - i_1∧Fresh w.heap.size [vk,Qz,P_q]∧St w w180 [rr zI zC zH 39 2 QA,rr zY zT zX 22 1 jK] [xW true Qz QA out,xW true P_q (xs177.drop (q * 2)) (list.drop q),cellsF B178 (.slice yR vM jD) xs177,isF true G174 (.slice yR vM jD) list,xW true vk jK next]) (list.length - 0) ⟨_,(some ⟨b172,0,none⟩),0,0,([]:List qZ),[],[],0,0,P179,uE5,(by rfl),qg,qg,rfl,(N.emp.pick [2,0,1]),H.pick [0,1] [0,1,2,3,4]⟩ ?_
  clear H N
  rintro m' ρ w181 ⟨zu,zI,zC,zH,out,QA,Qz,i_1,q,P_q,rfl,rfl,i0,kq,rfl,N,H⟩
  have hn_out:=H.zB (α:=qZ) 0 rfl 0 rfl qj
  have rl:=rest_len list next i_1
  refine zcc (sps [.int .i64 i_1,.slice yR vM jD] (oN rfl (sps [.bool (decide ((i_1:Int) < vM)),.bool (decide ((i_1:Int) < vM))] ?_)))
  cases h182:(decide ((i_1:Int) < vM))
  ·skip
   replace h182:=of_decide_eq_false h182
   refine zG [27] (sp (.bool false) (zjn (xC false rfl (fun h=>absurd h qj) (fun _=>zx4 (zcr (sps [.slice zI zC zH,.bool true,.slice zI zC zH,.bool true] (zjr ?_)))))))
   have H0:=H
   obtain ⟨G183,hg185,hn184,H⟩:=H.freezeR (α:=qZ) 0 rfl 0 rfl qj
   replace N:Fresh w.heap.size [G183,vk,P_q]:=Fresh.ice (N.pick [1,0,2]) H0 0 hg185.1 hg185.2 (H0.jL [4,1])
   clear H0
   obtain rfl:=H.isLen 0 rfl
   refine ret2 (.slice zI ((yB list next i_1).length) zH) (.bool true) rfl rfl rfl ⟨_,rfl,?_,H.base⟩
   rw [rs_ok (graph_end j1 qg qg),show list.length=i_1 by omega]
   exact ⟨zI,zH,G183,rfl,(N.pick [0]),H.pick [] [0]⟩
  ·skip
   replace h182:=of_decide_eq_true h182
   refine qY 26 rfl rfl (sps [.bool true,.bool true] (zjn (xC true rfl (fun _=>xf (t_n (xP (xm (zcr (sps [.slice zY zT zX,.int .i64 i_1] ?_)))))) (fun h=>absurd h qj))))
   obtain ⟨b186,rfl⟩:=H.yg 1 rfl qg
   refine oI rfl rfl ?_
   obtain ⟨a187,c188,G189,s190,h191,H⟩:=H.jX 1 rfl 4 rfl (iv:=i_1) i_1 qg qg
   refine oL rfl (h191) (oN rfl (sp (.bool (((next[i_1]!).length:Int) == 0)) (zjn (cE rfl (fun h192=>?_) (fun h192=>?_)))))
   ·skip
    refine xJ (sps [.slice zI zC zH,.slice yR vM jD,.int .i64 i_1] ?_)
    have hl195:=H.isLen 4 rfl
    obtain ⟨b193,o194,rfl⟩:=H.addr 4 rfl qg
    obtain ⟨ae196Cells,ce196Cells,Fe196Cells,ae196Around,ce196Around,Fe196Around,P197,N,H⟩:=H.drain_StockD 3 rfl 2 rfl ((N.pick [2,0,1]):Fresh w.heap.size [P_q,vk,Qz]) i_1 i_1 qg qg qg
    refine oI rfl rfl (sw (xZ [.slice ae196Cells (((list[i_1]!).qG).length) ce196Cells,.slice ae196Around (((list[i_1]!).qF).length) ce196Around] Tryz.isAgg39 Tryz.sizeOf39 rfl (qN (H.get 2 rfl) 0 2) (sw (zt H Tryz.underlying32 ti39 [.slice ae196Cells (((list[i_1]!).qG).length) ce196Cells,.slice ae196Around (((list[i_1]!).qF).length) ce196Around] fun b198 w199 H=>sw (zA H 1 rfl 0 rfl Tryz.underlying32 ti39 rfl qj rfl rfl rfl qx qw qg fun a200 c201 w202 H=>?_)))))
    replace H:=H.snoc_StockD 5 rfl 0 rfl 1 rfl
    replace N:Fresh w.heap.size [(Qz++(Fe196Cells++Fe196Around)),P197,vk]:=(N.pick [0,1,4,2,3]).join.swap.join
    refine sp (.slice a200 (zC+1) c201) (xN (b_n (t_n (xJ (sp (.int .i64 i_1) (sw (xX i_1 1 rfl rfl qg (sp (.int .i64 (i_1+1)) (xN (xg (m' :=list.length - (i_1+1)) qg ⟨_,a200,zC+1,c201,((yB list next i_1)++[⟨(list[i_1]!).qG,(list[i_1]!).qF⟩]),QA++[.slice ae196Cells (((list[i_1]!).qG).length) ce196Cells,.slice ae196Around (((list[i_1]!).qF).length) ce196Around],(Qz++(Fe196Cells++Fe196Around)),i_1+1,i_1+1,P197,uE5,?_,?_,?_,rfl,(N.pick [2,0,1]),H.pick [1,2] [0,4,8,9,10]⟩))))))))))
    · first | exact rest_yes qg | exact rest_no qg
    · omega
    · omega
   ·skip
    refine xf (b_n (t_n (xJ (sp (.int .i64 i_1) (sw (xX i_1 1 rfl rfl qg (sp (.int .i64 (i_1+1)) (xN (xg (m' :=list.length - (i_1+1)) qg ⟨_,zI,zC,zH,(yB list next i_1),QA,Qz,i_1+1,q,P_q,uE5,?_,?_,?_,rfl,N,H.pick [0,1] [1,2,3,4,5]⟩)))))))))
    · first | exact rest_yes qg | exact rest_no qg
    · omega
    · omega

theorem implRest_ok (w:World) (p:qW) (s:qZ) (mode:Int) {qI:yOA} {xe:yLN} {apFree:yOA} {FpFree:yLN} {qR:yOA} {xx:yLN} {asCells:yOA} {FsCells:yLN} {qQ:yOA} {xw:yLN} (qX:qV.rep w xe [.slice qI p.qC.length qH] p.qC) (hpFree:qV.rep w FpFree [.slice apFree p.qL.length cpFree] p.qL) (xn:qV.rep w xx [.slice qR p.qB.length qM] p.qB) (hsCells:qV.rep w FsCells [.slice asCells s.qG.length csCells] s.qG) (xu:qV.rep w xw [.slice qQ s.qF.length qP] s.qF):Calls Tryz.prog 28 #[.agg #[.int .i64 p.qJ,.slice qI p.qC.length qH,.slice apFree p.qL.length cpFree,.slice qR p.qB.length qM],.agg #[.slice asCells s.qG.length csCells,.slice qQ s.qF.length qP],.int .i64 mode] w (Ret (fun v w' =>∃ (ra0:yOA) (rc0:Nat) (rF0:yLN),v=.tuple #[.slice ra0 (((vZ p s mode).1).length) rc0,.int .i64 ((vZ p s mode).2)]∧Fresh w.heap.size [rF0]∧St w w' [] [sF true rF0 ra0 rc0 ((vZ p s mode).1)]) w):=by
 refine en Tryz.func28 Tryz.ntmps28 ?_
 have H:=(((((St.start w).arg xu).arg hsCells).arg xn).arg hpFree).arg qX
 have zF:=qO qX
 have nhpFree:=qO hpFree
 have vC:=qO xn
 have nhsCells:=qO hsCells
 have vV:=qO xu
 clear qX hpFree xn hsCells xu
 have N:=Fresh.nil w.heap.size
 refine zcr (sw (jd H [.int .i64 p.qJ,.slice qI p.qC.length qH,.slice apFree p.qL.length cpFree,.slice qR p.qB.length qM] fun b1 w2 H=>sw (jd H [.slice asCells s.qG.length csCells,.slice qQ s.qF.length qP] fun b3 w4 H=>sps [.slice none 0 0,.int .i64 0] (zjc (sw (xZ [.int .i64 p.qJ,.slice qI p.qC.length qH,.slice apFree p.qL.length cpFree,.slice qR p.qB.length qM] Tryz.isAgg37 Tryz.sizeOf37 rfl (qN (H.cells 1 rfl) 0 4) ?_))))))
 refine sw (xZ [.slice asCells s.qG.length csCells,.slice qQ s.qF.length qP] Tryz.isAgg39 Tryz.sizeOf39 rfl (qN (H.cells 0 rfl) 0 2) (sp (.int .i64 mode) ?_))
 have sz8:=H.base.size
 refine sw (oc (implGraph_ok _ p s mode (H.get 0 rfl).1 (H.get 1 rfl).1 (H.get 2 rfl).1 (H.get 3 rfl).1 (H.get 4 rfl).1) ?_)
 rintro _ w6 ⟨ra5a,rn5a,rc5a,rx5a,rF5a,ra5b,rn5b,rc5b,rx5b,rF5b,rfl,M,K⟩ _
 replace N:=N.merge sz8 qo M
 replace H:=H.merge K M
 obtain rfl:=H.zB (α:=qZ) 0 rfl 0 rfl qj
 obtain rfl:=H.zB (α:=yLI) 1 rfl 1 rfl qj
 refine sps [.tuple #[.slice ra5a (((ve p s mode).1).length) rc5a,.slice ra5b (((ve p s mode).2.1).length) rc5b,.int .i64 ((ve p s mode).2.2)],.slice ra5a (((ve p s mode).1).length) rc5a,.slice ra5b (((ve p s mode).2.1).length) rc5b,.int .i64 ((ve p s mode).2.2),.slice ra5a (((ve p s mode).1).length) rc5a,.slice ra5b (((ve p s mode).2.1).length) rc5b,.int .i64 ((ve p s mode).2.2)] (zjcc (sps [.int .i64 ((ve p s mode).2.2),.bool (((ve p s mode).2.2:Int) != 0)] (zjn (xC (((ve p s mode).2.2:Int) != 0) rfl (fun h12=>?_) (fun h12=>?_)))))
 ·skip
  replace h12:=bne_iff_ne.1 h12
  refine zcr (sps [.int .i64 ((ve p s mode).2.2),.slice none 0 0,.int .i64 ((ve p s mode).2.2)] (zjr (t_r ?_)))
  replace H:=H.addNil (α:=qZ)
  refine ret2 (.slice none 0 0) (.int .i64 ((ve p s mode).2.2)) rfl rfl rfl ⟨_,rfl,?_,H.base⟩
  rw [rt_c qm]
  exact ⟨none,0,[],rfl,(N.emp.pick [0]),H.pick [] [0]⟩
 ·skip
  replace h12:=xA h12
  obtain ⟨k0,gl,gn⟩:=pg_all h12
  have hc:=h12
  refine xf (t_n (zcr (sw (jH H Tryz.underlying32 ti39 fun b13 w14 H=>sp (.slice (some ⟨b13,0,none⟩) 0 0) (zjcc (sp (.slice ra5a (((ve p s mode).1).length) rc5a) (oN rfl (sp (.int .i64 0) (zjn (xm ?_))))))))))
  have H0:=H
  obtain ⟨G15,hg17,hn16,H⟩:=H.freezeR (α:=qZ) 1 rfl 0 rfl qj
  replace N:Fresh w.heap.size [G15,rF5b]:=Fresh.ice N H0 1 hg17.1 hg17.2 (H0.jL [1])
  clear H0
  obtain ⟨xs18,B19,P20,N,H⟩:=H.pool (α:=qZ) 0 rfl N
  replace H:=H.boxRow 0 rfl 2 0 rfl qj
  replace H:=H.jC (α:=qZ)
  replace H:St _ _ [rr (some ⟨b13,0,none⟩) 0 0 39 2 [],rr none 0 0 0 1 [],rr ra5b (((ve p s mode).2.1).length) rc5b 22 1 rx5b,.box b3 [.slice asCells s.qG.length csCells,.slice qQ s.qF.length qP] 39,.box b1 [.int .i64 p.qJ,.slice qI p.qC.length qH,.slice apFree p.qL.length cpFree,.slice qR p.qB.length qM] 37] [xW true [] [] ([]:List qZ),xW true P20 (xs18.drop (0 * 2)) (((ve p s mode).1).drop 0),cellsF B19 (.slice ra5a (((ve p s mode).1).length) rc5a) xs18,sF true G15 ra5a rc5a ((ve p s mode).1),xW true rF5a rx5a ((ve p s mode).1),xW true rF5b rx5b ((ve p s mode).2.1),sF false xe qI qH p.qC,sF false FpFree apFree cpFree p.qL,sF false xx qR qM p.qB,sF false FsCells asCells csCells s.qG,sF false xw qQ qP s.qF]:=H
  refine zK (fun m' ρ w21=>∃ (zu:Env) (zI:yOA) (zC:Nat) (zH:Nat) (out:List qZ) (QA:List Value) (Qz:yLN) (i:Nat) (P_i:yLN),ρ=upd (upd (upd (upd (upd zu 9 (.slice ra5b (((ve p s mode).2.1).length) rc5b)) 11 (.slice zI zC zH)) 26 (.slice ra5a (((ve p s mode).1).length) rc5a)) 27 (.int .i64 (((ve p s mode).1).length))) 28 (.int .i64 i)∧out=(yB (ve p s mode).1 (ve p s mode).2.1 i)∧((i:Int)≤(((ve p s mode).1).length))∧m' =((((ve p s mode).1).length) - (i:Int)).toNat∧Fresh w.heap.size [rF5b,Qz,P_i]∧St w w21 [rr zI zC zH 39 2 QA,rr ra5b (((ve p s mode).2.1).length) rc5b 22 1 rx5b,.box b3 [.slice asCells s.qG.length csCells,.slice qQ s.qF.length qP] 39,.box b1 [.int .i64 p.qJ,.slice qI p.qC.length qH,.slice apFree p.qL.length cpFree,.slice qR p.qB.length qM] 37] [xW true Qz QA out,xW true P_i (xs18.drop (i * 2)) (((ve p s mode).1).drop i),cellsF B19 (.slice ra5a (((ve p s mode).1).length) rc5a) xs18,sF true G15 ra5a rc5a ((ve p s mode).1),xW true rF5b rx5b ((ve p s mode).2.1),sF false xe qI qH p.qC,sF false FpFree apFree cpFree p.qL,sF false xx qR qM p.qB,sF false FsCells asCells csCells s.qG,sF false xw qQ qP s.qF]) (((((ve p s mode).1).length) - (0:Int)).toNat) ⟨_,(some ⟨b13,0,none⟩),0,0,([]:List qZ),[],[],0,P20,uE5,(by rfl),qg,rfl,(N.emp.pick [2,0,1]),H.pick [0,2,3,4] [0,1,2,3,5,6,7,8,9,10]⟩ ?_
  clear H N
  rintro m' ρ w22 ⟨zu,zI,zC,zH,out,QA,Qz,i,P_i,rfl,rfl,i0,rfl,N,H⟩
  have hn_out:=H.zB (α:=qZ) 0 rfl 0 rfl qj
  have rl:=rest_len (ve p s mode).1 (ve p s mode).2.1 i
  refine zcr (sp (.bool (decide ((i:Int) < (((ve p s mode).1).length)))) (zjn (xP (cD rfl (fun h23=>?_) (fun h23=>?_)))))
  ·skip
   refine xf (t_n (xP (xm (zcr (sp (.int .i64 i) ?_)))))
   obtain ⟨b24,o25,rfl⟩:=H.addr 3 rfl qg
   obtain ⟨ae27Cells,ce27Cells,Fe27Cells,ae27Around,ce27Around,Fe27Around,P28,N,H⟩:=H.drain_StockD 2 rfl 1 rfl ((N.pick [2,0,1]):Fresh w.heap.size [P_i,rF5b,Qz]) i i qg qg qg
   refine oI rfl rfl (sw (xZ [.slice ae27Cells (((((ve p s mode).1)[i]!).qG).length) ce27Cells,.slice ae27Around (((((ve p s mode).1)[i]!).qF).length) ce27Around] Tryz.isAgg39 Tryz.sizeOf39 rfl (qN (H.get 2 rfl) 0 2) (sw (ja H ti39 [.slice none 0 0,.slice none 0 0] fun b29 w30 H=>sp (.int .i64 i) (sw (jA H 0 [.slice ae27Cells (((((ve p s mode).1)[i]!).qG).length) ce27Cells,.slice ae27Around (((((ve p s mode).1)[i]!).qF).length) ce27Around] Tryz.sizeOf39 fun w31 H=>zjc (sps [.slice ra5b (((ve p s mode).2.1).length) rc5b,.int .i64 i] ?_)))))))
   obtain ⟨b32,rfl⟩:=H.yg 2 rfl qg
   refine oI rfl rfl ?_
   obtain ⟨a33,c34,G35,s36,h37,H⟩:=H.jX 2 rfl 8 rfl (iv:=i) i qg qg
   refine oL rfl (h37) (oN rfl (sp (.bool (((((ve p s mode).2.1)[i]!).length:Int) == 0)) (zjn (cE rfl (fun h38=>?_) (fun h38=>?_)))))
   ·skip
    refine xJ (sp (.slice zI zC zH) (sw (xZ [.slice ae27Cells (((((ve p s mode).1)[i]!).qG).length) ce27Cells,.slice ae27Around (((((ve p s mode).1)[i]!).qF).length) ce27Around] Tryz.isAgg39 Tryz.sizeOf39 rfl (qN (H.cells 0 rfl) 0 2) (sw (zt H Tryz.underlying32 ti39 [.slice ae27Cells (((((ve p s mode).1)[i]!).qG).length) ce27Cells,.slice ae27Around (((((ve p s mode).1)[i]!).qF).length) ce27Around] fun b39 w40 H=>sw (zA H 2 rfl 0 rfl Tryz.underlying32 ti39 rfl qj rfl rfl rfl qx qw qg fun a41 c42 w43 H=>?_))))))
    replace H:=H.snoc_StockD 5 rfl 1 rfl 2 rfl
    replace N:Fresh w.heap.size [(Qz++(Fe27Cells++Fe27Around)),P28,rF5b]:=(N.pick [0,1,4,2,3]).join.swap.join
    refine sp (.slice a41 (zC+1) c42) (xN (b_n (t_n (xJ (sw (xX i 1 rfl rfl qg (sp (.int .i64 (i+1)) (xN (xg (m' :=((((ve p s mode).1).length) - ((i+1):Int)).toNat) qg ⟨_,a41,zC+1,c42,((yB (ve p s mode).1 (ve p s mode).2.1 i)++[⟨(((ve p s mode).1)[i]!).qG,(((ve p s mode).1)[i]!).qF⟩]),QA++[.slice ae27Cells (((((ve p s mode).1)[i]!).qG).length) ce27Cells,.slice ae27Around (((((ve p s mode).1)[i]!).qF).length) ce27Around],(Qz++(Fe27Cells++Fe27Around)),i+1,P28,uE5,?_,?_,rfl,(N.pick [2,0,1]),H.pick [2,3,4,5] [0,5,8,9,10,11,12,13,14,15]⟩)))))))))
    · first | exact rest_yes qg | exact rest_no qg
    · omega
   ·skip
    refine xf (b_n (t_n (xJ (sw (xX i 1 rfl rfl qg (sp (.int .i64 (i+1)) (xN (xg (m' :=((((ve p s mode).1).length) - ((i+1):Int)).toNat) qg ⟨_,zI,zC,zH,(yB (ve p s mode).1 (ve p s mode).2.1 i),QA,Qz,i+1,P28,uE5,?_,?_,rfl,(N.pick [3,4,2]),H.pick [1,2,3,4] [5,4,7,8,9,10,11,12,13,14]⟩))))))))
    · first | exact rest_yes qg | exact rest_no qg
    · omega
  ·skip
   refine zx4 (zcr (sps [.slice zI zC zH,.slice zI zC zH,.int .i64 0] (zjr ?_)))
   have H0:=H
   obtain ⟨G44,hg46,hn45,H⟩:=H.freezeR (α:=qZ) 0 rfl 0 rfl qj
   replace N:Fresh w.heap.size [G44,rF5b,P_i]:=Fresh.ice (N.pick [1,0,2]) H0 0 hg46.1 hg46.2 (H0.jL [4,1])
   clear H0
   obtain rfl:=H.isLen 0 rfl
   refine ret2 (.slice zI ((yB (ve p s mode).1 (ve p s mode).2.1 i).length) zH) (.int .i64 0) rfl rfl rfl ⟨_,rfl,?_,H.base⟩
   rw [rt_0 hc (i:=i) qg]
   exact ⟨zI,zH,G44,rfl,(N.pick [0]),H.pick [] [0]⟩
theorem specRes_ok (w:World) (p:qW) (s:qZ) (mode:Int) (cell:Int) {qI:yOA} {xe:yLN} {apFree:yOA} {FpFree:yLN} {qR:yOA} {xx:yLN} {asCells:yOA} {FsCells:yLN} {qQ:yOA} {xw:yLN} (qX:qV.rep w xe [.slice qI p.qC.length qH] p.qC) (hpFree:qV.rep w FpFree [.slice apFree p.qL.length cpFree] p.qL) (xn:qV.rep w xx [.slice qR p.qB.length qM] p.qB) (hsCells:qV.rep w FsCells [.slice asCells s.qG.length csCells] s.qG) (xu:qV.rep w xw [.slice qQ s.qF.length qP] s.qF):Calls Tryz.prog 22 #[.agg #[.int .i64 p.qJ,.slice qI p.qC.length qH,.slice apFree p.qL.length cpFree,.slice qR p.qB.length qM],.agg #[.slice asCells s.qG.length csCells,.slice qQ s.qF.length qP],.int .i64 mode,.int .i64 cell] w (Ret (fun v w' =>∃ (ra0:yOA) (rn0:Nat) (rc0:Nat),v=.tuple #[.slice ra0 rn0 rc0,.int .i64 ((zk p s mode cell).2)]∧Fresh w.heap.size []∧St w w' [rr ra0 rn0 rc0 2 1 (((zk p s mode cell).1).map (Value.int .i64))] []) w):=by
 refine en Tryz.func22 Tryz.ntmps22 ?_
 have H:=(((((St.start w).arg xu).arg hsCells).arg xn).arg hpFree).arg qX
 have zF:=qO qX
 have nhpFree:=qO hpFree
 have vC:=qO xn
 have nhsCells:=qO hsCells
 have vV:=qO xu
 clear qX hpFree xn hsCells xu
 have N:=Fresh.nil w.heap.size
 refine zcr (sw (jd H [.int .i64 p.qJ,.slice qI p.qC.length qH,.slice apFree p.qL.length cpFree,.slice qR p.qB.length qM] fun b1 w2 H=>sw (jd H [.slice asCells s.qG.length csCells,.slice qQ s.qF.length qP] fun b3 w4 H=>sps [.slice none 0 0,.int .i64 0] (zjcc (sp (.int .i64 mode) (sw (oq (l06Asked_ok _ p s mode (qN (H.cells 1 rfl) 0 4) (H.get 0 rfl).1 (H.get 1 rfl).1 (H.get 2 rfl).1 (qN (H.cells 0 rfl) 0 2) (H.get 3 rfl).1 (H.get 4 rfl).1) H fun w6 H=>sp (.int .i64 (jc p s mode)) (zjc ?_))))))))
 refine sps [.int .i64 (jc p s mode),.bool ((jc p s mode:Int) != 0)] (zjn (xC ((jc p s mode:Int) != 0) rfl (fun h8=>?_) (fun h8=>?_)))
 ·skip
  replace h8:=bne_iff_ne.1 h8
  refine zcr (sw (jH H Tryz.underlying22 ti2 fun b9 w10 H=>sps [.int .i64 (jc p s mode),.slice (some ⟨b9,0,none⟩) 0 0,.int .i64 (jc p s mode)] (zjr (t_r ?_))))
  replace H:=H.boxRowI 0 [] 0
  refine ret2 (.slice (some ⟨b9,0,none⟩) 0 0) (.int .i64 (jc p s mode)) rfl rfl rfl ⟨_,rfl,?_,H.base⟩
  rw [pr_code qm]
  exact ⟨(some ⟨b9,0,none⟩),0,0,rfl,N,H.pick [0] []⟩
 ·skip
  replace h8:=xA h8
  obtain ⟨p0,p1,p2⟩:=mcode_ok h8
  have k0:=h8
  refine xf (t_n (zcc (sp (.int .i64 cell) (oF rfl (oL rfl (H.cell 1 rfl rfl) (oN rfl (sw (o_sub p.qC.length 1 rfl rfl qg (sw (oq (l00In_ok w6 cell 0 (p.qC.length - 1)) H fun w11 H=>sp (.bool (!(inR cell 0 (p.qC.length - 1)))) (zjn (xC (!(inR cell 0 (p.qC.length - 1))) rfl (fun h13=>?_) (fun h13=>?_)))))))))))))
  ·skip
   replace h13:=xB h13
   replace h13:=inR_not h13
   have hq:=h13
   refine zcr (sw (jH H Tryz.underlying22 ti2 fun b14 w15 H=>sps [.slice (some ⟨b14,0,none⟩) 0 0,.int .i64 2] (zjr (t_r ?_))))
   replace H:=H.boxRowI 0 [] 0
   refine ret2 (.slice (some ⟨b14,0,none⟩) 0 0) (.int .i64 2) rfl rfl rfl ⟨_,rfl,?_,H.base⟩
   rw [pr_2 k0 hq]
   exact ⟨(some ⟨b14,0,none⟩),0,0,rfl,N,H.pick [0] []⟩
  ·skip
   replace h13:=xq h13
   replace h13:=QB.1 h13
   have hq:=h13
   refine xf (t_n (zcr (sp (.int .i64 mode) ?_)))
   have sz19:=H.base.size
   refine sw (oc (l06Rest_ok _ p s mode (qN (H.cells 1 rfl) 0 4) (H.get 0 rfl).1 (H.get 1 rfl).1 (H.get 2 rfl).1 (qN (H.cells 0 rfl) 0 2) (H.get 3 rfl).1 (H.get 4 rfl).1 (by exact p0) (by exact p1)) ?_)
   rintro _ w17 ⟨ra16a,rc16a,rF16a,rfl,M,K⟩ _
   replace N:=N.merge sz19 qo M
   replace H:=H.merge K M
   refine sps [.tuple #[.slice ra16a (((yC p s mode).1).length) rc16a,.bool ((yC p s mode).2)],.slice ra16a (((yC p s mode).1).length) rc16a,.bool ((yC p s mode).2),.slice ra16a (((yC p s mode).1).length) rc16a,.bool ((yC p s mode).2)] (zjcc (sps [.bool ((yC p s mode).2),.bool (!((yC p s mode).2))] (zjn (xC (!((yC p s mode).2)) rfl (fun h21=>?_) (fun h21=>?_)))))
   ·skip
    replace h21:=xB h21
    refine zcr (sw (jH H Tryz.underlying22 ti2 fun b22 w23 H=>sps [.slice (some ⟨b22,0,none⟩) 0 0,.int .i64 3] (zjr (t_r ?_))))
    replace H:=H.boxRowI 0 [] 0
    refine ret2 (.slice (some ⟨b22,0,none⟩) 0 0) (.int .i64 3) rfl rfl rfl ⟨_,rfl,?_,H.base⟩
    have hr:=rt_lim k0 qm
    rw [pr_lim k0 hq (by rw [hr];decide),hr]
    exact ⟨(some ⟨b22,0,none⟩),0,0,rfl,(N.pick []),H.pick [0] []⟩
   ·skip
    replace h21:=xq h21
    obtain ⟨rl,so⟩:=rs_all (mode:=mode) p1
    have hr:=rt_ok k0 qm
    have e1:(vZ p s mode).1=(yC p s mode).1:=by rw [hr]
    have e2:(vZ p s mode).2=0:=by rw [hr]
    refine xf (t_n (zcr (sw (jH H Tryz.underlying22 ti2 fun b24 w25 H=>sp (.slice (some ⟨b24,0,none⟩) 0 0) (zjcc (sp (.int .i64 0) (zjn (xm ?_))))))))
    replace H:=H.boxRowI 0 [] 0
    refine zK (fun m' ρ w26=>∃ (zu:Env) (zI:yOA) (zC:Nat) (zH:Nat) (out:yLI) (i:Nat),ρ=upd (upd (upd (upd zu 3 (.int .i64 cell)) 11 (.slice ra16a (((yC p s mode).1).length) rc16a)) 13 (.slice zI zC zH)) 14 (.int .i64 i)∧out=(vU (Qj (yC p s mode).1 cell i))∧((i:Int)≤(((yC p s mode).1).length))∧m' =((((yC p s mode).1).length) - (i:Int)).toNat∧Fresh w.heap.size [rF16a]∧St w w26 [rr zI zC zH 2 1 (out.map (Value.int .i64)),.box b3 [.slice asCells s.qG.length csCells,.slice qQ s.qF.length qP] 39,.box b1 [.int .i64 p.qJ,.slice qI p.qC.length qH,.slice apFree p.qL.length cpFree,.slice qR p.qB.length qM] 37] [sF true rF16a ra16a rc16a ((yC p s mode).1),sF false xe qI qH p.qC,sF false FpFree apFree cpFree p.qL,sF false xx qR qM p.qB,sF false FsCells asCells csCells s.qG,sF false xw qQ qP s.qF]) (((((yC p s mode).1).length) - (0:Int)).toNat) ⟨_,(some ⟨b24,0,none⟩),0,0,([]:yLI),0,uE4,(by rfl),qg,rfl,N,H⟩ ?_
    clear H N
    rintro m' ρ w27 ⟨zu,zI,zC,zH,out,i,rfl,rfl,i0,rfl,N,H⟩
    have hn_out:=H.y9 0 rfl
    have ol:=putAll_len (Qj (yC p s mode).1 cell i)
    have sl:=sums_len (yC p s mode).1 cell i
    refine zcc (sps [.int .i64 i,.slice ra16a (((yC p s mode).1).length) rc16a] (oN rfl (sp (.bool (decide ((i:Int) < (((yC p s mode).1).length)))) (zjn (cD rfl (fun h28=>?_) (fun h28=>?_))))))
    ·skip
     have sk:=so i qg
     have sb:=sk.2.2.1 cell.toNat (by have:=sk.1;omega)
     have sz:=sk.1
     have sa:=sb.1
     have s8:=sa.2
     refine xf (t_n (xP (xm (xJ (sps [.slice zI zC zH,.slice ra16a (((yC p s mode).1).length) rc16a,.int .i64 i] ?_)))))
     obtain ⟨b29,o30,rfl⟩:=H.addr 0 rfl qg
     obtain ⟨ae32Cells,ce32Cells,Fe32Cells,ae32Around,ce32Around,Fe32Around,H⟩:=H.elem_StockD 0 rfl i i qg qg qg
     refine oI rfl rfl (oF rfl (oL rfl (H.xU 2 rfl 0 rfl) (sp (.int .i64 cell) ?_)))
     obtain ⟨b33,o34,rfl⟩:=H.addr 0 rfl qg
     obtain ⟨ae36,ce36,Fe36,H⟩:=H.Qm 0 rfl cell cell.toNat qg qg qg
     refine oI rfl rfl (oL rfl (H.xU 1 rfl 0 rfl) (sw (oq (l06Sum_ok _ (((((yC p s mode).1)[i]!).qG)[cell.toNat]!) (H.get 0 rfl).1 (by first | assumption | exact jJ qm | exact Qs qm)) H fun w38 H=>?_)))
     obtain ⟨G40,hn41,h42⟩:=H.Qa 0 rfl
     have sz46:=H.base.size
     refine sw (oc (args_eq (by rw [← hn41]) (l00Put_ok _ (vU (Qj (yC p s mode).1 cell i)) (yM (((((yC p s mode).1)[i]!).qG)[cell.toNat]!)) (hn41▸h42) qh)) ?_)
     rintro _ w44 ⟨ra43,rn43,rc43,rfl,M,K⟩ _
     replace H:=H.merge K M
     obtain rfl:=H.y9 0 rfl
     refine sp (.slice ra43 ((putL (yM (((((yC p s mode).1)[i]!).qG)[cell.toNat]!)) (vU (Qj (yC p s mode).1 cell i))).length) rc43) (xN (b_n (t_n (xJ (sp (.int .i64 i) (sw (xX i 1 rfl rfl qg (sp (.int .i64 (i+1)) (xN (xg (m' :=((((yC p s mode).1).length) - ((i+1):Int)).toNat) qg ⟨_,ra43,(putL (yM (((((yC p s mode).1)[i]!).qG)[cell.toNat]!)) (vU (Qj (yC p s mode).1 cell i))).length,rc43,putL (yM (((((yC p s mode).1)[i]!).qG)[cell.toNat]!)) (vU (Qj (yC p s mode).1 cell i)),i+1,uE4,?_,?_,rfl,N,H.pick [0,2,3] [5,6,7,8,9,10]⟩))))))))))
     · exact sums_put qg
     · omega
    ·skip
     refine zx4 (zcr (sps [.slice zI zC zH,.slice zI zC zH,.int .i64 0] (zjr (ret2 (.slice zI zC zH) (.int .i64 0) rfl rfl rfl ⟨_,rfl,?_,H.base⟩))))
     rw [pr_0 k0 hq e2 (i:=i) (by rw [e1];omega),e1]
     exact ⟨zI,zC,zH,rfl,(N.pick []),H.pick [0] []⟩

theorem implRes_ok (w:World) (p:qW) (s:qZ) (mode:Int) (cell:Int) {qI:yOA} {xe:yLN} {apFree:yOA} {FpFree:yLN} {qR:yOA} {xx:yLN} {asCells:yOA} {FsCells:yLN} {qQ:yOA} {xw:yLN} (qX:qV.rep w xe [.slice qI p.qC.length qH] p.qC) (hpFree:qV.rep w FpFree [.slice apFree p.qL.length cpFree] p.qL) (xn:qV.rep w xx [.slice qR p.qB.length qM] p.qB) (hsCells:qV.rep w FsCells [.slice asCells s.qG.length csCells] s.qG) (xu:qV.rep w xw [.slice qQ s.qF.length qP] s.qF):Calls Tryz.prog 23 #[.agg #[.int .i64 p.qJ,.slice qI p.qC.length qH,.slice apFree p.qL.length cpFree,.slice qR p.qB.length qM],.agg #[.slice asCells s.qG.length csCells,.slice qQ s.qF.length qP],.int .i64 mode,.int .i64 cell] w (Ret (fun v w' =>∃ (ra0:yOA) (rn0:Nat) (rc0:Nat),v=.tuple #[.slice ra0 rn0 rc0,.int .i64 ((zk p s mode cell).2)]∧Fresh w.heap.size []∧St w w' [rr ra0 rn0 rc0 2 1 (((zk p s mode cell).1).map (Value.int .i64))] []) w):=by
 refine en Tryz.func23 Tryz.ntmps23 ?_
 have H:=(((((St.start w).arg xu).arg hsCells).arg xn).arg hpFree).arg qX
 have zF:=qO qX
 have nhpFree:=qO hpFree
 have vC:=qO xn
 have nhsCells:=qO hsCells
 have vV:=qO xu
 clear qX hpFree xn hsCells xu
 have N:=Fresh.nil w.heap.size
 refine zcr (sw (jd H [.int .i64 p.qJ,.slice qI p.qC.length qH,.slice apFree p.qL.length cpFree,.slice qR p.qB.length qM] fun b1 w2 H=>sw (jd H [.slice asCells s.qG.length csCells,.slice qQ s.qF.length qP] fun b3 w4 H=>sps [.slice none 0 0,.int .i64 0] (zjc (sw (xZ [.int .i64 p.qJ,.slice qI p.qC.length qH,.slice apFree p.qL.length cpFree,.slice qR p.qB.length qM] Tryz.isAgg37 Tryz.sizeOf37 rfl (qN (H.cells 1 rfl) 0 4) ?_))))))
 refine sw (xZ [.slice asCells s.qG.length csCells,.slice qQ s.qF.length qP] Tryz.isAgg39 Tryz.sizeOf39 rfl (qN (H.cells 0 rfl) 0 2) (sp (.int .i64 mode) (sw (oq (modeOf_ok _ p s mode (H.get 0 rfl).1 (H.get 1 rfl).1 (H.get 2 rfl).1 (H.get 3 rfl).1 (H.get 4 rfl).1) H fun w6 H=>sp (.int .i64 (jc p s mode)) (zjcc (sps [.int .i64 (jc p s mode),.bool ((jc p s mode:Int) == 0),.bool ((jc p s mode:Int) == 0)] ?_))))))
 cases h8:((jc p s mode:Int) == 0)
 ·skip
  replace h8:=ne_of_beq_false h8
  refine zG [22,23,24,25,26,27,28] (sp (.bool false) (zjn (xC false rfl (fun h=>absurd h qj) (fun _=>xf (t_n (zcc (sps [.int .i64 (jc p s mode),.bool ((jc p s mode:Int) != 0)] (zjn (xC ((jc p s mode:Int) != 0) rfl (fun h9=>?_) (fun h=>absurd (xA h) h8))))))))))
  replace h9:=bne_iff_ne.1 h9
  refine zcr (sps [.int .i64 (jc p s mode),.slice none 0 0,.int .i64 (jc p s mode)] (zjr (t_r ?_)))
  replace H:=H.nilRowI 2
  refine ret2 (.slice none 0 0) (.int .i64 (jc p s mode)) rfl rfl rfl ⟨_,rfl,?_,H.base⟩
  rw [pr_code qm]
  exact ⟨none,0,0,rfl,N,H.pick [0] []⟩
 ·skip
  replace h8:=eq_of_beq h8
  refine qY 21 rfl rfl (sp (.int .i64 cell) (qY 21 rfl rfl (oF rfl (qY 21 rfl rfl (oL rfl (H.cell 1 rfl rfl) (qY 21 rfl rfl (sw (oq (sizeI_ok _ p.qC (H.get 0 rfl).1) H fun w10 H=>qY 21 rfl rfl (sw (o_sub (p.qC.length:Int) 1 rfl rfl qg (qY 21 rfl rfl (sw (oq (QJ w10 cell 0 ((p.qC.length:Int) - 1)) H fun w12 H=>qY 21 rfl rfl (sps [.bool (!(inR cell 0 ((p.qC.length:Int) - 1))),.bool (!(inR cell 0 ((p.qC.length:Int) - 1)))] (zjn (xC (!(inR cell 0 ((p.qC.length:Int) - 1))) rfl (fun h14=>?_) (fun h14=>?_)))))))))))))))))
  ·skip
   replace h14:=xB h14
   replace h14:=inR_not h14
   refine xJ (sp (.int .i64 2) (zjcc (sps [.int .i64 2,.bool true] (zjn (xC true rfl (fun _=>zcr (sps [.int .i64 2,.slice none 0 0,.int .i64 2] (zjr (t_r ?_)))) (fun h=>absurd h qj))))))
   replace H:=H.nilRowI 2
   refine ret2 (.slice none 0 0) (.int .i64 2) rfl rfl rfl ⟨_,rfl,?_,H.base⟩
   rw [pr_2 qm qm]
   exact ⟨none,0,0,rfl,N,H.pick [0] []⟩
  ·skip
   replace h14:=xq h14
   replace h14:=QB.1 h14
   refine xf (t_n (zcc (sps [.int .i64 (jc p s mode),.bool ((jc p s mode:Int) != 0)] (zjn (xC ((jc p s mode:Int) != 0) rfl (fun h=>absurd h8 (bne_iff_ne.1 h)) (fun h15=>?_))))))
   replace h15:=xA h15
   refine xf (t_n (zcr (sw (xZ [.int .i64 p.qJ,.slice qI p.qC.length qH,.slice apFree p.qL.length cpFree,.slice qR p.qB.length qM] Tryz.isAgg37 Tryz.sizeOf37 rfl (qN (H.cells 1 rfl) 0 4) (sw (xZ [.slice asCells s.qG.length csCells,.slice qQ s.qF.length qP] Tryz.isAgg39 Tryz.sizeOf39 rfl (qN (H.cells 0 rfl) 0 2) (sp (.int .i64 mode) ?_)))))))
   have sz19:=H.base.size
   refine sw (oc (implRest_ok _ p s mode (H.get 0 rfl).1 (H.get 1 rfl).1 (H.get 2 rfl).1 (H.get 3 rfl).1 (H.get 4 rfl).1) ?_)
   rintro _ w17 ⟨ra16a,rc16a,rF16a,rfl,M,K⟩ _
   replace N:=N.merge sz19 qo M
   replace H:=H.merge K M
   refine sps [.tuple #[.slice ra16a (((vZ p s mode).1).length) rc16a,.int .i64 ((vZ p s mode).2)],.slice ra16a (((vZ p s mode).1).length) rc16a,.int .i64 ((vZ p s mode).2),.slice ra16a (((vZ p s mode).1).length) rc16a,.int .i64 ((vZ p s mode).2)] (zjcc (sps [.int .i64 ((vZ p s mode).2),.bool (((vZ p s mode).2:Int) != 0)] (zjn (xC (((vZ p s mode).2:Int) != 0) rfl (fun h21=>?_) (fun h21=>?_)))))
   ·skip
    replace h21:=bne_iff_ne.1 h21
    refine zcr (sps [.int .i64 ((vZ p s mode).2),.slice none 0 0,.int .i64 ((vZ p s mode).2)] (zjr (t_r ?_)))
    replace H:=H.nilRowI 2
    refine ret2 (.slice none 0 0) (.int .i64 ((vZ p s mode).2)) rfl rfl rfl ⟨_,rfl,?_,H.base⟩
    rw [pr_lim qm qm qm]
    exact ⟨none,0,0,rfl,(N.pick []),H.pick [0] []⟩
   ·skip
    replace h21:=xA h21
    have ra:=rt_all (p:=p) (s:=s) (mode:=mode)
    have rl:=ra.1
    have so:=ra.2.2 qm
    refine xf (t_n (zcr (sw (jH H Tryz.underlying22 ti2 fun b22 w23 H=>sp (.slice (some ⟨b22,0,none⟩) 0 0) (zjcc (sp (.slice ra16a (((vZ p s mode).1).length) rc16a) (oN rfl (sp (.int .i64 0) (zjn (xm ?_))))))))))
    replace H:=H.boxRowI 0 [] 0
    refine zK (fun m' ρ w24=>∃ (zu:Env) (zI:yOA) (zC:Nat) (zH:Nat) (out:yLI) (k:Nat),ρ=upd (upd (upd (upd (upd zu 3 (.int .i64 cell)) 12 (.slice zI zC zH)) 44 (.slice ra16a (((vZ p s mode).1).length) rc16a)) 45 (.int .i64 (((vZ p s mode).1).length))) 46 (.int .i64 k)∧out=(Qj (vZ p s mode).1 cell k)∧((k:Int)≤(((vZ p s mode).1).length))∧m' =((((vZ p s mode).1).length) - (k:Int)).toNat∧Fresh w.heap.size [rF16a]∧St w w24 [rr zI zC zH 2 1 (out.map (Value.int .i64)),.box b3 [.slice asCells s.qG.length csCells,.slice qQ s.qF.length qP] 39,.box b1 [.int .i64 p.qJ,.slice qI p.qC.length qH,.slice apFree p.qL.length cpFree,.slice qR p.qB.length qM] 37] [sF true rF16a ra16a rc16a ((vZ p s mode).1),sF false xe qI qH p.qC,sF false FpFree apFree cpFree p.qL,sF false xx qR qM p.qB,sF false FsCells asCells csCells s.qG,sF false xw qQ qP s.qF]) (((((vZ p s mode).1).length) - (0:Int)).toNat) ⟨_,(some ⟨b22,0,none⟩),0,0,([]:yLI),0,uE5,(by rfl),qg,rfl,N,H⟩ ?_
    clear H N
    rintro m' ρ w25 ⟨zu,zI,zC,zH,out,k,rfl,rfl,i0,rfl,N,H⟩
    have hn_out:=H.y9 0 rfl
    have sl:=sums_len (vZ p s mode).1 cell k
    refine zcr (sp (.bool (decide ((k:Int) < (((vZ p s mode).1).length)))) (zjn (xP (cD rfl (fun h26=>?_) (fun h26=>?_)))))
    ·skip
     have sk:=so k qg
     have sb:=sk.2.2.1 cell.toNat (by have:=sk.1;omega)
     have sz:=sk.1
     have sa:=sb.1
     have s8:=sa.2
     refine xf (t_n (xP (xm (zcr ?_))))
     obtain ⟨b27,o28,rfl⟩:=H.addr 0 rfl qg
     obtain ⟨ae30Cells,ce30Cells,Fe30Cells,ae30Around,ce30Around,Fe30Around,H⟩:=H.elem_StockD 0 rfl k k qg qg qg
     refine oI rfl rfl (sw (xZ [.slice ae30Cells (((((vZ p s mode).1)[k]!).qG).length) ce30Cells,.slice ae30Around (((((vZ p s mode).1)[k]!).qF).length) ce30Around] Tryz.isAgg39 Tryz.sizeOf39 rfl (qN (H.get 2 rfl) 0 2) (sw (ja H ti39 [.slice none 0 0,.slice none 0 0] fun b31 w32 H=>sw (jA H 0 [.slice ae30Cells (((((vZ p s mode).1)[k]!).qG).length) ce30Cells,.slice ae30Around (((((vZ p s mode).1)[k]!).qF).length) ce30Around] Tryz.sizeOf39 fun w33 H=>zjn (xJ (sp (.slice zI zC zH) (oF rfl (oL rfl (H.cell 0 rfl rfl) (sp (.int .i64 cell) ?_))))))))))
     obtain ⟨b34,o35,rfl⟩:=H.addr 0 rfl qg
     obtain ⟨ae37,ce37,Fe37,H⟩:=H.Qm 0 rfl cell cell.toNat qg qg qg
     refine oI rfl rfl (oL rfl (H.xU 1 rfl 0 rfl) (sw (oq (bagSize_ok _ (((((vZ p s mode).1)[k]!).qG)[cell.toNat]!) (H.get 0 rfl).1 (by first | assumption | exact jJ qm | exact Qs qm)) H fun w38 H=>sw (zt H Tryz.underlying22 ti2 [.int .i64 (yM (((((vZ p s mode).1)[k]!).qG)[cell.toNat]!))] fun b40 w41 H=>sw (zA H 2 rfl 0 rfl Tryz.underlying22 ti2 rfl qj rfl rfl rfl qx qw qg fun a42 c43 w44 H=>?_)))))
     rw [snocI] at H
     refine sp (.slice a42 (zC+1) c43) (xN (b_n (t_n (xJ (sw (xX k 1 rfl rfl qg (sp (.int .i64 (k+1)) (xN (xg (m' :=((((vZ p s mode).1).length) - ((k+1):Int)).toNat) qg ⟨_,a42,zC+1,c43,((Qj (vZ p s mode).1 cell k)++[yM (((((vZ p s mode).1)[k]!).qG)[cell.toNat]!)]),k+1,uE5,?_,?_,rfl,N,H.pick [2,3,4] [5,6,7,8,9,10]⟩)))))))))
     · exact sums_next qg
     · omega
    ·skip
     refine zx4 (zcr (sp (.slice zI zC zH) (sw (jG #[.slice zI zC zH] rfl rfl Tryz.call45 (en Tryz.func45 Tryz.ntmps45 ?_)))))
     refine zcr (sp (.slice none 0 0) (zjc (sp (.slice zI zC zH) ?_)))
     have sl46:=sortI_len (Qj (vZ p s mode).1 cell k)
     refine sw (o_callF #[.slice zI zC zH] rfl rfl Tryz.call77 (sortRowI sortLI H 0 rfl (by first | omega | (simp only [List.length_append,List.length_cons,List.length_nil];omega))) ?_)
     rintro _ w45 ⟨rfl,H⟩
     refine zjc (sp (.slice zI zC zH) (sw (o_callF #[.slice zI zC zH] rfl rfl Tryz.call78 (compSortRow compLI H 0 rfl) ?_)))
     rintro _ w47 ⟨rfl,H⟩
     refine sp (.slice zI ((vU (Qj (vZ p s mode).1 cell k)).length) zH) (zjr (ret1 (.slice zI ((vU (Qj (vZ p s mode).1 cell k)).length) zH) rfl rfl ⟨_,rfl,(sps [.slice zI ((vU (Qj (vZ p s mode).1 cell k)).length) zH,.int .i64 0] (zjr (ret2 (.slice zI ((vU (Qj (vZ p s mode).1 cell k)).length) zH) (.int .i64 0) rfl rfl rfl ⟨_,rfl,?_,H.base⟩)))⟩))
     rw [pr_0 qm qm qm (i:=k) qg]
     exact ⟨zI,(vU (Qj (vZ p s mode).1 cell k)).length,zH,rfl,(N.pick []),H.pick [0] []⟩
theorem law_PassResults (w:World) (aP:qW) (aS:qZ) (aMode:Int) (zn:Int) (jo:yOA) (jk:Nat) (QL:yLN) (aaPFree:yOA) (caPFree:Nat) (FaPFree:yLN) (yJ:yOA) (yG:Nat) (FaPRules:yLN) (aaSCells:yOA) (caSCells:Nat) (FaSCells:yLN) (jP:yOA) (jM:Nat) (FaSAround:yLN) (haPParents:qV.rep w QL [.slice jo aP.qC.length jk] aP.qC) (haPFree:qV.rep w FaPFree [.slice aaPFree aP.qL.length caPFree] aP.qL) (haPRules:qV.rep w FaPRules [.slice yJ aP.qB.length yG] aP.qB) (haSCells:qV.rep w FaSCells [.slice aaSCells aS.qG.length caSCells] aS.qG) (haSAround:qV.rep w FaSAround [.slice jP aS.qF.length jM] aS.qF):Calls Tryz.prog 4 #[.agg #[.int .i64 aP.qJ,.slice jo aP.qC.length jk,.slice aaPFree aP.qL.length caPFree,.slice yJ aP.qB.length yG],.agg #[.slice aaSCells aS.qG.length caSCells,.slice jP aS.qF.length jM],.int .i64 aMode,.int .i64 zn] w (Ret (fun v w' =>v=.bool true) w):=by
 refine en Tryz.func4 Tryz.ntmps4 ?_
 have H:=(((((St.start w).arg haSAround).arg haSCells).arg haPRules).arg haPFree).arg haPParents
 have nhaPParents:=qO haPParents
 have nhaPFree:=qO haPFree
 have nhaPRules:=qO haPRules
 have nhaSCells:=qO haSCells
 have nhaSAround:=qO haSAround
 clear haPParents haPFree haPRules haSCells haSAround
 have N:=Fresh.nil w.heap.size
 have A:=H.ltN (L:=[QL,FaPFree,FaPRules,FaSCells,FaSAround]) [0,1,2,3,4]
 have t1:=QI aP
 have t2:=tot_StockD aS
 have c0:=cntL_tot aP.qC
 have c1:=cntL_tot aP.qL
 have c2:=cntL_tot aP.qB
 have c3:=cntL_tot aS.qG
 have c4:=cntL_tot aS.qF
 have f1:=few_pr aP aS aMode zn
 refine zcr (sw (jd H [.int .i64 aP.qJ,.slice jo aP.qC.length jk,.slice aaPFree aP.qL.length caPFree,.slice yJ aP.qB.length yG] fun b1 w2 H=>sw (jd H [.slice aaSCells aS.qG.length caSCells,.slice jP aS.qF.length jM] fun b3 w4 H=>sp (.bool false) (zjc (sp (.int .i64 1048576) (zjc (sw (xZ [.int .i64 aP.qJ,.slice jo aP.qC.length jk,.slice aaPFree aP.qL.length caPFree,.slice yJ aP.qB.length yG] Tryz.isAgg26 Tryz.sizeOf26 rfl (qN (H.cells 1 rfl) 0 4) (sp (.int .i64 1048576) ?_)))))))))
 refine sw (oq (szPassing_ok _ aP 1048576 (H.get 0 rfl).1 (H.get 1 rfl).1 (H.get 2 rfl).1 qg) H fun w5 H=>?_)
 have:=zS (tot aP) 1048576
 refine sp (.int .i64 (szR (tot aP) 1048576)) (zjcc (sps [.int .i64 (szR (tot aP) 1048576),.bool (decide ((szR (tot aP) 1048576:Int) < 0))] (zjn (cD rfl (fun h7=>?_) (fun h7=>?_)))))
 ·skip
  refine zcr (sp (.bool true) (zjr (t_r (ret1 (.bool true) rfl rfl ⟨_,rfl,?_,H.base⟩))))
  rfl
 ·skip
  refine xf (t_n (zcr (sw (xZ [.slice aaSCells aS.qG.length caSCells,.slice jP aS.qF.length jM] Tryz.isAgg29 Tryz.sizeOf29 rfl (qN (H.cells 0 rfl) 0 2) (sp (.int .i64 (szR (tot aP) 1048576)) (sw (oq (szStock_ok _ aS (szR (tot aP) 1048576) (H.get 3 rfl).1 (H.get 4 rfl).1 qg) H fun w8 H=>?_)))))))
  have:=zS (tot aS) (szR (tot aP) 1048576)
  refine sp (.int .i64 (szR (tot aS) (szR (tot aP) 1048576))) (zjcc (sps [.int .i64 (szR (tot aS) (szR (tot aP) 1048576)),.bool (decide ((szR (tot aS) (szR (tot aP) 1048576):Int) < 0))] (zjn (cD rfl (fun h10=>?_) (fun h10=>?_)))))
  ·skip
   refine zcr (sp (.bool true) (zjr (t_r (ret1 (.bool true) rfl rfl ⟨_,rfl,?_,H.base⟩))))
   rfl
  ·skip
   refine xf (t_n (xP ?_))
   refine vK rfl H fun H=>rt 0 (.agg #[.int .i64 aP.qJ,.slice jo aP.qC.length jk,.slice aaPFree aP.qL.length caPFree,.slice yJ aP.qB.length yG]) (Qc (cs:=[.int .i64 aP.qJ,.slice jo aP.qC.length jk,.slice aaPFree aP.qL.length caPFree,.slice yJ aP.qB.length yG]) Tryz.isAgg26 Tryz.sizeOf26 rfl (fun _ h=>qN (h.cells 1 rfl) 0 4)) H ?_
   refine rt 2 (.agg #[.slice aaSCells aS.qG.length caSCells,.slice jP aS.qF.length jM]) (Qc (cs:=[.slice aaSCells aS.qG.length caSCells,.slice jP aS.qF.length jM]) Tryz.isAgg29 Tryz.sizeOf29 rfl (fun _ h=>qN (h.cells 0 rfl) 0 2)) H ?_
   refine rtp 4 (.int .i64 aMode) H ?_
   refine rtp 5 (.int .i64 zn) H ?_
   refine ro 1 rfl ?_
   have sz12:=H.base.size
   refine oc (toPassing_ok _ aP (H.get 0 rfl).1 (H.get 1 rfl).1 (H.get 2 rfl).1 qh) ?_
   rintro v17 w15 r17 x16
   obtain ⟨a17Parents,c17Parents,jE,a17Free,c17Free,F17Free,a17Rules,c17Rules,yT,rfl,f17,H⟩:=H.add_PassingD x16 r17
   replace N:=N.cons f17 sz12 (by intro F hF;simp at hF)
   replace N:=N.split
   replace N:=N.split
   refine ⟨H.pick [0,1] [3,4,5,6,7],(ro 3 rfl ?_)⟩
   have sz18:=H.base.size
   have lt19:=H.ltN (L:=[jE,F17Free,yT]) [0,1,2]
   refine oc (toStock_ok _ aS (H.get 6 rfl).1 (H.get 7 rfl).1 qh) ?_
   rintro v23 w21 r23 x22
   obtain ⟨a23Cells,c23Cells,F23Cells,a23Around,c23Around,yt,rfl,f23,H⟩:=H.add_StockD x22 r23
   replace N:=N.cons f23 sz18 lt19
   replace N:=N.split
   refine ⟨H.pick [0,1] [5,6,7,8,9],(ro 6 rfl ?_)⟩
   have sz27:=H.base.size
   refine oc (specRes_ok _ aP aS aMode zn (H.get 2 rfl).1 (H.get 3 rfl).1 (H.get 4 rfl).1 (H.get 0 rfl).1 (H.get 1 rfl).1) ?_
   rintro _ w25 ⟨ra24a,rn24a,rc24a,rfl,M,K⟩ _
   replace H:=H.merge K M
   obtain rfl:=H.y9 0 rfl
   refine ⟨H.pick [1,2] [5,6,7,8,9],?_⟩
   have S:=H.zq [1,2] [5,6,7,8,9]
   refine rtp 7 (.tuple #[.slice ra24a (((zk aP aS aMode zn).1).length) rc24a,.int .i64 ((zk aP aS aMode zn).2)]) S ?_
   refine rtp 8 (.slice ra24a (((zk aP aS aMode zn).1).length) rc24a) S ?_
   refine rtp 9 (.int .i64 ((zk aP aS aMode zn).2)) S ?_
   refine rtp 10 (.slice ra24a (((zk aP aS aMode zn).1).length) rc24a) S ?_
   refine rtp 11 (.int .i64 ((zk aP aS aMode zn).2)) S ?_
   refine xI qi (t_n (zcr (sw (xZ [.int .i64 aP.qJ,.slice jo aP.qC.length jk,.slice aaPFree aP.qL.length caPFree,.slice yJ aP.qB.length yG] Tryz.isAgg26 Tryz.sizeOf26 rfl (qN (H.cells 2 rfl) 0 4) ?_))))
   have sz30:=H.base.size
   have lt31:=H.ltN (L:=[F23Cells,yt,jE,F17Free,yT]) [0,1,2,3,4]
   refine sw (oc (toPassing_ok _ aP (H.get 5 rfl).1 (H.get 6 rfl).1 (H.get 7 rfl).1 qh) ?_)
   rintro v35 w33 r35 x34
   obtain ⟨jR,jQ,jw,a35Free,c35Free,F35Free,Qp,Qo,yL,rfl,f35,H⟩:=H.add_PassingD x34 r35
   replace N:=N.cons f35 sz30 lt31
   replace N:=N.split
   replace N:=N.split
   refine sw (ja H ti37 [.int .i64 0,.slice none 0 0,.slice none 0 0,.slice none 0 0] fun b36 w37 H=>sw (jA H 0 [.int .i64 aP.qJ,.slice jR aP.qC.length jQ,.slice a35Free aP.qL.length c35Free,.slice Qp aP.qB.length Qo] Tryz.sizeOf37 fun w38 H=>zjc (sw (xZ [.slice aaSCells aS.qG.length caSCells,.slice jP aS.qF.length jM] Tryz.isAgg29 Tryz.sizeOf29 rfl (qN (H.cells 2 rfl) 0 2) ?_))))
   have sz39:=H.base.size
   have lt40:=H.ltN (L:=[jw,F35Free,yL,F23Cells,yt,jE,F17Free,yT]) [0,1,2,3,4,5,6,7]
   refine sw (oc (toStock_ok _ aS (H.get 11 rfl).1 (H.get 12 rfl).1 qh) ?_)
   rintro v44 w42 r44 x43
   obtain ⟨a44Cells,c44Cells,F44Cells,yK,yH,jV,rfl,f44,H⟩:=H.add_StockD x43 r44
   replace N:=N.cons f44 sz39 lt40
   replace N:=N.split
   refine sw (ja H ti39 [.slice none 0 0,.slice none 0 0] fun b45 w46 H=>sw (jA H 0 [.slice a44Cells aS.qG.length c44Cells,.slice yK aS.qF.length yH] Tryz.sizeOf39 fun w47 H=>zjc (sw (xZ [.int .i64 aP.qJ,.slice jR aP.qC.length jQ,.slice a35Free aP.qL.length c35Free,.slice Qp aP.qB.length Qo] Tryz.isAgg37 Tryz.sizeOf37 rfl (qN (H.cells 1 rfl) 0 4) (sw (xZ [.slice a44Cells aS.qG.length c44Cells,.slice yK aS.qF.length yH] Tryz.isAgg39 Tryz.sizeOf39 rfl (qN (H.cells 0 rfl) 0 2) (sps [.int .i64 aMode,.int .i64 zn] ?_)))))))
   have sz51:=H.base.size
   refine sw (oc (implRes_ok _ aP aS aMode zn (H.get 2 rfl).1 (H.get 3 rfl).1 (H.get 4 rfl).1 (H.get 0 rfl).1 (H.get 1 rfl).1) ?_)
   rintro _ w49 ⟨ra48a,rn48a,rc48a,rfl,M,K⟩ _
   replace H:=H.merge K M
   obtain rfl:=H.y9 0 rfl
   refine sps [.tuple #[.slice ra48a (((zk aP aS aMode zn).1).length) rc48a,.int .i64 ((zk aP aS aMode zn).2)],.slice ra48a (((zk aP aS aMode zn).1).length) rc48a,.int .i64 ((zk aP aS aMode zn).2),.slice ra48a (((zk aP aS aMode zn).1).length) rc48a,.int .i64 ((zk aP aS aMode zn).2)] (zjcc (sps [.slice ra48a (((zk aP aS aMode zn).1).length) rc48a,.slice ra24a (((zk aP aS aMode zn).1).length) rc24a] ?_))
   obtain ⟨G54,hn55,h56⟩:=H.Qa 0 rfl
   obtain ⟨G57,hn58,h59⟩:=H.Qa 3 rfl
   refine sw (oq (Qh _ ((zk aP aS aMode zn).1) ((zk aP aS aMode zn).1) h56 h59) H fun w60 H=>sps [.bool (!(decide (((zk aP aS aMode zn).1)=((zk aP aS aMode zn).1)))),.bool (!(decide (((zk aP aS aMode zn).1)=((zk aP aS aMode zn).1))))] ?_)
   cases h62:(!(decide (((zk aP aS aMode zn).1)=((zk aP aS aMode zn).1))))
   ·skip
    replace h62:=xq h62
    refine qY 57 rfl rfl (sp (.int .i64 ((zk aP aS aMode zn).2)) (qY 57 rfl rfl (sp (.int .i64 ((zk aP aS aMode zn).2)) (qY 57 rfl rfl (sps [.bool (((zk aP aS aMode zn).2:Int) != ((zk aP aS aMode zn).2)),.bool (((zk aP aS aMode zn).2:Int) != ((zk aP aS aMode zn).2))] (zjn (xC (((zk aP aS aMode zn).2:Int) != ((zk aP aS aMode zn).2)) rfl (fun h=>absurd rfl (bne_iff_ne.1 h)) (fun h63=>?_))))))))
    replace h63:=xA h63
    refine xf (t_n (xP (xP ?_)))
    refine vK rfl H fun H=>rt 0 (.agg #[.int .i64 aP.qJ,.slice jR aP.qC.length jQ,.slice a35Free aP.qL.length c35Free,.slice Qp aP.qB.length Qo]) (Qc (cs:=[.int .i64 aP.qJ,.slice jR aP.qC.length jQ,.slice a35Free aP.qL.length c35Free,.slice Qp aP.qB.length Qo]) Tryz.isAgg37 Tryz.sizeOf37 rfl (fun _ h=>qN (h.cells 2 rfl) 0 4)) H ?_
    refine rt 1 (.agg #[.int .i64 aP.qJ,.slice jo aP.qC.length jk,.slice aaPFree aP.qL.length caPFree,.slice yJ aP.qB.length yG]) (Qc (cs:=[.int .i64 aP.qJ,.slice jo aP.qC.length jk,.slice aaPFree aP.qL.length caPFree,.slice yJ aP.qB.length yG]) Tryz.isAgg26 Tryz.sizeOf26 rfl (fun _ h=>qN (h.cells 5 rfl) 0 4)) H ?_
    refine ro 2 rfl ?_
    have sz65:=H.base.size
    have lt66:=H.ltN (L:=[F44Cells,jV,jw,F35Free,yL,F23Cells,yt,jE,F17Free,yT]) [0,1,2,3,4,5,6,7,8,9]
    refine oc (toPassing_ok _ aP (H.get 10 rfl).1 (H.get 11 rfl).1 (H.get 12 rfl).1 qh) ?_
    rintro v70 w68 r70 x69
    obtain ⟨a70Parents,c70Parents,yD,a70Free,c70Free,F70Free,a70Rules,c70Rules,QG,rfl,f70,H⟩:=H.add_PassingD x69 r70
    replace N:=N.cons f70 sz65 lt66
    replace N:=N.split
    replace N:=N.split
    refine ⟨H.pick [0,1,2,3,4,5] [3,4,5,6,7,8,9,10,11,12,13,14,15,16,17],(ro 3 rfl (oq (eqPassing_ok _ aP aP (H.get 5 rfl).1 (H.get 6 rfl).1 (H.get 7 rfl).1 (H.get 0 rfl).1 (H.get 1 rfl).1 (H.get 2 rfl).1) H fun w71 H=>⟨H.pick [0,1,2,3,4,5] [3,4,5,6,7,8,9,10,11,12,13,14,15,16,17],(rtp 4 (.bool (!(decide (aP=aP)))) (H.pick [0,1,2,3,4,5] [3,4,5,6,7,8,9,10,11,12,13,14,15,16,17]) ?_)⟩))⟩
    refine xI qi (t_n (xC (!(decide (aP=aP))) rfl (fun h=>absurd (xB h) qo) (fun h73=>?_)))
    replace h73:=xq h73
    refine xf (t_n (xP (xP ?_)))
    refine vK rfl H fun H=>rt 0 (.agg #[.slice a44Cells aS.qG.length c44Cells,.slice yK aS.qF.length yH]) (Qc (cs:=[.slice a44Cells aS.qG.length c44Cells,.slice yK aS.qF.length yH]) Tryz.isAgg39 Tryz.sizeOf39 rfl (fun _ h=>qN (h.cells 1 rfl) 0 2)) H ?_
    refine rt 1 (.agg #[.slice aaSCells aS.qG.length caSCells,.slice jP aS.qF.length jM]) (Qc (cs:=[.slice aaSCells aS.qG.length caSCells,.slice jP aS.qF.length jM]) Tryz.isAgg29 Tryz.sizeOf29 rfl (fun _ h=>qN (h.cells 4 rfl) 0 2)) H ?_
    refine ro 2 rfl ?_
    have sz75:=H.base.size
    have lt76:=H.ltN (L:=[yD,F70Free,QG,F44Cells,jV,jw,F35Free,yL,F23Cells,yt,jE,F17Free,yT]) [0,1,2,3,4,5,6,7,8,9,10,11,12]
    refine oc (toStock_ok _ aS (H.get 16 rfl).1 (H.get 17 rfl).1 qh) ?_
    rintro v80 w78 r80 x79
    obtain ⟨a80Cells,c80Cells,F80Cells,a80Around,c80Around,Qu,rfl,f80,H⟩:=H.add_StockD x79 r80
    replace N:=N.cons f80 sz75 lt76
    replace N:=N.split
    refine ⟨H.pick [0,1,2,3,4,5] [2,3,4,5,6,7,8,9,10,11,12,13,14,15,16,17,18,19],(ro 3 rfl (oq (eqStock_ok _ aS aS (H.get 5 rfl).1 (H.get 6 rfl).1 (H.get 0 rfl).1 (H.get 1 rfl).1) H fun w81 H=>⟨H.pick [0,1,2,3,4,5] [2,3,4,5,6,7,8,9,10,11,12,13,14,15,16,17,18,19],(rtp 4 (.bool (!(decide (aS=aS)))) (H.pick [0,1,2,3,4,5] [2,3,4,5,6,7,8,9,10,11,12,13,14,15,16,17,18,19]) ?_)⟩))⟩
    refine xI qi (t_n (xC (!(decide (aS=aS))) rfl (fun h=>absurd (xB h) qo) (fun h83=>?_)))
    replace h83:=xq h83
    refine xf (t_n (zcr (sp (.int .i64 1) (zjc (sw (xZ [.int .i64 aP.qJ,.slice jR aP.qC.length jQ,.slice a35Free aP.qL.length c35Free,.slice Qp aP.qB.length Qo] Tryz.isAgg37 Tryz.sizeOf37 rfl (qN (H.cells 2 rfl) 0 4) (sp (.int .i64 1) ?_)))))))
    have N84:Fresh w.heap.size [jw,F35Free,yL,F80Cells,Qu,yD,F70Free,QG,F44Cells,jV,F23Cells,yt,jE,F17Free,yT]:=(N.pick [7,8,9,0,1,2,3,4,5,6,10,11,12,13,14])
    refine sw (o_callM #[.agg #[.int .i64 aP.qJ,.slice jR aP.qC.length jQ,.slice a35Free aP.qL.length c35Free,.slice Qp aP.qB.length Qo],.int .i64 1] rfl rfl Tryz.call16 (markPassing_ok w81 aP 1 jR jQ jw a35Free c35Free F35Free Qp Qo yL (H.get 7 rfl).1 (H.get 8 rfl).1 (H.get 9 rfl).1 (N84.pick [0,1,2]:Fresh _ [jw,F35Free,yL]).join.join.one.2 ((((H.get 7 rfl).2 rfl).app ((H.get 8 rfl).2 rfl)).app ((H.get 9 rfl).2 rfl)) qg qg) ?_)
    rintro _ w85 ⟨rfl,m87⟩ x86
    replace H:St _ _ [rr ra48a (((zk aP aS aMode zn).1).length) rc48a 2 1 (((zk aP aS aMode zn).1).map (Value.int .i64)),.box b45 [.slice a44Cells aS.qG.length c44Cells,.slice yK aS.qF.length yH] 39,.box b36 [.int .i64 aP.qJ,.slice jR aP.qC.length jQ,.slice a35Free aP.qL.length c35Free,.slice Qp aP.qB.length Qo] 37,rr ra24a (((zk aP aS aMode zn).1).length) rc24a 2 1 (((zk aP aS aMode zn).1).map (Value.int .i64)),.box b3 [.slice aaSCells aS.qG.length caSCells,.slice jP aS.qF.length jM] 29,.box b1 [.int .i64 aP.qJ,.slice jo aP.qC.length jk,.slice aaPFree aP.qL.length caPFree,.slice yJ aP.qB.length yG] 26] [isF true jw (.slice jR aP.qC.length jQ) (mrk aP.qC (1)),isF true F35Free (.slice a35Free aP.qL.length c35Free) (mrk aP.qL (1+(cnt aP.qC:Nat))),isF true yL (.slice Qp aP.qB.length Qo) (mrk aP.qB (1+(cnt aP.qC:Nat)+(cnt aP.qL:Nat))),sF true F80Cells a80Cells c80Cells aS.qG,sF true Qu a80Around c80Around aS.qF,sF true yD a70Parents c70Parents aP.qC,sF true F70Free a70Free c70Free aP.qL,sF true QG a70Rules c70Rules aP.qB,sF true F44Cells a44Cells c44Cells aS.qG,sF true jV yK yH aS.qF,sF true F23Cells a23Cells c23Cells aS.qG,sF true yt a23Around c23Around aS.qF,sF true jE a17Parents c17Parents aP.qC,sF true F17Free a17Free c17Free aP.qL,sF true yT a17Rules c17Rules aP.qB,sF false QL jo jk aP.qC,sF false FaPFree aaPFree caPFree aP.qL,sF false FaPRules yJ yG aP.qB,sF false FaSCells aaSCells caSCells aS.qG,sF false FaSAround jP jM aS.qF]:=H.chgFacts (Fs:=[jw,F35Free,yL]) (L:=[F80Cells,Qu,yD,F70Free,QG,F44Cells,jV,F23Cells,yt,jE,F17Free,yT]) (A:=[QL,FaPFree,FaPRules,FaSCells,FaSAround]) N84 A (x86.mono (by intro z hz;simpa using hz)) [7,8,9] [isF true jw (.slice jR aP.qC.length jQ) (mrk aP.qC (1)),isF true F35Free (.slice a35Free aP.qL.length c35Free) (mrk aP.qL (1+(cnt aP.qC:Nat))),isF true yL (.slice Qp aP.qB.length Qo) (mrk aP.qB (1+(cnt aP.qC:Nat)+(cnt aP.qL:Nat)))] (all_of ⟨m87.1,⟨m87.2.1,⟨m87.2.2,trivial⟩⟩⟩) [0,1,2,3,4,5,6,10,11,12,13,14,15,16,17,18,19] [0,1,2,3,4,5,6,7,8,9,10,11,12,13,14,15,16]
    replace N:=N84
    refine sp (.int .i64 (1+(cnt aP.qC:Nat)+(cnt aP.qL:Nat)+(cnt aP.qB:Nat))) (zjc (sw (xZ [.slice a44Cells aS.qG.length c44Cells,.slice yK aS.qF.length yH] Tryz.isAgg39 Tryz.sizeOf39 rfl (qN (H.cells 1 rfl) 0 2) (sp (.int .i64 (1+(cnt aP.qC:Nat)+(cnt aP.qL:Nat)+(cnt aP.qB:Nat))) ?_))))
    have N88:Fresh w.heap.size [F44Cells,jV,jw,F35Free,yL,F80Cells,Qu,yD,F70Free,QG,F23Cells,yt,jE,F17Free,yT]:=(N.pick [8,9,0,1,2,3,4,5,6,7,10,11,12,13,14])
    refine sw (o_callM #[.agg #[.slice a44Cells aS.qG.length c44Cells,.slice yK aS.qF.length yH],.int .i64 (1+(cnt aP.qC:Nat)+(cnt aP.qL:Nat)+(cnt aP.qB:Nat))] rfl rfl Tryz.call17 (markStock_ok w85 aS (1+(cnt aP.qC:Nat)+(cnt aP.qL:Nat)+(cnt aP.qB:Nat)) a44Cells c44Cells F44Cells yK yH jV (H.get 8 rfl).1 (H.get 9 rfl).1 (N88.pick [0,1]:Fresh _ [F44Cells,jV]).join.one.2 (((H.get 8 rfl).2 rfl).app ((H.get 9 rfl).2 rfl)) qg qg) ?_)
    rintro _ w89 ⟨rfl,m91⟩ x90
    replace H:St _ _ [rr ra48a (((zk aP aS aMode zn).1).length) rc48a 2 1 (((zk aP aS aMode zn).1).map (Value.int .i64)),.box b45 [.slice a44Cells aS.qG.length c44Cells,.slice yK aS.qF.length yH] 39,.box b36 [.int .i64 aP.qJ,.slice jR aP.qC.length jQ,.slice a35Free aP.qL.length c35Free,.slice Qp aP.qB.length Qo] 37,rr ra24a (((zk aP aS aMode zn).1).length) rc24a 2 1 (((zk aP aS aMode zn).1).map (Value.int .i64)),.box b3 [.slice aaSCells aS.qG.length caSCells,.slice jP aS.qF.length jM] 29,.box b1 [.int .i64 aP.qJ,.slice jo aP.qC.length jk,.slice aaPFree aP.qL.length caPFree,.slice yJ aP.qB.length yG] 26] [isF true F44Cells (.slice a44Cells aS.qG.length c44Cells) (mrk aS.qG (1+(cnt aP.qC:Nat)+(cnt aP.qL:Nat)+(cnt aP.qB:Nat))),isF true jV (.slice yK aS.qF.length yH) (mrk aS.qF (1+(cnt aP.qC:Nat)+(cnt aP.qL:Nat)+(cnt aP.qB:Nat)+(cnt aS.qG:Nat))),isF true jw (.slice jR aP.qC.length jQ) (mrk aP.qC (1)),isF true F35Free (.slice a35Free aP.qL.length c35Free) (mrk aP.qL (1+(cnt aP.qC:Nat))),isF true yL (.slice Qp aP.qB.length Qo) (mrk aP.qB (1+(cnt aP.qC:Nat)+(cnt aP.qL:Nat))),sF true F80Cells a80Cells c80Cells aS.qG,sF true Qu a80Around c80Around aS.qF,sF true yD a70Parents c70Parents aP.qC,sF true F70Free a70Free c70Free aP.qL,sF true QG a70Rules c70Rules aP.qB,sF true F23Cells a23Cells c23Cells aS.qG,sF true yt a23Around c23Around aS.qF,sF true jE a17Parents c17Parents aP.qC,sF true F17Free a17Free c17Free aP.qL,sF true yT a17Rules c17Rules aP.qB,sF false QL jo jk aP.qC,sF false FaPFree aaPFree caPFree aP.qL,sF false FaPRules yJ yG aP.qB,sF false FaSCells aaSCells caSCells aS.qG,sF false FaSAround jP jM aS.qF]:=H.chgFacts (Fs:=[F44Cells,jV]) (L:=[jw,F35Free,yL,F80Cells,Qu,yD,F70Free,QG,F23Cells,yt,jE,F17Free,yT]) (A:=[QL,FaPFree,FaPRules,FaSCells,FaSAround]) N88 A (x90.mono (by intro z hz;simpa using hz)) [8,9] [isF true F44Cells (.slice a44Cells aS.qG.length c44Cells) (mrk aS.qG (1+(cnt aP.qC:Nat)+(cnt aP.qL:Nat)+(cnt aP.qB:Nat))),isF true jV (.slice yK aS.qF.length yH) (mrk aS.qF (1+(cnt aP.qC:Nat)+(cnt aP.qL:Nat)+(cnt aP.qB:Nat)+(cnt aS.qG:Nat)))] (all_of ⟨m91.1,⟨m91.2,trivial⟩⟩) [0,1,2,3,4,5,6,7,10,11,12,13,14,15,16,17,18,19] [0,1,2,3,4,5,6,7,8,9,10,11,12,13,14,15,16,17]
    replace N:=N88
    refine sp (.int .i64 (1+(cnt aP.qC:Nat)+(cnt aP.qL:Nat)+(cnt aP.qB:Nat)+(cnt aS.qG:Nat)+(cnt aS.qF:Nat))) (zjcc (sps [.int .i64 (1+(cnt aP.qC:Nat)+(cnt aP.qL:Nat)+(cnt aP.qB:Nat)+(cnt aS.qG:Nat)+(cnt aS.qF:Nat)),.bool (decide ((1+(cnt aP.qC:Nat)+(cnt aP.qL:Nat)+(cnt aP.qB:Nat)+(cnt aS.qG:Nat)+(cnt aS.qF:Nat):Int) < 0)),.bool (decide ((1+(cnt aP.qC:Nat)+(cnt aP.qL:Nat)+(cnt aP.qB:Nat)+(cnt aS.qG:Nat)+(cnt aS.qF:Nat):Int) < 0))] ?_))
    cases h92:(decide ((1+(cnt aP.qC:Nat)+(cnt aP.qL:Nat)+(cnt aP.qB:Nat)+(cnt aS.qG:Nat)+(cnt aS.qF:Nat):Int) < 0))
    ·skip
     replace h92:=of_decide_eq_false h92
     refine qY 80 rfl rfl (sp (.slice ra48a (((zk aP aS aMode zn).1).length) rc48a) (qY 80 rfl rfl (sp (.slice ra24a (((zk aP aS aMode zn).1).length) rc24a) (qY 80 rfl rfl ?_))))
     obtain ⟨G93,hn94,h95⟩:=H.Qa 0 rfl
     obtain ⟨G96,hn97,h98⟩:=H.Qa 3 rfl
     refine sw (oq (Qh _ ((zk aP aS aMode zn).1) ((zk aP aS aMode zn).1) h95 h98) H fun w99 H=>qY 80 rfl rfl (sps [.bool (!(decide (((zk aP aS aMode zn).1)=((zk aP aS aMode zn).1)))),.bool (!(decide (((zk aP aS aMode zn).1)=((zk aP aS aMode zn).1)))),.bool (!(decide (((zk aP aS aMode zn).1)=((zk aP aS aMode zn).1))))] ?_))
     cases h101:(!(decide (((zk aP aS aMode zn).1)=((zk aP aS aMode zn).1))))
     ·skip
      replace h101:=xq h101
      refine qY 86 rfl rfl (sp (.int .i64 ((zk aP aS aMode zn).2)) (qY 86 rfl rfl (sp (.int .i64 ((zk aP aS aMode zn).2)) (qY 86 rfl rfl (sps [.bool (((zk aP aS aMode zn).2:Int) != ((zk aP aS aMode zn).2)),.bool (((zk aP aS aMode zn).2:Int) != ((zk aP aS aMode zn).2))] (zjn (xC (((zk aP aS aMode zn).2:Int) != ((zk aP aS aMode zn).2)) rfl (fun h=>absurd rfl (bne_iff_ne.1 h)) (fun h102=>?_))))))))
      replace h102:=xA h102
      refine xf (t_n (zcr (sp (.int .i64 1) (zjc (sps [.slice ra48a (((zk aP aS aMode zn).1).length) rc48a,.int .i64 1] ?_)))))
      obtain ⟨G103,N,hn104,H⟩:=H.vw 0 rfl N (H.jL [0,1,2,3,4,5,6,7,8,9,10,11,12,13,14])
      have N105:Fresh w.heap.size [G103,F44Cells,jV,jw,F35Free,yL,F80Cells,Qu,yD,F70Free,QG,F23Cells,yt,jE,F17Free,yT]:=N
      refine sw (o_callM #[.slice ra48a (((zk aP aS aMode zn).1).length) rc48a,.int .i64 1] rfl rfl Tryz.call25 (Qx w99 ((zk aP aS aMode zn).1) 1 ra48a rc48a G103 (H.get 0 rfl).1 (N105.pick [0]:Fresh _ [G103]).one.2 ((H.get 0 rfl).2 rfl) qg qg) ?_)
      rintro _ w106 ⟨rfl,m108⟩ x107
      replace H:St _ _ [rr none 0 0 0 1 [],.box b45 [.slice a44Cells aS.qG.length c44Cells,.slice yK aS.qF.length yH] 39,.box b36 [.int .i64 aP.qJ,.slice jR aP.qC.length jQ,.slice a35Free aP.qL.length c35Free,.slice Qp aP.qB.length Qo] 37,rr ra24a (((zk aP aS aMode zn).1).length) rc24a 2 1 (((zk aP aS aMode zn).1).map (Value.int .i64)),.box b3 [.slice aaSCells aS.qG.length caSCells,.slice jP aS.qF.length jM] 29,.box b1 [.int .i64 aP.qJ,.slice jo aP.qC.length jk,.slice aaPFree aP.qL.length caPFree,.slice yJ aP.qB.length yG] 26] [isF true G103 (.slice ra48a (((zk aP aS aMode zn).1).length) rc48a) (mrk ((zk aP aS aMode zn).1) (1)),isF true F44Cells (.slice a44Cells aS.qG.length c44Cells) (mrk aS.qG (1+(cnt aP.qC:Nat)+(cnt aP.qL:Nat)+(cnt aP.qB:Nat))),isF true jV (.slice yK aS.qF.length yH) (mrk aS.qF (1+(cnt aP.qC:Nat)+(cnt aP.qL:Nat)+(cnt aP.qB:Nat)+(cnt aS.qG:Nat))),isF true jw (.slice jR aP.qC.length jQ) (mrk aP.qC (1)),isF true F35Free (.slice a35Free aP.qL.length c35Free) (mrk aP.qL (1+(cnt aP.qC:Nat))),isF true yL (.slice Qp aP.qB.length Qo) (mrk aP.qB (1+(cnt aP.qC:Nat)+(cnt aP.qL:Nat))),sF true F80Cells a80Cells c80Cells aS.qG,sF true Qu a80Around c80Around aS.qF,sF true yD a70Parents c70Parents aP.qC,sF true F70Free a70Free c70Free aP.qL,sF true QG a70Rules c70Rules aP.qB,sF true F23Cells a23Cells c23Cells aS.qG,sF true yt a23Around c23Around aS.qF,sF true jE a17Parents c17Parents aP.qC,sF true F17Free a17Free c17Free aP.qL,sF true yT a17Rules c17Rules aP.qB,sF false QL jo jk aP.qC,sF false FaPFree aaPFree caPFree aP.qL,sF false FaPRules yJ yG aP.qB,sF false FaSCells aaSCells caSCells aS.qG,sF false FaSAround jP jM aS.qF]:=H.chgFacts (Fs:=[G103]) (L:=[F44Cells,jV,jw,F35Free,yL,F80Cells,Qu,yD,F70Free,QG,F23Cells,yt,jE,F17Free,yT]) (A:=[QL,FaPFree,FaPRules,FaSCells,FaSAround]) N105 A (x107.mono (by intro z hz;simpa using hz)) [0] [isF true G103 (.slice ra48a (((zk aP aS aMode zn).1).length) rc48a) (mrk ((zk aP aS aMode zn).1) (1))] (all_of ⟨m108,trivial⟩) [1,2,3,4,5,6,7,8,9,10,11,12,13,14,15,16,17,18,19,20] [0,1,2,3,4,5,6,7,8,9,10,11,12,13,14,15,16,17,18,19]
      replace N:=N105
      refine sp (.int .i64 (1+(cnt ((zk aP aS aMode zn).1):Nat))) (zjc (sp (.int .i64 1) (zjc (sps [.slice ra48a (((zk aP aS aMode zn).1).length) rc48a,.int .i64 1] ?_))))
      have hn109:=H.isLen 0 rfl
      refine sw (oq (args_eq (by rw [← hn109]) (heldInt64S_ok _ (mrk ((zk aP aS aMode zn).1) (1)) 1 (hn109▸(H.get 0 rfl).1) (by first | exact mkd_mark _ _ | omega | (simp only [cnt_mark];first | exact mkd_mark _ _ | omega)) (by first | exact mkd_mark _ _ | omega | (simp only [cnt_mark];first | exact mkd_mark _ _ | omega)) (by first | exact mkd_mark _ _ | omega | (simp only [cnt_mark];first | exact mkd_mark _ _ | omega)))) H fun w110 H=>sp (.int .i64 (1+(cnt (mrk ((zk aP aS aMode zn).1) (1)):Nat))) (zjcc ?_))
      refine sps [.int .i64 (1+(cnt (mrk ((zk aP aS aMode zn).1) (1)):Nat)),.bool (decide ((1+(cnt (mrk ((zk aP aS aMode zn).1) (1)):Nat):Int) < 0))] (zjn (cD rfl (fun h112=>?_) (fun h112=>?_)))
      ·skip
       refine zcr (sp (.bool false) (zjr (t_r (ret1 (.bool false) rfl rfl ⟨_,rfl,?_,H.base⟩))))
       exfalso;first | omega | contradiction
      ·skip
       refine xf (t_n (zcc (sps [.int .i64 (1+(cnt (mrk ((zk aP aS aMode zn).1) (1)):Nat)),.int .i64 (1+(cnt ((zk aP aS aMode zn).1):Nat)),.bool ((1+(cnt (mrk ((zk aP aS aMode zn).1) (1)):Nat):Int) != (1+(cnt ((zk aP aS aMode zn).1):Nat)))] (zjn (xC ((1+(cnt (mrk ((zk aP aS aMode zn).1) (1)):Nat):Int) != (1+(cnt ((zk aP aS aMode zn).1):Nat))) rfl (fun h113=>?_) (fun h113=>?_))))))
       ·skip
        replace h113:=bne_iff_ne.1 h113
        refine zcr (sp (.bool false) (zjr (t_r (ret1 (.bool false) rfl rfl ⟨_,rfl,?_,H.base⟩))))
        exfalso;first | omega | contradiction | exact h113 (by simp only [cnt_mark])
       ·skip
        replace h113:=xA h113
        refine xf (t_n (xP ?_))
        refine vK rfl H fun H=>rt 0 (.agg #[.int .i64 aP.qJ,.slice jo aP.qC.length jk,.slice aaPFree aP.qL.length caPFree,.slice yJ aP.qB.length yG]) (Qc (cs:=[.int .i64 aP.qJ,.slice jo aP.qC.length jk,.slice aaPFree aP.qL.length caPFree,.slice yJ aP.qB.length yG]) Tryz.isAgg26 Tryz.sizeOf26 rfl (fun _ h=>qN (h.cells 5 rfl) 0 4)) H ?_
        refine rt 2 (.agg #[.slice aaSCells aS.qG.length caSCells,.slice jP aS.qF.length jM]) (Qc (cs:=[.slice aaSCells aS.qG.length caSCells,.slice jP aS.qF.length jM]) Tryz.isAgg29 Tryz.sizeOf29 rfl (fun _ h=>qN (h.cells 4 rfl) 0 2)) H ?_
        refine rtp 4 (.int .i64 aMode) H ?_
        refine rtp 5 (.int .i64 zn) H ?_
        refine ro 1 rfl ?_
        have sz115:=H.base.size
        have lt116:=H.ltN (L:=[G103,F44Cells,jV,jw,F35Free,yL,F80Cells,Qu,yD,F70Free,QG,F23Cells,yt,jE,F17Free,yT]) [0,1,2,3,4,5,6,7,8,9,10,11,12,13,14,15]
        refine oc (toPassing_ok _ aP (H.get 16 rfl).1 (H.get 17 rfl).1 (H.get 18 rfl).1 qh) ?_
        rintro v120 w118 r120 x119
        obtain ⟨a120Parents,c120Parents,F120Parents,a120Free,c120Free,F120Free,a120Rules,c120Rules,F120Rules,rfl,f120,H⟩:=H.add_PassingD x119 r120
        replace N:=N.cons f120 sz115 lt116
        replace N:=N.split
        replace N:=N.split
        refine ⟨H.pick [0,1,2,3,4,5] [3,4,5,6,7,8,9,10,11,12,13,14,15,16,17,18,19,20,21,22,23],(ro 3 rfl ?_)⟩
        have sz121:=H.base.size
        have lt122:=H.ltN (L:=[F120Parents,F120Free,F120Rules,G103,F44Cells,jV,jw,F35Free,yL,F80Cells,Qu,yD,F70Free,QG,F23Cells,yt,jE,F17Free,yT]) [0,1,2,3,4,5,6,7,8,9,10,11,12,13,14,15,16,17,18]
        refine oc (toStock_ok _ aS (H.get 22 rfl).1 (H.get 23 rfl).1 qh) ?_
        rintro v126 w124 r126 x125
        obtain ⟨a126Cells,c126Cells,F126Cells,a126Around,c126Around,F126Around,rfl,f126,H⟩:=H.add_StockD x125 r126
        replace N:=N.cons f126 sz121 lt122
        replace N:=N.split
        refine ⟨H.pick [0,1,2,3,4,5] [5,6,7,8,9,10,11,12,13,14,15,16,17,18,19,20,21,22,23,24,25],(ro 6 rfl ?_)⟩
        have sz130:=H.base.size
        refine oc (implRes_ok _ aP aS aMode zn (H.get 2 rfl).1 (H.get 3 rfl).1 (H.get 4 rfl).1 (H.get 0 rfl).1 (H.get 1 rfl).1) ?_
        rintro _ w128 ⟨ra127a,rn127a,rc127a,rfl,M,K⟩ _
        replace H:=H.merge K M
        obtain rfl:=H.y9 0 rfl
        refine ⟨H.pick [1,2,3,4,5,6] [5,6,7,8,9,10,11,12,13,14,15,16,17,18,19,20,21,22,23,24,25],?_⟩
        have S:=H.zq [1,2,3,4,5,6] [5,6,7,8,9,10,11,12,13,14,15,16,17,18,19,20,21,22,23,24,25]
        refine rtp 7 (.tuple #[.slice ra127a (((zk aP aS aMode zn).1).length) rc127a,.int .i64 ((zk aP aS aMode zn).2)]) S ?_
        refine rtp 8 (.slice ra127a (((zk aP aS aMode zn).1).length) rc127a) S ?_
        refine rtp 9 (.int .i64 ((zk aP aS aMode zn).2)) S ?_
        refine rtp 10 (.slice ra127a (((zk aP aS aMode zn).1).length) rc127a) S ?_
        refine rtp 11 (.int .i64 ((zk aP aS aMode zn).2)) S ?_
        refine xI qi (t_n (zcc (sps [.slice ra127a (((zk aP aS aMode zn).1).length) rc127a,.slice ra24a (((zk aP aS aMode zn).1).length) rc24a] ?_)))
        obtain ⟨G133,hn134,h135⟩:=H.Qa 0 rfl
        obtain ⟨G136,hn137,h138⟩:=H.Qa 4 rfl
        refine sw (oq (Qh _ ((zk aP aS aMode zn).1) ((zk aP aS aMode zn).1) h135 h138) H fun w139 H=>sps [.bool (!(decide (((zk aP aS aMode zn).1)=((zk aP aS aMode zn).1)))),.bool (!(decide (((zk aP aS aMode zn).1)=((zk aP aS aMode zn).1))))] ?_)
        cases h141:(!(decide (((zk aP aS aMode zn).1)=((zk aP aS aMode zn).1))))
        ·skip
         replace h141:=xq h141
         refine qY 116 rfl rfl (sp (.int .i64 ((zk aP aS aMode zn).2)) (qY 116 rfl rfl (sp (.int .i64 ((zk aP aS aMode zn).2)) (qY 116 rfl rfl (sps [.bool (((zk aP aS aMode zn).2:Int) != ((zk aP aS aMode zn).2)),.bool (((zk aP aS aMode zn).2:Int) != ((zk aP aS aMode zn).2))] (zjn (xC (((zk aP aS aMode zn).2:Int) != ((zk aP aS aMode zn).2)) rfl (fun h=>absurd rfl (bne_iff_ne.1 h)) (fun h142=>?_))))))))
         replace h142:=xA h142
         refine xf (t_n (zcr (sp (.int .i64 1) (zjc (sps [.slice ra48a (((zk aP aS aMode zn).1).length) rc48a,.int .i64 1] ?_)))))
         have hn143:=H.isLen 5 rfl
         refine sw (oq (args_eq (by rw [← hn143]) (heldInt64S_ok _ (mrk ((zk aP aS aMode zn).1) (1)) 1 (hn143▸(H.get 5 rfl).1) (by first | exact mkd_mark _ _ | omega | (simp only [cnt_mark];first | exact mkd_mark _ _ | omega)) (by first | exact mkd_mark _ _ | omega | (simp only [cnt_mark];first | exact mkd_mark _ _ | omega)) (by first | exact mkd_mark _ _ | omega | (simp only [cnt_mark];first | exact mkd_mark _ _ | omega)))) H fun w144 H=>sp (.int .i64 (1+(cnt (mrk ((zk aP aS aMode zn).1) (1)):Nat))) (zjcc ?_))
         refine sps [.int .i64 (1+(cnt (mrk ((zk aP aS aMode zn).1) (1)):Nat)),.bool (decide ((1+(cnt (mrk ((zk aP aS aMode zn).1) (1)):Nat):Int) < 0))] (zjn (cD rfl (fun h146=>?_) (fun h146=>?_)))
         ·skip
          refine zcr (sp (.bool false) (zjr (t_r (ret1 (.bool false) rfl rfl ⟨_,rfl,?_,H.base⟩))))
          exfalso;first | omega | contradiction
         ·skip
          refine xf (t_n (zcc (sps [.int .i64 (1+(cnt (mrk ((zk aP aS aMode zn).1) (1)):Nat)),.int .i64 (1+(cnt ((zk aP aS aMode zn).1):Nat)),.bool ((1+(cnt (mrk ((zk aP aS aMode zn).1) (1)):Nat):Int) != (1+(cnt ((zk aP aS aMode zn).1):Nat)))] (zjn (xC ((1+(cnt (mrk ((zk aP aS aMode zn).1) (1)):Nat):Int) != (1+(cnt ((zk aP aS aMode zn).1):Nat))) rfl (fun h=>absurd h113 (bne_iff_ne.1 h)) (fun h147=>?_))))))
          replace h147:=xA h147
          refine xf (t_n (zcr (sp (.bool true) (zjr (ret1 (.bool true) rfl rfl ⟨_,rfl,?_,H.base⟩)))))
          rfl
        · exact absurd (xB h141) qo
     · exact absurd (xB h101) qo
    ·skip
     replace h92:=of_decide_eq_true h92
     refine zG [81,82,83,84] (sps [.bool true,.bool true] (zG [87,88,89] (sp (.bool true) (zjn (xC true rfl (fun _=>zcr (sp (.bool false) (zjr (t_r (ret1 (.bool false) rfl rfl ⟨_,rfl,?_,H.base⟩))))) (fun h=>absurd h qj))))))
     exfalso;first | omega | contradiction
   · exact absurd (xB h62) qo
end
section
open Go.ChangeShapes Go.WideShapes Go.ChangeAt Go.RowKit Go.Joins
set_option linter.unusedVariables false
set_option linter.unusedSimpArgs false
def Reads (P:Program) (t:TypeId) (α:Type) [qV α]:Prop:=
  ∀ {H:Type} {enc:TypeId×Value→H} {w:World} {spare:Nat→Bool} {held:Bool} {fuel:Nat} {cs:List Value} {x:DataW H×List MemPlace},
    DataW.trod enc P w 0 spare held fuel t cs=some x→∃ F,∃ y:α,qV.rep w F cs y

theorem reads_int {P:Program} {t:TypeId} (hu:P.underlying t=some (.int .i64)):Reads P t Int:=fun h=>by
  obtain ⟨n,rfl,_⟩:=DataW.trod_int hu h
  exact ⟨[],n,rfl,rfl⟩
theorem reads_bool {P:Program} {t:TypeId} (hu:P.underlying t=some .bool):Reads P t Bool:=fun h=>by
  obtain ⟨b,rfl,_⟩:=DataW.trod_bool hu h
  exact ⟨[],b,rfl,rfl⟩

theorem cell_spot {w:World} {a:Addr} {v:Value} (h:w.cell? a=some v):a.spot=none:=by
  unfold World.cell? at h
  split at h
  · split at h
    · cases h
    · rename_i hs;simpa using hs
  · cases h

theorem Qq {α:Type} [qV α] {P:Program} {t e:TypeId} (hu:P.underlying t=some (.slice e)) (hc:P.cellsOf e=qV.size α) (hz:0 < qV.size α) (he:Reads P e α):Reads P t (List α):=by
  intro H enc w spare held fuel cs x h
  rcases DataW.trod_slice hu h with ⟨rfl,_⟩ | ⟨a,len,cap,elems,rest,n,_,rfl,_,_,hlc,hcm,hel,hget,_⟩
  · exact ⟨[],[],none,0,rfl,by simp,Or.inl ⟨rfl,rfl⟩⟩
  · have hm:cap≤9223372036854775807:=by unfold maxLen at hcm;omega
    rcases Nat.eq_zero_or_pos len with h0 | h0
    · subst h0
      exact ⟨[],[],some a,cap,rfl,by simp,Or.inl ⟨rfl,rfl⟩⟩
    · have hone:∀ i,i < len→∃ ci Fi,∃ y:α,w.cells? 0 (a.add (i * qV.size α)) (qV.size α)=some ci∧qV.rep w Fi ci y:=by
        intro i hi
        have hg:=hget i hi
        rw [hc] at hg
        have hs:elems[i]? =some (elems[i]'(by omega)):=List.getElem?_eq_getElem qg
        rw [hs] at hg
        obtain ⟨ci,h1,h2⟩:=Option.bind_eq_some_iff.1 hg
        obtain ⟨Fi,y,hr⟩:=he h2
        exact ⟨ci,Fi,y,h1,hr⟩
      have hsp:a.spot=none:=by
        obtain ⟨ci,Fi,y,h1,_⟩:=hone 0 h0
        obtain ⟨_,hl,hcell⟩:=World.cells?_some h1
        have:=hcell 0 hz
        rw [List.getElem?_eq_getElem (show 0 < ci.length by omega)] at this
        have:=cell_spot this
        simpa [Addr.add] using this
      obtain ⟨b,off,sp⟩:=a
      simp only at hsp
      subst hsp
      have hadd:∀ i j:Nat,((⟨b,off,none⟩:Addr).add (i * qV.size α)).add j=⟨b,off+i * qV.size α+j,none⟩:=fun i j=>by simp [Addr.add_mid]
      have hall:∀ m,m≤len→∃ F vs,∃ l:List α,l.length=m∧reps w F vs l∧zM w b off vs:=by
        intro m
        induction m with
        | zero=>exact fun _=>⟨[],[],[],rfl,⟨rfl,rfl⟩,fun i v hv=>by simp at hv⟩
        | succ m ih=>
          intro hm'
          obtain ⟨F,vs,l,hl,hr,hcl⟩:=ih qg
          obtain ⟨ci,Fi,y,h1,h2⟩:=hone m qg
          obtain ⟨_,hcl2,hcell⟩:=World.cells?_some h1
          refine ⟨F++Fi,vs++ci,l++[y],by simp [hl],yO hr (reps_one h2),fun i v hv=>?_⟩
          have hvl:=reps_len hr
          rw [hl] at hvl
          rcases Nat.lt_or_ge i vs.length with hi | hi
          · rw [List.getElem?_append_left hi] at hv
            exact hcl i v hv
          · rw [List.getElem?_append_right hi] at hv
            have hi2:i - vs.length < ci.length:=by
              rcases Nat.lt_or_ge (i - vs.length) ci.length with h | h
              · exact h
              · simp [h] at hv
            have:=hcell (i - vs.length) qg
            rw [hadd,hv] at this
            rw [← this]
            congr 1
            rw [show off+i=off+m * qV.size α+(i - vs.length) by omega]
      obtain ⟨F,vs,l,hl,hr,hcl⟩:=hall len (Nat.le_refl _)
      have hb:b < w.heap.size:=by
        have h1:0 < vs.length:=by rw [reps_len hr,hl];exact Nat.mul_pos h0 hz
        exact World.block_lt_of_cell? w _ (hcl 0 _ (List.getElem?_eq_getElem h1))
      subst hl
      exact ⟨b :: F,l,some ⟨b,off,none⟩,cap,rfl,⟨by omega,hlc⟩,Or.inr ⟨b,off,F,vs,rfl,rfl,hb,hr,hcl⟩⟩

theorem yP {n:Nat} {cs:List Value} (h:cs.length=n+1):∃ c cs',cs=c :: cs' ∧cs'.length=n:=by
  cases cs with
  | nil=>simp at h
  | cons c cs=>exact ⟨c,cs,rfl,by simpa using h⟩
theorem Qe {P:Program} {H:Type} {enc:TypeId×Value→H} {w:World} {spare:Nat→Bool} {held:Bool} {fuel:Nat} {t:TypeId} {fs:Array Field} {cs:List Value} {x:DataW H×List MemPlace} (hu:P.underlying t=some (.struct fs))
    (h:DataW.trod enc P w 0 spare held fuel t cs=some x) (i off:Nat) {f:Field} (hf:fs[i]? =some f) (ho:f.offset=off) {α:Type} [qV α] (hr:Reads P f.type α) (h1:qV.size α=1) (hc:P.cellsOf f.type=1):
    ∃ F,∃ y:α,∃ v,cs[off]? =some v∧qV.rep w F [v] y:=by
  obtain ⟨xs,n,_,_,hl,hxl,hall⟩:=DataW.trod_struct hu h
  have hi:i < xs.length:=by
    rw [hxl]
    exact (Array.getElem?_eq_some_iff.1 hf).1
  have hg:=hall i f hf
  rw [List.getElem?_eq_getElem hi,hc,ho] at hg
  obtain ⟨F,y,hy⟩:=hr hg
  have hlen:=qV.len hy
  rw [h1] at hlen
  obtain ⟨v,cs',e,hl'⟩:=yP hlen
  obtain rfl:=List.eq_nil_of_length_eq_zero hl'
  rw [e] at hy
  refine ⟨F,y,v,?_,hy⟩
  have:(List.take 1 (List.drop off cs))[0]? =some v:=by rw [e];rfl
  simpa using this
theorem arg_int {P:Program} {H:Type} {enc:TypeId×Value→H} {w:World} {spare:Nat→Bool} {held:Bool} {b0:Nat} {t:TypeId} {v:Value} {d:DataW H} {p:List MemPlace} (hu:P.underlying t=some (.int .i64))
    (hv:Value.okWide P w .any b0 t v) (h:DataW.Trod enc P w 0 spare held t v d p):∃ n:Int,v=.int .i64 n∧ -9223372036854775808≤n∧n≤9223372036854775807:=by
  obtain ⟨n,rfl⟩:=okWide_int hu hv
  obtain ⟨fuel,hf⟩:=h
  obtain ⟨m,hm,_,hw⟩:=DataW.trod_int hu hf
  have hm' :n=m:=by simpa [Value.cells] using hm
  subst hm'
  exact ⟨n,rfl,by simp [Lit.wf,IntKind.min,IntKind.max,IntKind.signed,IntKind.bits] at hw;omega⟩
theorem arg_struct {P:Program} {α:Type} [qV α] {H:Type} {enc:TypeId×Value→H} {w:World} {spare:Nat→Bool} {held:Bool} {b0:Nat} {t:TypeId} {fs:Array Field} {v:Value} {d:DataW H} {p:List MemPlace} (hu:P.underlying t=some (.struct fs)) (hr:Reads P t α)
    (hv:Value.okWide P w .any b0 t v) (h:DataW.Trod enc P w 0 spare held t v d p):∃ (cs:List Value) (F:yLN) (x:α),v=.agg cs.toArray∧qV.rep w F cs x:=by
  obtain ⟨cs,rfl,_⟩:=okWide_struct hu hv
  obtain ⟨fuel,hf⟩:=h
  obtain ⟨F,x,hx⟩:=hr hf
  exact ⟨cs.toList,F,x,by simp,hx⟩
theorem slice_is {α:Type} [qV α] {w:World} {F:yLN} {v:Value} {l:List α} (h:qV.rep w F [v] l):∃ a c,v=.slice a l.length c∧qV.rep w F [.slice a l.length c] l:=by
  obtain ⟨a,c,hc,_⟩:=id h
  simp only [List.cons.injEq,and_true] at hc
  exact ⟨a,c,hc,hc▸h⟩
section
variable {H : Type} {enc : TypeId × Value → H} {P : Program}

theorem trodAll_below (hl:laidOutB P=true) {W W' :World} (hb:Below W.heap.size W W'):
    ∀ (ts:List TypeId) (vs:List Value) (ds:List (DataW H)) (ps:List MemPlace),(∀ t∈ts,P.readableRec t=true∧t < P.types.size)→
      DataW.TrodAll enc P W 0 (fun _=>true) true ts vs ds ps→(∀ x∈ps,x.block < W.heap.size)→
      DataW.TrodAll enc P W' 0 (fun b=>decide (b < W.heap.size)) true ts vs ds ps
  | [],vs,ds,ps,_,h,_=>by
    obtain ⟨rfl,rfl,rfl⟩:=trodAll_nil h
    exact trodAll_mk0
  | t :: ts,vs,ds,ps,hr,h,hp=>by
    obtain ⟨v,vs',d,ds',p,q,rfl,rfl,rfl,h0,h1⟩:=trodAll_cons h
    have ht:=hr t (List.mem_cons_self ..)
    exact trodAll_cons_mk (Below.trod hl ht.1 ht.2 h0 hb (fun x hx=>hp x (List.mem_append_left _ hx)))
      (trodAll_below hl hb ts vs' ds' q (fun t' ht' =>hr t' (List.mem_cons_of_mem _ ht')) h1 (fun x hx=>hp x (List.mem_append_right _ hx)))

theorem post_law {f:Func} {s:ChangeSpec} {W W' :World} {args:Array Value} {tb:TypeId} {ds gs:List (DataW H)} {before:List MemPlace}
    (hW:DataW.Whole enc P f.params.toList s.vars false W args.toList ds gs before) (hv:s.vars=[])
    (hs:s.fn H (ds++[])={ results:=[.lit (.bool true)],args:=ds }) (hr:f.resultTypes=#[tb]) (hu:P.underlying tb=some .bool)
    (hl:laidOutB P=true) (hts:∀ t∈f.params.toList,P.readableRec t=true∧t < P.types.size) (hb:Below W.heap.size W W'):
    s.post enc P f false true false false W args (.bool true) W' :=by
  have hW' :=hW
  obtain ⟨p,q,hA,hV,rfl,hz,hn⟩:=hW
  rw [hv] at hV
  obtain ⟨rfl,rfl⟩:=trodVars_none hV
  have hlt:∀ x∈p++[],x.block < W.heap.size:=fun x hx=>hW'.lt x hx
  refine ⟨ds,[],p++[],[],p,[],hW',?_,?_,?_,World.keptBut_mono (fun x hx=>⟨hx,Or.inr (Or.inl (by simpa using hx))⟩) (hb.frame (·∈p++[])),fun h=>by cases h⟩
  · rw [hs,hr]
    simp only [Value.resultList]
    exact trodAll_mk1 (shut_bool hu true)
  · rw [hs]
    exact trodAll_below hl hb _ _ _ _ hts hA (fun x hx=>hlt x (by simpa using hx))
  · rw [hv,hs]
    exact rfl
end
end
end Go.Proofs.YtkgdkfkgnodheaaGreat
