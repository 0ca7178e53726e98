/- Walks and laws, printed by program and by hand: what each function comes to, for all arguments, part 5. -/
import Derived.Test.YtkgdkfkgnodheaaGreatA4
import Derived.Test.YtkgdkfkgnodheaaGreatRows
import Derived.ProofKit
import Derived.OpenShut
import Derived.Carry
import Derived.BigQuiet
import Derived.Lib.SmallJoins
namespace Go.Proofs.YtkgdkfkgnodheaaGreat
set_option linter.unusedVariables false
set_option linter.unusedSimpArgs false
open Go.Proofs.YtkgdkfkgnodheaaGreat.Tot (tot)
open Go.Proofs.YtkgdkfkgnodheaaGreat.Mark (cnt mrk mkd mkd_mark cnt_mark)
section
open Go.RowKit
set_option linter.unusedVariables false
set_option linter.unusedSimpArgs false
set_option maxRecDepth 100000
set_option maxHeartbeats 4000000
def sortLI_ren:Go.Shelf.Ren:=⟨fun | 53=>77 | 64=>100 | 63=>99 | 78=>125 | 79=>126 | 70=>116 | 71=>117 | 72=>118 | 73=>119 | 74=>120 | 75=>121 | 59=>122 | 76=>123 | 77=>124 | 88=>131 | 89=>132 | 90=>133 | 91=>134 | 92=>135 | 68=>136 | 96=>137 | n=>n,fun | 22=>22 | 23=>2 | 3=>3 | 51=>126 | 0=>0 | 67=>148 | 69=>150 | 4=>4 | 61=>140 | 60=>139 | 44=>145 | 5=>5 | 9=>9 | 75=>155 | 79=>159 | 83=>161 | 84=>162 | n=>n,fun | n=>n⟩
theorem sortLI:Go.Proofs.SlLaysN.n53 Tryz.prog sortLI_ren:={
  mixed:=by kernel_rfl
  f53:=⟨Tryz.f77.name,by decide,Tryz.func77.trans (congrArg some (by kernel_rfl))⟩
  f59:=⟨Tryz.f122.name,by decide,Tryz.func122.trans (congrArg some (by kernel_rfl))⟩
  f63:=⟨Tryz.f99.name,by decide,Tryz.func99.trans (congrArg some (by kernel_rfl))⟩
  f64:=Tryz.func100.trans (congrArg some (by kernel_rfl))
  f68:=⟨Tryz.f136.name,by decide,Tryz.func136.trans (congrArg some (by kernel_rfl))⟩
  f70:=⟨Tryz.f116.name,by decide,Tryz.func116.trans (congrArg some (by kernel_rfl))⟩
  f71:=⟨Tryz.f117.name,by decide,Tryz.func117.trans (congrArg some (by kernel_rfl))⟩
  f72:=⟨Tryz.f118.name,by decide,Tryz.func118.trans (congrArg some (by kernel_rfl))⟩
  f73:=⟨Tryz.f119.name,by decide,Tryz.func119.trans (congrArg some (by kernel_rfl))⟩
  f74:=⟨Tryz.f120.name,by decide,Tryz.func120.trans (congrArg some (by kernel_rfl))⟩
  f75:=⟨Tryz.f121.name,by decide,Tryz.func121.trans (congrArg some (by kernel_rfl))⟩
  f76:=⟨Tryz.f123.name,by decide,Tryz.func123.trans (congrArg some (by kernel_rfl))⟩
  f77:=⟨Tryz.f124.name,by decide,Tryz.func124.trans (congrArg some (by kernel_rfl))⟩
  f78:=Tryz.func125.trans (congrArg some (by kernel_rfl))
  f79:=Tryz.func126.trans (congrArg some (by kernel_rfl))
  f88:=⟨Tryz.f131.name,by decide,Tryz.func131.trans (congrArg some (by kernel_rfl))⟩
  f89:=Tryz.func132.trans (congrArg some (by kernel_rfl))
  f90:=Tryz.func133.trans (congrArg some (by kernel_rfl))
  f91:=⟨Tryz.f134.name,by decide,Tryz.func134.trans (congrArg some (by kernel_rfl))⟩
  f92:=⟨Tryz.f135.name,by decide,Tryz.func135.trans (congrArg some (by kernel_rfl))⟩
  f96:=⟨Tryz.f137.name,by decide,Tryz.func137.trans (congrArg some (by kernel_rfl))⟩
  t0:=Tryz.underlying0
  a0:=Tryz.isAgg0
  z0:=Tryz.sizeOf0
  v0:=Tryz.zeroValue0
  t3:=Tryz.underlying3
  a3:=Tryz.isAgg3
  z3:=Tryz.sizeOf3
  v3:=Tryz.zeroValue3
  t4:=Tryz.underlying4
  a4:=Tryz.isAgg4
  z4:=Tryz.sizeOf4
  v4:=Tryz.zeroValue4
  t5:=Tryz.underlying5
  a5:=Tryz.isAgg5
  z5:=Tryz.sizeOf5
  v5:=Tryz.zeroValue5
  t9:=Tryz.underlying9
  a9:=Tryz.isAgg9
  z9:=Tryz.sizeOf9
  v9:=Tryz.zeroValue9
  t22:=Tryz.underlying22
  a22:=Tryz.isAgg22
  z22:=Tryz.sizeOf22
  v22:=Tryz.zeroValue22
  t23:=Tryz.underlying2
  a23:=Tryz.isAgg2
  z23:=Tryz.sizeOf2
  v23:=Tryz.zeroValue2
  t44:=Tryz.underlying145
  a44:=Tryz.isAgg145
  z44:=Tryz.sizeOf145
  v44:=Tryz.zeroValue145
  t51:=Tryz.underlying126
  a51:=Tryz.isAgg126
  z51:=Tryz.sizeOf126
  v51:=Tryz.zeroValue126
  t60:=Tryz.underlying139
  a60:=Tryz.isAgg139
  z60:=Tryz.sizeOf139
  v60:=Tryz.zeroValue139
  t61:=Tryz.underlying140
  a61:=Tryz.isAgg140
  z61:=Tryz.sizeOf140
  v61:=Tryz.zeroValue140
  t67:=Tryz.underlying148
  a67:=Tryz.isAgg148
  z67:=Tryz.sizeOf148
  v67:=Tryz.zeroValue148
  t69:=Tryz.underlying150
  a69:=Tryz.isAgg150
  z69:=Tryz.sizeOf150
  v69:=Tryz.zeroValue150
  t75:=Tryz.underlying155
  a75:=Tryz.isAgg155
  z75:=Tryz.sizeOf155
  v75:=Tryz.zeroValue155
  t79:=Tryz.underlying159
  a79:=Tryz.isAgg159
  z79:=Tryz.sizeOf159
  v79:=Tryz.zeroValue159
  t83:=Tryz.underlying161
  a83:=Tryz.isAgg161
  z83:=Tryz.sizeOf161
  v83:=Tryz.zeroValue161
  t84:=Tryz.underlying162
  a84:=Tryz.isAgg162
  z84:=Tryz.sizeOf162
  v84:=Tryz.zeroValue162 }
def compLI_ren:Go.Shelf.Ren:=⟨fun | 43=>78 | n=>n,fun | 22=>22 | 23=>2 | 3=>3 | 4=>4 | 0=>0 | n=>n,fun | n=>n⟩
theorem compLI:Go.Proofs.SlLaysN.n43 Tryz.prog compLI_ren:={
  mixed:=by kernel_rfl
  f43:=⟨Tryz.f78.name,by decide,Tryz.func78.trans (congrArg some (by kernel_rfl))⟩
  t0:=Tryz.underlying0
  a0:=Tryz.isAgg0
  z0:=Tryz.sizeOf0
  v0:=Tryz.zeroValue0
  t3:=Tryz.underlying3
  a3:=Tryz.isAgg3
  z3:=Tryz.sizeOf3
  v3:=Tryz.zeroValue3
  t4:=Tryz.underlying4
  a4:=Tryz.isAgg4
  z4:=Tryz.sizeOf4
  v4:=Tryz.zeroValue4
  t22:=Tryz.underlying22
  a22:=Tryz.isAgg22
  z22:=Tryz.sizeOf22
  v22:=Tryz.zeroValue22
  t23:=Tryz.underlying2
  a23:=Tryz.isAgg2
  z23:=Tryz.sizeOf2
  v23:=Tryz.zeroValue2
  i23:=by kernel_rfl }

theorem implGraph_ok (w:World) (p:qW) (s:qY) (mode:Int) {qI:yOA} {qH:Nat} {xe:yLN} {apFree:yOA} {cpFree:Nat} {FpFree:yLN} {qV:yOA} {qM:Nat} {xx:yLN} {asCells:yOA} {csCells:Nat} {FsCells:yLN} {qR:yOA} {qQ:Nat} {xw:yLN} (qX:qU.rep w xe [.slice qI p.qC.length qH] p.qC) (hpFree:qU.rep w FpFree [.slice apFree p.qL.length cpFree] p.qL) (xq:qU.rep w xx [.slice qV p.qB.length qM] p.qB) (hsCells:qU.rep w FsCells [.slice asCells s.qG.length csCells] s.qG) (xA:qU.rep w xw [.slice qR s.qF.length qQ] s.qF):Calls Tryz.prog 11 #[.agg #[.int .i64 p.qJ,.slice qI p.qC.length qH,.slice apFree p.qL.length cpFree,.slice qV p.qB.length qM],.agg #[.slice asCells s.qG.length csCells,.slice qR s.qF.length qQ],.int .i64 mode] w (Ret (fun v w' =>∃ (ra0:yOA) (rn0:Nat) (rc0:Nat) (rx0:List Value) (rF0:yLN) (ra1:yOA) (rn1:Nat) (rc1:Nat) (rx1:List Value) (rF1:yLN),v=.tuple #[.slice ra0 rn0 rc0,.slice ra1 rn1 rc1,.int .i64 ((zY p s mode).2.2)]∧Fresh w.heap.size [rF0,rF1]∧St w w' [rr ra0 rn0 rc0 39 2 rx0,rr ra1 rn1 rc1 22 1 rx1] [xR true rF0 rx0 ((zY p s mode).1),xR true rF1 rx1 ((zY p s mode).2.1)]) w):=by
 refine en Tryz.func11 Tryz.ntmps11 ?_
 have H:=(((((St.start w).arg xA).arg hsCells).arg xq).arg hpFree).arg qX
 have zF:=qO qX
 have nhpFree:=qO hpFree
 have vK:=qO xq
 have nhsCells:=qO hsCells
 have vZ:=qO xA
 clear qX hpFree xq hsCells xA
 have N:=Fresh.nil w.heap.size
 refine zcr (sw (jA H [.int .i64 p.qJ,.slice qI p.qC.length qH,.slice apFree p.qL.length cpFree,.slice qV p.qB.length qM] fun b1 w2 H=>sw (jA H [.slice asCells s.qG.length csCells,.slice qR s.qF.length qQ] fun b3 w4 H=>sps [.slice none 0 0,.slice none 0 0,.int .i64 0] (zjcc (sw (zf [.int .i64 p.qJ,.slice qI p.qC.length qH,.slice apFree p.qL.length cpFree,.slice qV p.qB.length qM] Tryz.isAgg37 Tryz.sizeOf37 rfl (qN (H.cells 1 rfl) 0 4) ?_))))))
 refine sw (zf [.slice asCells s.qG.length csCells,.slice qR s.qF.length qQ] Tryz.isAgg39 Tryz.sizeOf39 rfl (qN (H.cells 0 rfl) 0 2) (sp (.int .i64 mode) (sw (oq (modeOf_ok _ p s mode (H.get 0 rfl).1 (H.get 1 rfl).1 (H.get 2 rfl).1 (H.get 3 rfl).1 (H.get 4 rfl).1) H fun w6 H=>sp (.int .i64 (yY p s mode)) (zjc (sps [.int .i64 (yY p s mode),.bool ((yY p s mode:Int) != 0)] (zjn (xG ((yY p s mode:Int) != 0) rfl (fun h8=>?_) (fun h8=>?_)))))))))
 ·skip
  replace h8:=bne_iff_ne.1 h8
  refine zcr (sps [.int .i64 (yY p s mode),.slice none 0 0,.slice none 0 0,.int .i64 (yY p s mode)] (zjr (t_r ?_)))
  replace H:=H.nilRow 39 2
  replace H:=H.vY (α:=qY)
  replace H:=H.nilRow 22 1
  replace H:=H.vY (α:=yLI)
  refine ret3 (.slice none 0 0) (.slice none 0 0) (.int .i64 (yY p s mode)) rfl rfl rfl rfl ⟨_,rfl,?_,H.base⟩
  rw [pg_code qm]
  exact ⟨none,0,0,[],[],none,0,0,[],[],rfl,N.emp.emp,H.pick [1,0] [0,0]⟩
 ·skip
  replace h8:=xB h8
  obtain ⟨p0,p1,p2⟩:=mcode_ok h8
  have k0:=h8
  refine xf (t_n (xP ?_))
  have z0:Cnts1 p (List.replicate p.qB.length (0:Int)):=⟨by simp,fun i hi=>by rw [zeros_get];omega⟩
  have z1:=p0.1.2.2.2.1
  refine c_cut (fun ρ w17=>∃ (zn:Env) (b9:Nat) (ra10:yOA) (rc11:Nat) (ra12:yOA) (rc13:Nat) (rx14:List Value) (b15:Nat) (rF16:yLN),ρ=upd (upd (upd zn 2 (.int .i64 mode)) 3 (.pointer (some ⟨b1,0,none⟩))) 10 (.pointer (some ⟨b9,0,none⟩))∧Fresh w.heap.size [rF16]∧St w w17 [.box b9 [.slice ra10 ((((xk p s (List.replicate p.qB.length (0:Int))).1).qG).length) rc11,.slice ra12 ((((xk p s (List.replicate p.qB.length (0:Int))).1).qF).length) rc13] 39,rr ra10 ((((xk p s (List.replicate p.qB.length (0:Int))).1).qG).length) rc11 22 1 rx14,rr ra12 ((((xk p s (List.replicate p.qB.length (0:Int))).1).qF).length) rc13 2 1 ((((xk p s (List.replicate p.qB.length (0:Int))).1).qF).map (Value.int .i64)),rr (some ⟨b15,0,none⟩) p.qB.length p.qB.length 2 1 ((List.replicate p.qB.length (0:Int)).map (Value.int .i64)),.box b3 [.slice asCells s.qG.length csCells,.slice qR s.qF.length qQ] 39,.box b1 [.int .i64 p.qJ,.slice qI p.qC.length qH,.slice apFree p.qL.length cpFree,.slice qV p.qB.length qM] 37] [xR true rF16 rx14 (((xk p s (List.replicate p.qB.length (0:Int))).1).qG),sF false xe qI qH p.qC,sF false FpFree apFree cpFree p.qL,sF false xx qV qM p.qB,sF false FsCells asCells csCells s.qG,sF false xw qR qQ s.qF]) ?_ ?_
  ·skip
   refine vH rfl H fun H=>rt 0 (.agg #[.int .i64 p.qJ,.slice qI p.qC.length qH,.slice apFree p.qL.length cpFree,.slice qV p.qB.length qM]) (yZ (cs:=[.int .i64 p.qJ,.slice qI p.qC.length qH,.slice apFree p.qL.length cpFree,.slice qV p.qB.length qM]) Tryz.isAgg37 Tryz.sizeOf37 rfl (fun _ h=>qN (h.cells 1 rfl) 0 4)) H ?_
   refine rt 1 (.agg #[.slice asCells s.qG.length csCells,.slice qR s.qF.length qQ]) (yZ (cs:=[.slice asCells s.qG.length csCells,.slice qR s.qF.length qQ]) Tryz.isAgg39 Tryz.sizeOf39 rfl (fun _ h=>qN (h.cells 0 rfl) 0 2)) H ?_
   refine tF 2 rfl rfl H ?_
   refine tL 3 rfl rfl (fun _ h=>h.cell 1 rfl rfl) H ?_
   refine tN 4 rfl rfl H ?_
   refine yl [5,10] qi qo (r_op rfl ?_ (r_op rfl ?_ yt))
   ·skip
    refine o_makeI H Tryz.underlying22 ti2 p.qB.length rfl rfl qg qg qg fun b19 w20 H=>⟨H.pick [1,2] [0,1,2,3,4],(yl [6,10] qi qo (r_op rfl ?_ (r_op rfl ?_ yt)))⟩
    ·skip
     obtain ⟨G21,hn22,h23⟩:=H.rowIsI 0 rfl
     have sz27:=H.base.size
     refine oc (args_eq (by rw [← hn22]) (step_ok _ p s (List.replicate p.qB.length (0:Int)) (H.get 0 rfl).1 (H.get 1 rfl).1 (H.get 2 rfl).1 (H.get 3 rfl).1 (H.get 4 rfl).1 (rep_at hn22 h23) (by exact p0) (by first | exact p1 | assumption) qm)) ?_
     rintro _ w25 ⟨ra24aCells,rn24aCells,rc24aCells,rx24aCells,rF24aCells,ra24aAround,rn24aAround,rc24aAround,rfl,M,K⟩ _
     replace N:=N.merge sz27 qo M
     replace H:=H.merge K M
     obtain rfl:=H.zy (α:=yLI) 0 rfl 0 rfl qj
     obtain rfl:=H.Qq 1 rfl
     refine ⟨H.pick [3,4] [1,2,3,4,5],?_⟩
     have S:=H.zq [3,4] [1,2,3,4,5]
     refine rtp 7 (.tuple #[.agg #[.slice ra24aCells ((((xk p s (List.replicate p.qB.length (0:Int))).1).qG).length) rc24aCells,.slice ra24aAround ((((xk p s (List.replicate p.qB.length (0:Int))).1).qF).length) rc24aAround],.int .i64 ((xk p s (List.replicate p.qB.length (0:Int))).2)]) S ?_
     refine rtp 8 (.agg #[.slice ra24aCells ((((xk p s (List.replicate p.qB.length (0:Int))).1).qG).length) rc24aCells,.slice ra24aAround ((((xk p s (List.replicate p.qB.length (0:Int))).1).qF).length) rc24aAround]) S ?_
     refine rtp 9 (.int .i64 ((xk p s (List.replicate p.qB.length (0:Int))).2)) S ?_
     refine ro 10 rfl (jq H ti39 [.slice none 0 0,.slice none 0 0] fun b31 w32 H=>⟨H.pick [4,5] [1,2,3,4,5],(ro 11 rfl (jC H 0 [.slice ra24aCells ((((xk p s (List.replicate p.qB.length (0:Int))).1).qG).length) rc24aCells,.slice ra24aAround ((((xk p s (List.replicate p.qB.length (0:Int))).1).qF).length) rc24aAround] Tryz.sizeOf39 fun w33 H=>⟨H.pick [4,5] [1,2,3,4,5],(rtp 12 (.int .i64 ((xk p s (List.replicate p.qB.length (0:Int))).2)) (H.pick [4,5] [1,2,3,4,5]) ?_)⟩))⟩)
     refine xI qi ((meet ⟨_,b31,ra24aCells,rc24aCells,ra24aAround,rc24aAround,rx24aCells,b19,rF24aCells,uE3,N,H⟩))
    ·skip
     refine jq H ti39 [.slice none 0 0,.slice none 0 0] fun b34 w35 H=>⟨H.pick [2,3] [0,1,2,3,4],(ro 6 rfl ?_)⟩
     obtain ⟨G36,hn37,h38⟩:=H.rowIsI 1 rfl
     have sz42:=H.base.size
     refine oc (args_eq (by rw [← hn37]) (step_ok _ p s (List.replicate p.qB.length (0:Int)) (H.get 0 rfl).1 (H.get 1 rfl).1 (H.get 2 rfl).1 (H.get 3 rfl).1 (H.get 4 rfl).1 (rep_at hn37 h38) (by exact p0) (by first | exact p1 | assumption) qm)) ?_
     rintro _ w40 ⟨ra39aCells,rn39aCells,rc39aCells,rx39aCells,rF39aCells,ra39aAround,rn39aAround,rc39aAround,rfl,M,K⟩ _
     replace N:=N.merge sz42 qo M
     replace H:=H.merge K M
     obtain rfl:=H.zy (α:=yLI) 0 rfl 0 rfl qj
     obtain rfl:=H.Qq 1 rfl
     refine ⟨H.pick [4,5] [1,2,3,4,5],?_⟩
     have S:=H.zq [4,5] [1,2,3,4,5]
     refine rtp 7 (.tuple #[.agg #[.slice ra39aCells ((((xk p s (List.replicate p.qB.length (0:Int))).1).qG).length) rc39aCells,.slice ra39aAround ((((xk p s (List.replicate p.qB.length (0:Int))).1).qF).length) rc39aAround],.int .i64 ((xk p s (List.replicate p.qB.length (0:Int))).2)]) S ?_
     refine rtp 8 (.agg #[.slice ra39aCells ((((xk p s (List.replicate p.qB.length (0:Int))).1).qG).length) rc39aCells,.slice ra39aAround ((((xk p s (List.replicate p.qB.length (0:Int))).1).qF).length) rc39aAround]) S ?_
     refine rtp 9 (.int .i64 ((xk p s (List.replicate p.qB.length (0:Int))).2)) S ?_
     refine ro 11 rfl (jC H 2 [.slice ra39aCells ((((xk p s (List.replicate p.qB.length (0:Int))).1).qG).length) rc39aCells,.slice ra39aAround ((((xk p s (List.replicate p.qB.length (0:Int))).1).qF).length) rc39aAround] Tryz.sizeOf39 fun w46 H=>⟨H.pick [4,5] [1,2,3,4,5],(rtp 12 (.int .i64 ((xk p s (List.replicate p.qB.length (0:Int))).2)) (H.pick [4,5] [1,2,3,4,5]) ?_)⟩)
     refine xI qi ((meet ⟨_,b34,ra39aCells,rc39aCells,ra39aAround,rc39aAround,rx39aCells,b19,rF39aCells,uE3,N,H.pick [2,0,1,3,4,5] [0,1,2,3,4,5]⟩))
   ·skip
    refine jq H ti39 [.slice none 0 0,.slice none 0 0] fun b47 w48 H=>⟨H.pick [1,2] [0,1,2,3,4],(ro 5 rfl (o_makeI H Tryz.underlying22 ti2 p.qB.length rfl rfl qg qg qg fun b49 w50 H=>⟨H.pick [2,3] [0,1,2,3,4],(ro 6 rfl ?_)⟩))⟩
    obtain ⟨G51,hn52,h53⟩:=H.rowIsI 0 rfl
    have sz57:=H.base.size
    refine oc (args_eq (by rw [← hn52]) (step_ok _ p s (List.replicate p.qB.length (0:Int)) (H.get 0 rfl).1 (H.get 1 rfl).1 (H.get 2 rfl).1 (H.get 3 rfl).1 (H.get 4 rfl).1 (rep_at hn52 h53) (by exact p0) (by first | exact p1 | assumption) qm)) ?_
    rintro _ w55 ⟨ra54aCells,rn54aCells,rc54aCells,rx54aCells,rF54aCells,ra54aAround,rn54aAround,rc54aAround,rfl,M,K⟩ _
    replace N:=N.merge sz57 qo M
    replace H:=H.merge K M
    obtain rfl:=H.zy (α:=yLI) 0 rfl 0 rfl qj
    obtain rfl:=H.Qq 1 rfl
    refine ⟨H.pick [4,5] [1,2,3,4,5],?_⟩
    have S:=H.zq [4,5] [1,2,3,4,5]
    refine rtp 7 (.tuple #[.agg #[.slice ra54aCells ((((xk p s (List.replicate p.qB.length (0:Int))).1).qG).length) rc54aCells,.slice ra54aAround ((((xk p s (List.replicate p.qB.length (0:Int))).1).qF).length) rc54aAround],.int .i64 ((xk p s (List.replicate p.qB.length (0:Int))).2)]) S ?_
    refine rtp 8 (.agg #[.slice ra54aCells ((((xk p s (List.replicate p.qB.length (0:Int))).1).qG).length) rc54aCells,.slice ra54aAround ((((xk p s (List.replicate p.qB.length (0:Int))).1).qF).length) rc54aAround]) S ?_
    refine rtp 9 (.int .i64 ((xk p s (List.replicate p.qB.length (0:Int))).2)) S ?_
    refine ro 11 rfl (jC H 3 [.slice ra54aCells ((((xk p s (List.replicate p.qB.length (0:Int))).1).qG).length) rc54aCells,.slice ra54aAround ((((xk p s (List.replicate p.qB.length (0:Int))).1).qF).length) rc54aAround] Tryz.sizeOf39 fun w61 H=>⟨H.pick [4,5] [1,2,3,4,5],(rtp 12 (.int .i64 ((xk p s (List.replicate p.qB.length (0:Int))).2)) (H.pick [4,5] [1,2,3,4,5]) ?_)⟩)
    refine xI qi ((meet ⟨_,b47,ra54aCells,rc54aCells,ra54aAround,rc54aAround,rx54aCells,b49,rF54aCells,uE3,N,H.pick [3,0,1,2,4,5] [0,1,2,3,4,5]⟩))
  ·skip
   clear H N
   rintro ρ w62 ⟨zn,b9,ra10,rc11,ra12,rc13,rx14,b15,rF16,rfl,N,H⟩
   refine t_n (xP ?_)
   have e0:(xk p s (List.replicate p.qB.length (0:Int))).1=s:=by rw [pstep_none p0 p1]
   rw [e0] at H
   refine xJ (sw (zf [.slice ra10 ((s.qG).length) rc11,.slice ra12 ((s.qF).length) rc13] Tryz.isAgg39 Tryz.sizeOf39 rfl (qN (H.cells 0 rfl) 0 2) (sw (zu H Tryz.underlying32 ti39 [.slice ra10 ((s.qG).length) rc11,.slice ra12 ((s.qF).length) rc13] fun b63 w64 H=>sw (jY H Tryz.underlying27 ti22 fun b65 w66 H=>sps [.slice (some ⟨b63,0,none⟩) 1 1,.slice (some ⟨b65,0,none⟩) 0 0] (zjcc (sp (.int .i64 0) (zjn (xm ?_)))))))))
   replace H:=H.boxRow 1 rfl 2 1 rfl qj
   replace H:=H.vY (α:=qY)
   have H0:=H
   obtain ⟨G67,hg69,hn68,H⟩:=H.QA (α:=yLI) 3 rfl 1 rfl qj
   replace N:Fresh w.heap.size [G67]:=Fresh.ice N H0 3 hg69.1 hg69.2 (H0.jG [])
   clear H0
   obtain ⟨G70,N,hn71,H⟩:=H.vF 4 rfl N (H.jG [0])
   replace H:=H.snoc_StockD 2 rfl 1 rfl 0 rfl
   replace N:Fresh w.heap.size [([]++(G67++G70))]:=(N.emp.pick [2,1,0]).join.swap.join
   replace H:St _ _ [.box b65 [] 22,rr (some ⟨b63,0,none⟩) 1 1 39 2 [.slice ra10 ((s.qG).length) rc11,.slice ra12 ((s.qF).length) rc13],.box b9 [.slice ra10 ((s.qG).length) rc11,.slice ra12 ((s.qF).length) rc13] 39,rr none 0 0 0 1 [],rr none 0 0 0 1 [],rr (some ⟨b15,0,none⟩) p.qB.length p.qB.length 2 1 ((List.replicate p.qB.length (0:Int)).map (Value.int .i64)),.box b3 [.slice asCells s.qG.length csCells,.slice qR s.qF.length qQ] 39,.box b1 [.int .i64 p.qJ,.slice qI p.qC.length qH,.slice apFree p.qL.length cpFree,.slice qV p.qB.length qM] 37] [xR true ([]++(G67++G70)) [.slice ra10 ((s.qG).length) rc11,.slice ra12 ((s.qF).length) rc13] [s],sF true G70 ra12 rc13 s.qF,sF true G67 ra10 rc11 s.qG,xR true [] [] ([]:List qY),xR true rF16 rx14 s.qG,sF false xe qI qH p.qC,sF false FpFree apFree cpFree p.qL,sF false xx qV qM p.qB,sF false FsCells asCells csCells s.qG,sF false xw qR qQ s.qF]:=H
   replace H:=H.boxRow 0 rfl 1 0 rfl qj
   replace H:=H.vY (α:=yLI)
   refine zC (fun m' ρ w72=>∃ (zn:Env) (yP:yOA) (vO:Nat) (jB:Nat) (list:List qY) (x_list:List Value) (F_list:yLN) (zU:yOA) (zN:Nat) (zT:Nat) (next:yLL) (jH:List Value) (vg:yLN) (i:Nat),ρ=upd (upd (upd (upd (upd zn 2 (.int .i64 mode)) 3 (.pointer (some ⟨b1,0,none⟩))) 12 (.slice yP vO jB)) 13 (.slice zU zN zT)) 14 (.int .i64 i)∧(yS p s mode i=some (list,next))∧(i≤list.length)∧m' =200 - i∧Fresh w.heap.size [F_list,vg]∧St w w72 [rr zU zN zT 22 1 jH,rr yP vO jB 39 2 x_list,.box b9 [.slice ra10 ((s.qG).length) rc11,.slice ra12 ((s.qF).length) rc13] 39,rr (some ⟨b15,0,none⟩) p.qB.length p.qB.length 2 1 ((List.replicate p.qB.length (0:Int)).map (Value.int .i64)),.box b3 [.slice asCells s.qG.length csCells,.slice qR s.qF.length qQ] 39,.box b1 [.int .i64 p.qJ,.slice qI p.qC.length qH,.slice apFree p.qL.length cpFree,.slice qV p.qB.length qM] 37] [xR true vg jH next,xR true F_list x_list list,sF true G70 ra12 rc13 s.qF,sF true G67 ra10 rc11 s.qG,sF false xe qI qH p.qC,sF false FpFree apFree cpFree p.qL,sF false xx qV qM p.qB,sF false FsCells asCells csCells s.qG,sF false xw qR qQ s.qF]) (200 - 0) ⟨_,(some ⟨b63,0,none⟩),1,1,[s],[.slice ra10 ((s.qG).length) rc11,.slice ra12 ((s.qF).length) rc13],([]++(G67++G70)),(some ⟨b65,0,none⟩),0,0,([]:yLL),[],[],0,uE5,(by rfl),(by exact Nat.zero_le _),rfl,(N.emp.pick [1,0]),H.pick [0,1,2,5,6,7] [0,1,2,3,6,7,8,9,10]⟩ ?_
   clear H N
   rintro m' ρ w73 ⟨zn,yP,vO,jB,list,x_list,F_list,zU,zN,zT,next,jH,vg,i,rfl,j1,j0,rfl,N,H⟩
   have hn_list:=H.zy (α:=qY) 1 rfl 1 rfl qj
   have hn_next:=H.zy (α:=yLI) 0 rfl 0 rfl qj
   have oo:=outTo_ok p1 i j1
   obtain ⟨ol1,ol2,ol3⟩:=outTo_len i j1
   have ol4:=ol3 j0
   refine zcc (sps [.int .i64 i,.slice yP vO jB] (oN rfl (sp (.bool (decide ((i:Int) < vO))) (zjn (cD rfl (fun h74=>?_) (fun h74=>?_))))))
   ·skip
    refine xf (t_n (xP (xm (xP ?_))))
    refine vH rfl H fun H=>rt 0 (.agg #[.int .i64 p.qJ,.slice qI p.qC.length qH,.slice apFree p.qL.length cpFree,.slice qV p.qB.length qM]) (yZ (cs:=[.int .i64 p.qJ,.slice qI p.qC.length qH,.slice apFree p.qL.length cpFree,.slice qV p.qB.length qM]) Tryz.isAgg37 Tryz.sizeOf37 rfl (fun _ h=>qN (h.cells 5 rfl) 0 4)) H ?_
    refine rtp 1 (.slice yP vO jB) H ?_
    refine rtp 2 (.int .i64 i) H ?_
    obtain ⟨b76,rfl⟩:=H.yj 1 rfl qg
    obtain ⟨ae77Cells,ce77Cells,Fe77Cells,ae77Around,ce77Around,Fe77Around,hx78,H⟩:=H.rowel_StockD 1 rfl 1 rfl (iv:=i) i qg qg
    have S:=H.zq [0,1,2,3,4,5] [2,3,4,5,6,7,8,9,10]
    refine tI 3 rfl rfl rfl S ?_
    refine rt 4 (.agg #[.slice ae77Cells (((list[i]!).qG).length) ce77Cells,.slice ae77Around (((list[i]!).qF).length) ce77Around]) (yZ (cs:=[.slice ae77Cells (((list[i]!).qG).length) ce77Cells,.slice ae77Around (((list[i]!).qF).length) ce77Around]) Tryz.isAgg39 Tryz.sizeOf39 rfl (fun _ h=>qN (fun j v hj=>h.rowGet 1 rfl (hx78 j v hj)) 0 2)) S ?_
    refine rtp 5 (.int .i64 mode) S ?_
    refine ro 6 rfl ?_
    have so:=oo i qg
    have sz82:=H.base.size
    have lt83:=H.ltN (L:=[F_list,vg]) [3,2]
    refine oc (choices_ok _ p (list[i]!) mode (H.get 6 rfl).1 (H.get 7 rfl).1 (H.get 8 rfl).1 (H.get 0 rfl).1 (H.get 1 rfl).1 (by exact p0) (by first | exact p1 | assumption)) ?_
    rintro _ w80 ⟨ra79a,rn79a,rc79a,rx79a,rF79a,rfl,M,K⟩ _
    replace N:=N.merge sz82 lt83 M
    replace H:=H.merge K M
    obtain rfl:=H.zy (α:=yLI) 0 rfl 0 rfl qj
    refine ⟨H.pick [1,2,3,4,5,6] [3,4,5,6,7,8,9,10,11],?_⟩
    have S:=H.zq [1,2,3,4,5,6] [3,4,5,6,7,8,9,10,11]
    refine rtp 7 (.tuple #[.slice ra79a (((zG p (list[i]!) mode).1).length) rc79a,.int .i64 ((zG p (list[i]!) mode).2)]) S ?_
    refine rtp 8 (.slice ra79a (((zG p (list[i]!) mode).1).length) rc79a) S ?_
    refine rtp 9 (.int .i64 ((zG p (list[i]!) mode).2)) S ?_
    refine rtp 10 (.slice ra79a (((zG p (list[i]!) mode).1).length) rc79a) S ?_
    refine rtp 11 (.int .i64 ((zG p (list[i]!) mode).2)) S ?_
    refine xI qi (t_n (zcc (sps [.int .i64 ((zG p (list[i]!) mode).2),.bool (((zG p (list[i]!) mode).2:Int) != 0)] (zjn (xG (((zG p (list[i]!) mode).2:Int) != 0) rfl (fun h85=>?_) (fun h85=>?_))))))
    ·skip
     replace h85:=bne_iff_ne.1 h85
     have hm:=ch_many h85
     refine zcr (sps [.int .i64 ((zG p (list[i]!) mode).2),.slice none 0 0,.slice none 0 0,.int .i64 ((zG p (list[i]!) mode).2)] (zjr (t_r (zr5 ?_))))
     replace H:=H.nilRow 39 2
     replace H:=H.vY (α:=qY)
     replace H:=H.nilRow 22 1
     replace H:=H.vY (α:=yLI)
     refine ret3 (.slice none 0 0) (.slice none 0 0) (.int .i64 ((zG p (list[i]!) mode).2)) rfl rfl rfl rfl ⟨_,rfl,?_,H.base⟩
     rw [pg_no k0 (vG (outTo_much j1 qg hm.2) qg),hm.1]
     exact ⟨none,0,0,[],[],none,0,0,[],[],rfl,(N.emp.emp.pick [0,1]),H.pick [1,0] [0,0]⟩
    ·skip
     replace h85:=xB h85
     have so:=oo i qg
     have hc:=h85
     have hcr:=(ch_ok hc).2
     have hcl:=chr_len hc
     refine xf (t_n (zcr (sw (jY H Tryz.underlying22 ti2 fun b86 w87 H=>sp (.slice (some ⟨b86,0,none⟩) 0 0) (zjcc (sp (.slice ra79a (((zG p (list[i]!) mode).1).length) rc79a) (oN rfl (sp (.int .i64 0) (zjn (xm ?_))))))))))
     replace H:=H.boxRowI 0 [] 0
     refine zC (fun m' ρ w88=>∃ (zn:Env) (a_list_1:yOA) (xC:Nat) (zk:Nat) (list_1:List qY) (vT:List Value) (zJ:yLN) (a_own:yOA) (n_own:Nat) (c_own:Nat) (own:yLI) (k:Nat),ρ=upd (upd (upd (upd (upd (upd (upd (upd (upd zn 2 (.int .i64 mode)) 3 (.pointer (some ⟨b1,0,none⟩))) 12 (.slice a_list_1 xC zk)) 13 (.slice zU zN zT)) 14 (.int .i64 i)) 17 (.slice a_own n_own c_own)) 63 (.slice ra79a (((zG p (list[i]!) mode).1).length) rc79a)) 64 (.int .i64 (((zG p (list[i]!) mode).1).length))) 65 (.int .i64 k)∧((k:Int)≤(((zG p (list[i]!) mode).1).length))∧(inTo p (list[i]!) (zG p (list[i]!) mode).1 list k=some (list_1,own))∧m' =((((zG p (list[i]!) mode).1).length) - (k:Int)).toNat∧Fresh w.heap.size [rF79a,vg,zJ]∧St w w88 [rr a_own n_own c_own 2 1 (own.map (Value.int .i64)),rr ra79a (((zG p (list[i]!) mode).1).length) rc79a 22 1 rx79a,rr zU zN zT 22 1 jH,rr a_list_1 xC zk 39 2 vT,.box b9 [.slice ra10 ((s.qG).length) rc11,.slice ra12 ((s.qF).length) rc13] 39,rr (some ⟨b15,0,none⟩) p.qB.length p.qB.length 2 1 ((List.replicate p.qB.length (0:Int)).map (Value.int .i64)),.box b3 [.slice asCells s.qG.length csCells,.slice qR s.qF.length qQ] 39,.box b1 [.int .i64 p.qJ,.slice qI p.qC.length qH,.slice apFree p.qL.length cpFree,.slice qV p.qB.length qM] 37] [xR true rF79a rx79a ((zG p (list[i]!) mode).1),xR true vg jH next,xR true zJ vT list_1,sF true G70 ra12 rc13 s.qF,sF true G67 ra10 rc11 s.qG,sF false xe qI qH p.qC,sF false FpFree apFree cpFree p.qL,sF false xx qV qM p.qB,sF false FsCells asCells csCells s.qG,sF false xw qR qQ s.qF]) (((((zG p (list[i]!) mode).1).length) - (0:Int)).toNat) ⟨_,(some ⟨b76,0,none⟩),vO,jB,list,x_list,F_list,(some ⟨b86,0,none⟩),0,0,([]:yLI),0,uE9,qg,(by rfl),rfl,(N.pick [0,2,1]),H.pick [0,1,2,3,4,5,6,7] [0,3,4,5,6,7,8,9,10,11]⟩ ?_
     clear H N
     rintro m' ρ w89 ⟨zn,a_list_1,xC,zk,list_1,vT,zJ,a_own,n_own,c_own,own,k,rfl,i0,k1,rfl,N,H⟩
     have hn_list:=H.zy (α:=qY) 3 rfl 2 rfl qj
     have hn_own:=H.Qq 0 rfl
     obtain ⟨il1,il2,il3⟩:=inTo_len ol2 k k1
     refine zcr (sp (.bool (decide ((k:Int) < (((zG p (list[i]!) mode).1).length)))) (zjn (xP (cD rfl (fun h90=>?_) (fun h90=>?_)))))
     ·skip
      refine xf (t_n (xP (xm (zcr ?_))))
      obtain ⟨b91,rfl⟩:=H.yj 1 rfl qg
      refine oI rfl rfl ?_
      obtain ⟨a92,c93,G94,s95,h96,H⟩:=H.jU 1 rfl 0 rfl (iv:=k) k qg qg
      refine oL rfl (h96) (sp (.slice a92 ((((zG p (list[i]!) mode).1)[k]!).length) c93) (zjn (xP ?_)))
      obtain ⟨b97,rfl⟩:=H.yj 3 rfl qg
      refine c_cut (fun ρ w105=>∃ (zn:Env) (b98:Nat) (ra99:yOA) (rc100:Nat) (ra101:yOA) (rc102:Nat) (rx103:List Value) (rF104:yLN),ρ=upd (upd (upd (upd (upd (upd (upd (upd (upd (upd (upd zn 2 (.int .i64 mode)) 3 (.pointer (some ⟨b1,0,none⟩))) 12 (.slice (some ⟨b97,0,none⟩) xC zk)) 13 (.slice zU zN zT)) 14 (.int .i64 i)) 17 (.slice a_own n_own c_own)) 20 (.pointer (some ⟨b98,0,none⟩))) 21 (.int .i64 ((xk p (list_1[i]!) (((zG p (list[i]!) mode).1)[k]!)).2))) 63 (.slice (some ⟨b91,0,none⟩) (((zG p (list[i]!) mode).1).length) rc79a)) 64 (.int .i64 (((zG p (list[i]!) mode).1).length))) 65 (.int .i64 k)∧Fresh w.heap.size [rF104,rF79a,vg,zJ]∧St w w105 [.box b98 [.slice ra99 ((((xk p (list_1[i]!) (((zG p (list[i]!) mode).1)[k]!)).1).qG).length) rc100,.slice ra101 ((((xk p (list_1[i]!) (((zG p (list[i]!) mode).1)[k]!)).1).qF).length) rc102] 39,rr ra99 ((((xk p (list_1[i]!) (((zG p (list[i]!) mode).1)[k]!)).1).qG).length) rc100 22 1 rx103,rr ra101 ((((xk p (list_1[i]!) (((zG p (list[i]!) mode).1)[k]!)).1).qF).length) rc102 2 1 ((((xk p (list_1[i]!) (((zG p (list[i]!) mode).1)[k]!)).1).qF).map (Value.int .i64)),rr a_own n_own c_own 2 1 (own.map (Value.int .i64)),rr (some ⟨b91,0,none⟩) (((zG p (list[i]!) mode).1).length) rc79a 22 1 rx79a,rr zU zN zT 22 1 jH,rr (some ⟨b97,0,none⟩) xC zk 39 2 vT,.box b9 [.slice ra10 ((s.qG).length) rc11,.slice ra12 ((s.qF).length) rc13] 39,rr (some ⟨b15,0,none⟩) p.qB.length p.qB.length 2 1 ((List.replicate p.qB.length (0:Int)).map (Value.int .i64)),.box b3 [.slice asCells s.qG.length csCells,.slice qR s.qF.length qQ] 39,.box b1 [.int .i64 p.qJ,.slice qI p.qC.length qH,.slice apFree p.qL.length cpFree,.slice qV p.qB.length qM] 37] [xR true rF104 rx103 (((xk p (list_1[i]!) (((zG p (list[i]!) mode).1)[k]!)).1).qG),xR true rF79a rx79a ((zG p (list[i]!) mode).1),xR true vg jH next,xR true zJ vT list_1,sF true G70 ra12 rc13 s.qF,sF true G67 ra10 rc11 s.qG,sF false xe qI qH p.qC,sF false FpFree apFree cpFree p.qL,sF false xx qV qM p.qB,sF false FsCells asCells csCells s.qG,sF false xw qR qQ s.qF]) ?_ ?_
      ·skip
       refine vH rfl H fun H=>rt 0 (.agg #[.int .i64 p.qJ,.slice qI p.qC.length qH,.slice apFree p.qL.length cpFree,.slice qV p.qB.length qM]) (yZ (cs:=[.int .i64 p.qJ,.slice qI p.qC.length qH,.slice apFree p.qL.length cpFree,.slice qV p.qB.length qM]) Tryz.isAgg37 Tryz.sizeOf37 rfl (fun _ h=>qN (h.cells 7 rfl) 0 4)) H ?_
       refine rtp 1 (.slice (some ⟨b97,0,none⟩) xC zk) H ?_
       refine rtp 2 (.int .i64 i) H ?_
       obtain ⟨ae107Cells,ce107Cells,Fe107Cells,ae107Around,ce107Around,Fe107Around,hx108,H⟩:=H.rowel_StockD 3 rfl 3 rfl (iv:=i) i qg qg
       have S:=H.zq [0,1,2,3,4,5,6,7] [2,3,4,5,6,7,8,9,10,11,12]
       refine tI 3 rfl rfl rfl S ?_
       refine rt 4 (.agg #[.slice ae107Cells (((list_1[i]!).qG).length) ce107Cells,.slice ae107Around (((list_1[i]!).qF).length) ce107Around]) (yZ (cs:=[.slice ae107Cells (((list_1[i]!).qG).length) ce107Cells,.slice ae107Around (((list_1[i]!).qF).length) ce107Around]) Tryz.isAgg39 Tryz.sizeOf39 rfl (fun _ h=>qN (fun j v hj=>h.rowGet 3 rfl (hx108 j v hj)) 0 2)) S ?_
       refine rtp 5 (.slice a92 ((((zG p (list[i]!) mode).1)[k]!).length) c93) S ?_
       refine yl [6,10] qi qo (r_op rfl ?_ (r_op rfl ?_ yt))
       ·skip
        have qc:=chr_mem p0 so hc (k:=k) qg
        have le:=inTo_pre k k1 i qg
        have so1:xE p (list_1[i]!):=by rw [le];exact so
        have sz112:=H.base.size
        have lt113:=H.ltN (L:=[rF79a,vg,zJ]) [3,4,5]
        refine oc (step_ok _ p (list_1[i]!) (((zG p (list[i]!) mode).1)[k]!) (H.get 8 rfl).1 (H.get 9 rfl).1 (H.get 10 rfl).1 (H.get 0 rfl).1 (H.get 1 rfl).1 (H.get 2 rfl).1 (by exact p0) (by first | exact p1 | assumption) qm) ?_
        rintro _ w110 ⟨ra109aCells,rn109aCells,rc109aCells,rx109aCells,rF109aCells,ra109aAround,rn109aAround,rc109aAround,rfl,M,K⟩ _
        replace N:=N.merge sz112 lt113 M
        replace H:=H.merge K M
        obtain rfl:=H.zy (α:=yLI) 0 rfl 0 rfl qj
        obtain rfl:=H.Qq 1 rfl
        refine ⟨H.pick [2,3,4,5,6,7,8,9] [3,4,5,6,7,8,9,10,11,12,13],?_⟩
        have S:=H.zq [2,3,4,5,6,7,8,9] [3,4,5,6,7,8,9,10,11,12,13]
        refine rtp 7 (.tuple #[.agg #[.slice ra109aCells ((((xk p (list_1[i]!) (((zG p (list[i]!) mode).1)[k]!)).1).qG).length) rc109aCells,.slice ra109aAround ((((xk p (list_1[i]!) (((zG p (list[i]!) mode).1)[k]!)).1).qF).length) rc109aAround],.int .i64 ((xk p (list_1[i]!) (((zG p (list[i]!) mode).1)[k]!)).2)]) S ?_
        refine rtp 8 (.agg #[.slice ra109aCells ((((xk p (list_1[i]!) (((zG p (list[i]!) mode).1)[k]!)).1).qG).length) rc109aCells,.slice ra109aAround ((((xk p (list_1[i]!) (((zG p (list[i]!) mode).1)[k]!)).1).qF).length) rc109aAround]) S ?_
        refine rtp 9 (.int .i64 ((xk p (list_1[i]!) (((zG p (list[i]!) mode).1)[k]!)).2)) S ?_
        refine ro 10 rfl (jq H ti39 [.slice none 0 0,.slice none 0 0] fun b116 w117 H=>⟨H.pick [3,4,5,6,7,8,9,10] [3,4,5,6,7,8,9,10,11,12,13],(ro 11 rfl (jC H 0 [.slice ra109aCells ((((xk p (list_1[i]!) (((zG p (list[i]!) mode).1)[k]!)).1).qG).length) rc109aCells,.slice ra109aAround ((((xk p (list_1[i]!) (((zG p (list[i]!) mode).1)[k]!)).1).qF).length) rc109aAround] Tryz.sizeOf39 fun w118 H=>⟨H.pick [3,4,5,6,7,8,9,10] [3,4,5,6,7,8,9,10,11,12,13],(rtp 12 (.int .i64 ((xk p (list_1[i]!) (((zG p (list[i]!) mode).1)[k]!)).2)) (H.pick [3,4,5,6,7,8,9,10] [3,4,5,6,7,8,9,10,11,12,13]) ?_)⟩))⟩)
        refine xI qi ((meet ⟨_,b116,ra109aCells,rc109aCells,ra109aAround,rc109aAround,rx109aCells,rF109aCells,uE11,N,H.pick [0,1,2,3,4,5,6,7,8,9,10] [0,4,5,6,7,8,9,10,11,12,13]⟩))
       ·skip
        refine jq H ti39 [.slice none 0 0,.slice none 0 0] fun b119 w120 H=>⟨H.pick [1,2,3,4,5,6,7,8] [2,3,4,5,6,7,8,9,10,11,12],(ro 6 rfl ?_)⟩
        have qc:=chr_mem p0 so hc (k:=k) qg
        have le:=inTo_pre k k1 i qg
        have so1:xE p (list_1[i]!):=by rw [le];exact so
        have sz124:=H.base.size
        have lt125:=H.ltN (L:=[rF79a,vg,zJ]) [3,4,5]
        refine oc (step_ok _ p (list_1[i]!) (((zG p (list[i]!) mode).1)[k]!) (H.get 8 rfl).1 (H.get 9 rfl).1 (H.get 10 rfl).1 (H.get 0 rfl).1 (H.get 1 rfl).1 (H.get 2 rfl).1 (by exact p0) (by first | exact p1 | assumption) qm) ?_
        rintro _ w122 ⟨ra121aCells,rn121aCells,rc121aCells,rx121aCells,rF121aCells,ra121aAround,rn121aAround,rc121aAround,rfl,M,K⟩ _
        replace N:=N.merge sz124 lt125 M
        replace H:=H.merge K M
        obtain rfl:=H.zy (α:=yLI) 0 rfl 0 rfl qj
        obtain rfl:=H.Qq 1 rfl
        refine ⟨H.pick [3,4,5,6,7,8,9,10] [3,4,5,6,7,8,9,10,11,12,13],?_⟩
        have S:=H.zq [3,4,5,6,7,8,9,10] [3,4,5,6,7,8,9,10,11,12,13]
        refine rtp 7 (.tuple #[.agg #[.slice ra121aCells ((((xk p (list_1[i]!) (((zG p (list[i]!) mode).1)[k]!)).1).qG).length) rc121aCells,.slice ra121aAround ((((xk p (list_1[i]!) (((zG p (list[i]!) mode).1)[k]!)).1).qF).length) rc121aAround],.int .i64 ((xk p (list_1[i]!) (((zG p (list[i]!) mode).1)[k]!)).2)]) S ?_
        refine rtp 8 (.agg #[.slice ra121aCells ((((xk p (list_1[i]!) (((zG p (list[i]!) mode).1)[k]!)).1).qG).length) rc121aCells,.slice ra121aAround ((((xk p (list_1[i]!) (((zG p (list[i]!) mode).1)[k]!)).1).qF).length) rc121aAround]) S ?_
        refine rtp 9 (.int .i64 ((xk p (list_1[i]!) (((zG p (list[i]!) mode).1)[k]!)).2)) S ?_
        refine ro 11 rfl (jC H 2 [.slice ra121aCells ((((xk p (list_1[i]!) (((zG p (list[i]!) mode).1)[k]!)).1).qG).length) rc121aCells,.slice ra121aAround ((((xk p (list_1[i]!) (((zG p (list[i]!) mode).1)[k]!)).1).qF).length) rc121aAround] Tryz.sizeOf39 fun w128 H=>⟨H.pick [3,4,5,6,7,8,9,10] [3,4,5,6,7,8,9,10,11,12,13],(rtp 12 (.int .i64 ((xk p (list_1[i]!) (((zG p (list[i]!) mode).1)[k]!)).2)) (H.pick [3,4,5,6,7,8,9,10] [3,4,5,6,7,8,9,10,11,12,13]) ?_)⟩)
        refine xI qi ((meet ⟨_,b119,ra121aCells,rc121aCells,ra121aAround,rc121aAround,rx121aCells,rF121aCells,uE11,N,H.pick [2,0,1,3,4,5,6,7,8,9,10] [0,4,5,6,7,8,9,10,11,12,13]⟩))
      ·skip
       clear H N
       rintro ρ w129 ⟨zn,b98,ra99,rc100,ra101,rc102,rx103,rF104,rfl,N,H⟩
       refine t_n (zcc (sps [.int .i64 ((xk p (list_1[i]!) (((zG p (list[i]!) mode).1)[k]!)).2),.bool (((xk p (list_1[i]!) (((zG p (list[i]!) mode).1)[k]!)).2:Int) != 0)] (zjn (xG (((xk p (list_1[i]!) (((zG p (list[i]!) mode).1)[k]!)).2:Int) != 0) rfl (fun h130=>?_) (fun h130=>?_)))))
       ·skip
        replace h130:=bne_iff_ne.1 h130
        have le:=inTo_pre k k1 i qg
        have hb0:=pstep_bad h130
        have hb:=hb0.1
        rw [le] at hb
        refine zcr (sps [.int .i64 ((xk p (list_1[i]!) (((zG p (list[i]!) mode).1)[k]!)).2),.slice none 0 0,.slice none 0 0,.int .i64 ((xk p (list_1[i]!) (((zG p (list[i]!) mode).1)[k]!)).2)] (zjr (t_r (zr5 (zr5 ?_)))))
        replace H:=H.nilRow 39 2
        replace H:=H.vY (α:=qY)
        replace H:=H.nilRow 22 1
        replace H:=H.vY (α:=yLI)
        refine ret3 (.slice none 0 0) (.slice none 0 0) (.int .i64 ((xk p (list_1[i]!) (((zG p (list[i]!) mode).1)[k]!)).2)) rfl rfl rfl rfl ⟨_,rfl,?_,H.base⟩
        rw [pg_no k0 (vG (Qi j1 qg (k:=k+1) (by rw [← hcr];omega) (inTo_bad (hcr▸k1) (hcr▸hb))) qg),hb0.2]
        exact ⟨none,0,0,[],[],none,0,0,[],[],rfl,(N.emp.emp.pick [0,1]),H.pick [1,0] [0,0]⟩
       ·skip
        replace h130:=xB h130
        have le:=inTo_pre k k1 i qg
        obtain ⟨hs,he⟩:=pstep_is h130
        rw [le] at hs
        have he2:(xk p (list_1[i]!) (((zG p (list[i]!) mode).1)[k]!)).1=(vJ p (list[i]!) (((zG p (list[i]!) mode).1)[k]!)):=he.trans (by rw [le])
        rw [he2] at H
        refine xf (t_n (zcr (sps [.slice (some ⟨b97,0,none⟩) xC zk,.func (.func 43) #[] #[.pointer (some ⟨b98,0,none⟩)]] (sw (jI #[.slice (some ⟨b97,0,none⟩) xC zk,.func (.func 43) #[] #[.pointer (some ⟨b98,0,none⟩)]] rfl rfl Tryz.call42 (en Tryz.func42 Tryz.ntmps42 ?_))))))
        refine zcr (sp (.int .i64 0) (zjcc (sp (.slice (some ⟨b97,0,none⟩) xC zk) (oN rfl (sp (.int .i64 0) (zjn (xm ?_)))))))
        refine zC (fun m' ρ w131=>∃ (zn:Env) (i_1:Nat),ρ=upd (upd (upd (upd zn 0 (.slice (some ⟨b97,0,none⟩) xC zk)) 1 (.func (.func 43) #[] #[.pointer (some ⟨b98,0,none⟩)])) 7 (.int .i64 xC)) 8 (.int .i64 i_1)∧((i_1:Int)≤xC)∧(noneTo (fun zz=>decide (list_1[zz]! =(vJ p (list[i]!) (((zG p (list[i]!) mode).1)[k]!)))) i_1)∧m' =(xC - (i_1:Int)).toNat∧Fresh w.heap.size [rF104,rF79a,vg,zJ]∧St w w131 [.box b98 [.slice ra99 (((vJ p (list[i]!) (((zG p (list[i]!) mode).1)[k]!)).qG).length) rc100,.slice ra101 (((vJ p (list[i]!) (((zG p (list[i]!) mode).1)[k]!)).qF).length) rc102] 39,rr ra99 (((vJ p (list[i]!) (((zG p (list[i]!) mode).1)[k]!)).qG).length) rc100 22 1 rx103,rr ra101 (((vJ p (list[i]!) (((zG p (list[i]!) mode).1)[k]!)).qF).length) rc102 2 1 (((vJ p (list[i]!) (((zG p (list[i]!) mode).1)[k]!)).qF).map (Value.int .i64)),rr a_own n_own c_own 2 1 (own.map (Value.int .i64)),rr (some ⟨b91,0,none⟩) (((zG p (list[i]!) mode).1).length) rc79a 22 1 rx79a,rr zU zN zT 22 1 jH,rr (some ⟨b97,0,none⟩) xC zk 39 2 vT,.box b9 [.slice ra10 ((s.qG).length) rc11,.slice ra12 ((s.qF).length) rc13] 39,rr (some ⟨b15,0,none⟩) p.qB.length p.qB.length 2 1 ((List.replicate p.qB.length (0:Int)).map (Value.int .i64)),.box b3 [.slice asCells s.qG.length csCells,.slice qR s.qF.length qQ] 39,.box b1 [.int .i64 p.qJ,.slice qI p.qC.length qH,.slice apFree p.qL.length cpFree,.slice qV p.qB.length qM] 37] [xR true rF104 rx103 ((vJ p (list[i]!) (((zG p (list[i]!) mode).1)[k]!)).qG),xR true rF79a rx79a ((zG p (list[i]!) mode).1),xR true vg jH next,xR true zJ vT list_1,sF true G70 ra12 rc13 s.qF,sF true G67 ra10 rc11 s.qG,sF false xe qI qH p.qC,sF false FpFree apFree cpFree p.qL,sF false xx qV qM p.qB,sF false FsCells asCells csCells s.qG,sF false xw qR qQ s.qF]) ((xC - (0:Int)).toNat) ⟨_,0,uE4,qg,qy,rfl,N,H⟩ ?_
        clear H N
        rintro m' ρ w132 ⟨zn,i_1,rfl,i0,i1,rfl,N,H⟩
        refine zcr (sp (.bool (decide ((i_1:Int) < xC))) (zjn (xP (cD rfl (fun h133=>?_) (fun h133=>?_)))))
        ·skip
         refine xf (t_n (xP (xm (zcr (sps [.int .i64 i_1,.int .i64 i_1] (zjc (sps [.func (.func 43) #[] #[.pointer (some ⟨b98,0,none⟩)],.slice (some ⟨b97,0,none⟩) xC zk,.int .i64 i_1] ?_)))))))
         obtain ⟨ae134Cells,ce134Cells,Fe134Cells,ae134Around,ce134Around,Fe134Around,hx135,H⟩:=H.rowel_StockD 6 rfl 3 rfl (iv:=i_1) i_1 qg qg
         refine oI rfl rfl (sw (zf [.slice ae134Cells (((list_1[i_1]!).qG).length) ce134Cells,.slice ae134Around (((list_1[i_1]!).qF).length) ce134Around] Tryz.isAgg39 Tryz.sizeOf39 rfl (qN (fun j v hj=>H.rowGet 6 rfl (hx135 j v hj)) 0 2) (sw (jI #[.agg #[.slice ae134Cells (((list_1[i_1]!).qG).length) ce134Cells,.slice ae134Around (((list_1[i_1]!).qF).length) ce134Around],.pointer (some ⟨b98,0,none⟩)] rfl rfl Tryz.call43 (en Tryz.func43 Tryz.ntmps43 ?_)))))
         refine zcr (sw (jA H [.slice ae134Cells (((list_1[i_1]!).qG).length) ce134Cells,.slice ae134Around (((list_1[i_1]!).qF).length) ce134Around] fun b136 w137 H=>sp (.bool false) (zjc (sw (zf [.slice ae134Cells (((list_1[i_1]!).qG).length) ce134Cells,.slice ae134Around (((list_1[i_1]!).qF).length) ce134Around] Tryz.isAgg39 Tryz.sizeOf39 rfl (qN (H.cells 0 rfl) 0 2) ?_)))))
         refine sw (zf [.slice ra99 (((vJ p (list[i]!) (((zG p (list[i]!) mode).1)[k]!)).qG).length) rc100,.slice ra101 (((vJ p (list[i]!) (((zG p (list[i]!) mode).1)[k]!)).qF).length) rc102] Tryz.isAgg39 Tryz.sizeOf39 rfl (qN (H.cells 1 rfl) 0 2) ?_)
         obtain ⟨G138,hn139,h140⟩:=H.rowIsR (α:=yLI) 2 rfl 2 rfl qj
         obtain ⟨G141,hn142,h143⟩:=H.rowIsI 3 rfl
         refine sw (oq (sameStock_ok _ (list_1[i_1]!) (vJ p (list[i]!) (((zG p (list[i]!) mode).1)[k]!)) (H.get 0 rfl).1 (H.get 1 rfl).1 h140 h143) H fun w145 H=>sp (.bool (decide ((list_1[i_1]!)=(vJ p (list[i]!) (((zG p (list[i]!) mode).1)[k]!))))) (zjr (ret1 (.bool (decide ((list_1[i_1]!)=(vJ p (list[i]!) (((zG p (list[i]!) mode).1)[k]!))))) rfl rfl ⟨_,rfl,?_⟩)))
         replace H:=H.erases [0]
         dsimp only [Qb,List.eraseIdx] at H
         refine zjn (cD rfl (fun h147=>?_) (fun h147=>?_))
         ·skip
          refine zcr (sps [.int .i64 i_1,.int .i64 i_1] (zjr (zr5 (ret1 (.int .i64 i_1) rfl rfl ⟨_,rfl,(sp (.int .i64 i_1) (zjcc (sps [.int .i64 i_1,.bool (decide ((i_1:Int) < 0))] (zjn (cD rfl (fun h148=>?_) (fun h148=>?_))))))⟩))))
          ·skip
           exfalso;omega
          ·skip
           have hf:=find_at i1 qg qm
           refine xf (t_n (zcc (sp (.slice (some ⟨b97,0,none⟩) xC zk) (oN rfl (sp (.bool (decide ((xC:Int) > 200))) (zjn (cD rfl (fun h149=>?_) (fun h149=>?_))))))))
           ·skip
            exfalso;omega
           ·skip
            refine xf (t_n (xJ (sps [.slice a_own n_own c_own,.int .i64 i_1] (sw (zu H Tryz.underlying22 ti2 [.int .i64 i_1] fun b150 w151 H=>sw (zA H 4 rfl 0 rfl Tryz.underlying22 ti2 rfl qj rfl rfl rfl qx qw qg fun a152 c153 w154 H=>?_))))))
            rw [snocI] at H
            refine sp (.slice a152 (n_own+1) c153) (xN (b_n (t_n (xJ (sw (xQ k 1 rfl rfl qg (sp (.int .i64 (k+1)) (xN (xg (m' :=((((zG p (list[i]!) mode).1).length) - ((k+1):Int)).toNat) qg ⟨_,(some ⟨b97,0,none⟩),xC,zk,list_1,vT,zJ,a152,n_own+1,c153,(own++[(i_1:Int)]),k+1,uE9,?_,?_,rfl,(N.pick [1,2,3]),H.pick [4,5,6,7,8,9,10,11] [3,4,5,6,7,8,9,10,11,12]⟩)))))))))
            · omega
            · first | (rw [← hf];exact inTo_old k1 hs qg) | (rw [hn_list];exact inTo_new k1 hs qg qg)
         ·skip
          refine xf (b_n (t_n (xJ (sw (xQ i_1 1 rfl rfl qg (sp (.int .i64 (i_1+1)) (xN (xg (m' :=(xC - ((i_1+1):Int)).toNat) qg ⟨_,i_1+1,uE4,?_,?_,rfl,N,H.pick [0,1,2,3,4,5,6,7,8,9,10] [2,3,4,5,6,7,8,9,10,11,12]⟩))))))))
          · omega
          · exact noneTo_succ i1 (decide_eq_false qm)
        ·skip
         refine zx4 (zcr (sp (.int .i64 (-1)) (zjr (ret1 (.int .i64 (-1)) rfl rfl ⟨_,rfl,(sp (.int .i64 (-1)) (zjcc (sps [.int .i64 (-1),.bool true] (zjn ?_))))⟩))))
         have hf:=find_not i1 qg
         refine xG true rfl (fun _=>zcr (sp (.slice (some ⟨b97,0,none⟩) xC zk) (oN rfl (sp (.int .i64 xC) (zjn (xJ (sp (.slice (some ⟨b97,0,none⟩) xC zk) (sw (zf [.slice ra99 (((vJ p (list[i]!) (((zG p (list[i]!) mode).1)[k]!)).qG).length) rc100,.slice ra101 (((vJ p (list[i]!) (((zG p (list[i]!) mode).1)[k]!)).qF).length) rc102] Tryz.isAgg39 Tryz.sizeOf39 rfl (qN (H.cells 0 rfl) 0 2) ?_))))))))) (fun h=>absurd h qj)
         refine sw (zu H Tryz.underlying32 ti39 [.slice ra99 (((vJ p (list[i]!) (((zG p (list[i]!) mode).1)[k]!)).qG).length) rc100,.slice ra101 (((vJ p (list[i]!) (((zG p (list[i]!) mode).1)[k]!)).qF).length) rc102] fun b155 w156 H=>?_)
         have H0:=H
         obtain ⟨G160,hg162,hn161,H⟩:=H.QA (α:=yLI) 2 rfl 0 rfl qj
         replace N:Fresh w.heap.size [G160,rF79a,vg,zJ]:=Fresh.ice N H0 2 hg162.1 hg162.2 (H0.jG [1,2,3])
         clear H0
         obtain ⟨G163,N,hn164,H⟩:=H.vF 3 rfl N (H.jG [0,2,3,4])
         refine sw (zA H 7 rfl 0 rfl Tryz.underlying32 ti39 rfl qj rfl rfl rfl qx qw qg fun a157 c158 w159 H=>?_)
         replace H:=H.snoc_StockD 5 rfl 1 rfl 0 rfl
         replace N:Fresh w.heap.size [(zJ++(G160++G163)),rF79a,vg]:=(N.pick [1,0,4,2,3]).join.swap.join
         refine sp (.slice a157 (xC+1) c158) (zjcc (sp (.slice a157 (xC+1) c158) (oN rfl (sp (.bool (decide ((xC+1:Int) > 200))) (zjn (cD rfl (fun h165=>?_) (fun h165=>?_)))))))
         ·skip
          refine zcr (sps [.slice none 0 0,.slice none 0 0,.int .i64 3] (zjr (t_r (zr5 (zr5 ?_)))))
          replace H:=H.nilRow 39 2
          replace H:=H.vY (α:=qY)
          replace H:=H.nilRow 22 1
          replace H:=H.vY (α:=yLI)
          refine ret3 (.slice none 0 0) (.slice none 0 0) (.int .i64 3) rfl rfl rfl rfl ⟨_,rfl,?_,H.base⟩
          rw [pg_no k0 (vG (Qi j1 qg (k:=k+1) (by rw [← hcr];omega) (hcr▸inTo_many k1 hs qg qg)) qg)]
          exact ⟨none,0,0,[],[],none,0,0,[],[],rfl,(N.emp.emp.pick [0,1]),H.pick [1,0] [0,0]⟩
         ·skip
          refine xf (t_n (xJ (sps [.slice a_own n_own c_own,.int .i64 xC] (sw (zu H Tryz.underlying22 ti2 [.int .i64 xC] fun b166 w167 H=>sw (zA H 5 rfl 0 rfl Tryz.underlying22 ti2 rfl qj rfl rfl rfl qx qw qg fun a168 c169 w170 H=>?_))))))
          rw [snocI] at H
          refine sp (.slice a168 (n_own+1) c169) (xN (b_n (t_n (xJ (sw (xQ k 1 rfl rfl qg (sp (.int .i64 (k+1)) (xN ?_))))))))
          refine xg (m' :=((((zG p (list[i]!) mode).1).length) - ((k+1):Int)).toNat) qg ⟨_,a157,xC+1,c158,(list_1++[⟨(vJ p (list[i]!) (((zG p (list[i]!) mode).1)[k]!)).qG,(vJ p (list[i]!) (((zG p (list[i]!) mode).1)[k]!)).qF⟩]),vT++[.slice ra99 (((vJ p (list[i]!) (((zG p (list[i]!) mode).1)[k]!)).qG).length) rc100,.slice ra101 (((vJ p (list[i]!) (((zG p (list[i]!) mode).1)[k]!)).qF).length) rc102],(zJ++(G160++G163)),a168,n_own+1,c169,(own++[(xC:Int)]),k+1,uE9,?_,?_,rfl,(N.pick [1,2,0]),H.pick [5,6,7,8,9,10,11,12] [4,5,0,7,8,9,10,11,12,13]⟩
          · omega
          · first | (rw [← hf];exact inTo_old k1 hs qg) | (rw [hn_list];exact inTo_new k1 hs qg qg)
     ·skip
      refine zx4 (xJ (sps [.slice zU zN zT,.slice a_own n_own c_own] (sw (jI #[.slice a_own n_own c_own] rfl rfl Tryz.call45 (en Tryz.func45 Tryz.ntmps45 ?_)))))
      refine zcr (sp (.slice none 0 0) (zjc (sp (.slice a_own n_own c_own) ?_)))
      have sl172:=sortI_len own
      refine sw (o_callF #[.slice a_own n_own c_own] rfl rfl Tryz.call77 (sortRowI sortLI H 0 rfl (by first | omega | (simp only [List.length_append,List.length_cons,List.length_nil];omega))) ?_)
      rintro _ w171 ⟨rfl,H⟩
      refine zjc (sp (.slice a_own n_own c_own) (sw (o_callF #[.slice a_own n_own c_own] rfl rfl Tryz.call78 (compSortRow compLI H 0 rfl) ?_)))
      rintro _ w173 ⟨rfl,H⟩
      refine sp (.slice a_own ((yD own).length) c_own) (zjr (ret1 (.slice a_own ((yD own).length) c_own) rfl rfl ⟨_,rfl,(sw (zu H Tryz.underlying27 ti22 [.slice a_own ((yD own).length) c_own] fun b174 w175 H=>?_))⟩))
      obtain ⟨G179,N,hn180,H⟩:=H.vF 1 rfl N (H.jG [0,1,2])
      refine sw (zA H 3 rfl 0 rfl Tryz.underlying27 ti22 rfl qj rfl rfl rfl qx qw qg fun a176 c177 w178 H=>?_)
      replace H:=H.jo 2 rfl 0 rfl
      replace N:Fresh w.heap.size [(vg++G179),rF79a,zJ]:=(N.pick [2,0,1,3]).join
      refine sp (.slice a176 (zN+1) c177) (xN (b_n (t_n (xJ (sp (.int .i64 i) (sw (xQ i 1 rfl rfl qg (sp (.int .i64 (i+1)) (xN (xg (m' :=200 - (i+1)) qg ⟨_,a_list_1,xC,zk,list_1,vT,zJ,a176,zN+1,c177,(next++[(yD own)]),jH++[.slice a_own ((yD own).length) c_own],(vg++G179),i+1,uE5,?_,?_,rfl,(N.pick [2,0]),H.pick [3,4,5,6,7,8] [0,4,5,6,7,8,9,10,11]⟩))))))))))
      · exact outTo_next j1 qg (ch_ok hc).1 (hcr▸(show k=(zG p (list[i]!) mode).1.length by omega)▸k1)
      · omega
   ·skip
    refine zx4 (zcr (sps [.slice yP vO jB,.slice zU zN zT,.slice yP vO jB,.slice zU zN zT,.int .i64 0] (zjr (ret3 (.slice yP vO jB) (.slice zU zN zT) (.int .i64 0) rfl rfl rfl rfl ⟨_,rfl,?_,H.base⟩))))
    rw [pg_ok k0 (graph_end j1 qg qg)]
    exact ⟨yP,vO,jB,x_list,F_list,zU,zN,zT,jH,vg,rfl,N,H.pick [1,0] [1,0]⟩
end
section
set_option linter.unusedVariables false
variable {p : qW} {s : qY} {mode cell : Int}
def yC (l:List qY) (nx:yLL):Nat→List qY
  | 0=>[]
  | i+1=>if (nx[i]!).length=0 then yC l nx i++[l[i]!] else yC l nx i
theorem rest_yes {l:List qY} {nx:yLL} {i:Nat} (h:(nx[i]!).length=0):yC l nx i++[l[i]!]=yC l nx (i+1):=by rw [yC,if_pos h]
theorem rest_no {l:List qY} {nx:yLL} {i:Nat} (h:¬ (nx[i]!).length=0):yC l nx i=yC l nx (i+1):=by rw [yC,if_neg h]
theorem rest_len (l:List qY) (nx:yLL):∀ i,(yC l nx i).length≤i
  | 0=>Nat.le_refl _
  | i+1=>by
    have:=rest_len l nx i
    rw [yC]
    split
    · simp;omega
    · omega
theorem rest_ok {l:List qY} {nx:yLL} (h:∀ j,j < l.length→xE p (l[j]!)):∀ i,i≤l.length→∀ k,k < (yC l nx i).length→xE p ((yC l nx i)[k]!)
  | 0,_,k,hk=>by simp [yC] at hk
  | i+1,hi,k,hk=>by
    have ih:=rest_ok (nx:=nx) h i qg
    rw [yC] at hk ⊢
    split at hk
    · rename_i e
      rw [if_pos e]
      by_cases e2:k < (yC l nx i).length
      · have:=ih k e2
        simp only [List.getElem!_eq_getElem?_getD] at this ⊢
        rwa [List.getElem?_append_left e2]
      · have:k=(yC l nx i).length:=by simp at hk;omega
        subst this
        have e3:(yC l nx i++[l[i]!])[(yC l nx i).length]! =l[i]! :=by simp [List.getElem!_eq_getElem?_getD]
        rw [e3];exact h i qg
    · rename_i e
      rw [if_neg e];exact ih k hk
noncomputable def rsRes (p:qW) (s:qY) (mode:Int):List qY×Bool:=match pGraph p s mode with | some (l,nx)=>(yC l nx l.length,true) | none=>([],false)
theorem rs_ok {l:List qY} {nx:yLL} (h:pGraph p s mode=some (l,nx)):rsRes p s mode=(yC l nx l.length,true):=by unfold rsRes;rw [h]
theorem rs_no (h:pGraph p s mode=none):rsRes p s mode=([],false):=by unfold rsRes;rw [h]
theorem rs_all (hs:xE p s):(rsRes p s mode).1.length≤200∧∀ k,k < (rsRes p s mode).1.length→xE p ((rsRes p s mode).1[k]!):=by
  cases hg:pGraph p s mode with
  | none=>rw [rs_no hg];exact ⟨Nat.zero_le _,fun k hk=>by simp at hk⟩
  | some x=>
    obtain ⟨l,nx⟩:=x
    rw [rs_ok hg]
    exact ⟨Nat.le_trans (rest_len l nx _) (outTo_len 200 hg).2.1,rest_ok (outTo_ok hs 200 hg) _ (Nat.le_refl _)⟩
noncomputable def zl (p:qW) (s:qY) (mode:Int):List qY×Int:=if (zY p s mode).2.2=0 then (yC (zY p s mode).1 (zY p s mode).2.1 (zY p s mode).1.length,0) else ([],(zY p s mode).2.2)
theorem rt_0 (h:(zY p s mode).2.2=0) {i:Nat} (hi:i=(zY p s mode).1.length):zl p s mode=(yC (zY p s mode).1 (zY p s mode).2.1 i,0):=by subst hi;exact if_pos h
theorem rt_c (h:(zY p s mode).2.2≠0):zl p s mode=([],(zY p s mode).2.2):=if_neg h
theorem rt_code (h:yY p s mode≠0):zl p s mode=([],yY p s mode):=by
  have e:=pg_code h
  rw [rt_c (by rw [e];exact h),e]
theorem rt_lim (h:yY p s mode=0) (h2:(rsRes p s mode).2=false):zl p s mode=([],3):=by
  cases hg:pGraph p s mode with
  | none=>
    have e:=pg_no h hg
    rw [rt_c (by rw [e];decide),e]
  | some x=>rw [rs_ok hg] at h2;cases h2
theorem rt_ok (h:yY p s mode=0) (h2:(rsRes p s mode).2=true):zl p s mode=((rsRes p s mode).1,0):=by
  cases hg:pGraph p s mode with
  | none=>rw [rs_no hg] at h2;cases h2
  | some x=>
    have e:=pg_ok h hg
    rw [rt_0 (by rw [e]) rfl,e,rs_ok hg]
theorem pg_all (h:(zY p s mode).2.2=0):yY p s mode=0∧(zY p s mode).1.length≤200∧(zY p s mode).2.1.length=(zY p s mode).1.length:=by
  by_cases hm:yY p s mode=0
  · cases hg:pGraph p s mode with
    | none=>rw [pg_no hm hg] at h;cases h
    | some x=>
      obtain ⟨l,nx⟩:=x
      rw [pg_ok hm hg]
      have o1:=outTo_len 200 hg
      have o2:=outTo_nx 200 hg
      have o3:=outTo_full hg
      exact ⟨hm,o1.2.1,Nat.le_antisymm o2 o3⟩
  · rw [pg_code hm] at h;exact absurd h hm
theorem rt_all:(zl p s mode).1.length≤200∧((zl p s mode).2=0→yY p s mode=0)∧(yY p s mode=0→∀ k,k < (zl p s mode).1.length→xE p ((zl p s mode).1[k]!)):=by
  by_cases hm:yY p s mode=0
  · have hs:=(mcode_ok hm).2.1
    cases h2:(rsRes p s mode).2 with
    | false=>rw [rt_lim hm h2];exact ⟨by simp,fun h=>absurd h qj,fun _ k hk=>by simp at hk⟩
    | true=>
      have e:=rt_ok hm h2
      have ra:=rs_all (mode:=mode) hs
      rw [e]
      dsimp only
      exact ⟨ra.1,fun _=>hm,fun _=>ra.2⟩
  · have e:=rt_code hm
    exact ⟨by rw [e];simp,fun h=>by rw [e] at h;exact h,fun h=>absurd h hm⟩
theorem few_rt (p:qW) (s:qY) (mode:Int):cnt (zl p s mode).1≤8000:=by
  have h:=rt_all (p:=p) (s:=s) (mode:=mode)
  by_cases hm:yY p s mode=0
  · exact cnt_bd (n:=40) (m:=200) h.1 fun k hk=>cnt_stock (mcode_ok hm).1 (h.2.2 hm k hk)
  · rw [rt_code hm];exact Nat.zero_le _
end
section
open Go.RowKit
def cellsF (B:yLN) (v:Value) (xs:List Value):Fact where
  F:=B
  φ:=fun w=>xs=[]∨∃ b o m c,v=.slice (some ⟨b,o,none⟩) m c∧B=[b]∧zI w b o xs
  stay:=by
    rintro w w' (h | ⟨b,o,m,c,h1,h2,h3⟩) hs
    · exact Or.inl h
    · exact Or.inr ⟨b,o,m,c,h1,h2,cellsAt_stay h3 (hs b (by simp [h2]))⟩

section
variable {W0 w : World} {ps : List Prv} {Γ : List Fact} {L : List yLN}
theorem St.pool {α:Type} [qU α] (H:St W0 w ps Γ) (i:Nat) {F:yLN} {v:Value} {l:List α} (hf:Γ[i]? =some (isF true F v l)) (N:Fresh W0.heap.size (F :: L)):
    ∃ (xs:List Value) (B P:yLN),Fresh W0.heap.size (P :: L)∧St W0 w ps (xR true P (xs.drop (0 * qU.size α)) (l.drop 0) :: cellsF B v xs :: Γ):=by
  obtain ⟨⟨a,cap,hc,_,h⟩,hfr⟩:=H.get i hf
  simp only [List.cons.injEq,and_true] at hc
  rcases h with ⟨hl,hF⟩ | ⟨b,o,F',vs,ha,hF,_,hr,hcl⟩
  · refine ⟨[],[],[],N.less qo qo,?_⟩
    subst hl
    exact (H.add (cellsF [] v []) (Or.inl rfl) (by simp [cellsF])).add _ ⟨by simp [reps],fun _=>zt.nil _⟩ (by simp [xR])
  · refine ⟨vs,[b],F',N.less (fun x hx=>by rw [hF];simp [hx]) (fun hn=>by rw [hF] at hn;exact (List.nodup_cons.1 hn).2),?_⟩
    have h1:=H.yx i hf (cellsF [b] v vs) (Or.inr ⟨b,o,l.length,cap,by rw [hc,ha],rfl,hcl⟩) (fun x hx=>by have hx:x∈[b]:=hx;show x∈F;rw [hF];simp at hx;simp [hx])
    refine h1.yx (i+1) hf (xR true F' (vs.drop (0 * qU.size α)) (l.drop 0)) ⟨?_,fun _=>(hfr rfl).sub fun x hx=>by rw [hF];simp [hx]⟩ fun x hx=>by have hx:x∈F' :=hx;show x∈F;rw [hF];simp [hx]
    rw [Nat.zero_mul];exact hr
theorem St.drain {α:Type} [qU α] [Inhabited α] (H:St W0 w ps Γ) (j:Nat) {B:yLN} {b o m c:Nat} {xs:List Value} (hx:Γ[j]? =some (cellsF B (.slice (some ⟨b,o,none⟩) m c) xs)) (i:Nat) {P:yLN} {l:List α} {k0:Nat}
    (hf:Γ[i]? =some (xR true P (xs.drop (k0 * qU.size α)) (l.drop k0))) (N:Fresh W0.heap.size (P :: L)) (hz:0 < qU.size α) (k:Nat) (h0:k0≤k) (hk:k < l.length):
    ∃ cs G P',zI w b (o+k * qU.size α) cs∧qU.rep w G cs (l[k]!)∧zt w G∧(∀ x∈G,x∈P)∧b∈B∧Fresh W0.heap.size (G :: P' :: L)∧(∀ x∈P',x∈P)∧reps w P' (xs.drop ((k+1) * qU.size α)) (l.drop (k+1))∧zt w P' :=by
  obtain ⟨d,rfl⟩:∃ d,k=k0+d:=⟨k - k0,by omega⟩
  obtain ⟨hr,hfr⟩:=H.get i hf
  obtain ⟨F1,Fk,F2,v1,cs,v2,hP,hv,hv1,hcs,hrep,_,h2⟩:=reps_get hr d (by rw [List.length_drop];omega)
  have hlen:=congrArg List.length hv
  simp only [List.length_append,List.length_drop] at hlen
  have e1:(k0+d+1) * qU.size α=k0 * qU.size α+(d * qU.size α+qU.size α):=by rw [Nat.add_mul,Nat.add_mul,Nat.one_mul];omega
  have e2:(k0+d) * qU.size α=k0 * qU.size α+d * qU.size α:=Nat.add_mul ..
  have hxs:xs.take (k0 * qU.size α)++v1++cs++v2=xs:=by rw [List.append_assoc,List.append_assoc,← List.append_assoc v1,← hv,List.take_append_drop]
  have hgl:(l.drop k0)[d]'(by rw [List.length_drop];omega)=l[k0+d]! :=by rw [List.getElem_drop,getElem!_pos l _ hk]
  rw [hgl] at hrep
  obtain ⟨m',c',hB,hcl⟩:∃ m' c' :Nat,B=[b]∧zI w b o xs:=by
    rcases H.get j hx with h | ⟨b',o',m',c',h1,h2',h3⟩
    · rw [h] at hlen;simp at hlen;omega
    · simp only [Value.slice.injEq,Option.some.injEq,Addr.mk.injEq,and_true] at h1
      obtain ⟨⟨rfl,rfl⟩,_⟩:=h1
      exact ⟨m',c',h2',h3⟩
  have hd:(l.drop k0).drop (d+1)=l.drop (k0+d+1):=by rw [List.drop_drop];congr 1
  rw [hd] at h2
  have hv2:xs.drop ((k0+d+1) * qU.size α)=v2:=by
    rw [e1,← List.drop_drop,hv,List.drop_append,List.drop_of_length_le (by simp only [List.length_append];omega),List.nil_append]
    simp only [List.length_append]
    rw [show d * qU.size α+qU.size α - (v1.length+cs.length)=0 by omega];rfl
  have hndP:P.Nodup:=N.nd P qo
  have hsub:∀ x∈Fk++F2,x∈P:=fun x hx=>by
    rw [hP,List.append_assoc];exact List.mem_append_right _ hx
  refine ⟨cs,Fk,F2,?_,hrep,(hfr rfl).sub fun x hx=>hsub x (by simp [hx]),fun x hx=>hsub x (by simp [hx]),by simp [hB],(N.less hsub fun hn=>?_).split,fun x hx=>hsub x (by simp [hx]),by rw [hv2];exact h2,(hfr rfl).sub fun x hx=>hsub x (by simp [hx])⟩
  · rw [← hxs] at hcl
    have:=cells_mid hcl
    rw [List.length_append,hv1,List.length_take_of_le qg,← e2] at this
    exact this
  · rw [hP,List.append_assoc] at hn;exact (List.nodup_append.1 hn).2.1

theorem St.drain_StockD (H:St W0 w ps Γ) (j:Nat) {B:yLN} {b o m c:Nat} {xs:List Value} (hx:Γ[j]? =some (cellsF B (.slice (some ⟨b,o,none⟩) m c) xs)) (i:Nat) {P:yLN} {l:List qY} {k0:Nat}
    (hf:Γ[i]? =some (xR true P (xs.drop (k0 * 2)) (l.drop k0))) (N:Fresh W0.heap.size (P :: L)) (iv:Int) (k:Nat) (hi:iv.toNat=k) (h0:k0≤k) (hk:k < l.length):
    ∃ (aA:yOA) (cA:Nat) (FA:yLN) (aB:yOA) (cB:Nat) (FB P' :yLN),Fresh W0.heap.size (FA :: FB :: P' :: L)∧
      St W0 w ps (isF true FA (.slice aA ((l[k]!).qG.length) cA) ((l[k]!).qG) :: isF true FB (.slice aB ((l[k]!).qF.length) cB) ((l[k]!).qF) ::
        atF b (o+iv.toNat * 2) [.slice aA ((l[k]!).qG.length) cA,.slice aB ((l[k]!).qF.length) cB] :: xR true P' (xs.drop ((k+1) * 2)) (l.drop (k+1)) :: Γ):=by
  subst hi
  obtain ⟨cs,G,P',hc,hr,hfr,hsub,hB,N',hs2,h2,hf2⟩:=St.drain (α:=qY) H j hx i hf N (show 0 < 2 by decide) iv.toNat h0 hk
  obtain ⟨vA,vB,FA,FB,rfl,hFF,hA,hBb⟩:=id hr
  obtain ⟨aA,cA,rfl⟩:=slice_form hA
  obtain ⟨aB,cB,rfl⟩:=slice_form hBb
  subst hFF
  have s1:=H.yx i hf (xR true P' (xs.drop ((iv.toNat+1) * 2)) (l.drop (iv.toNat+1))) ⟨h2,fun _=>hf2⟩ hs2
  have s2:=s1.yx (j+1) hx (atF b (o+iv.toNat * 2) [.slice aA _ cA,.slice aB _ cB]) hc (fun x hx=>by have hx:x∈[b]:=hx;simp at hx;subst hx;exact hB)
  have s4:=s2.yx (i+2) hf (isF true FB _ ((l[iv.toNat]!).qF)) ⟨hBb,fun _=>hfr.sub fun x hx=>by simp [hx]⟩ (fun x hx=>hsub x (by have hx:x∈FB:=hx;simp [hx]))
  exact ⟨aA,cA,FA,aB,cB,FB,P',N'.split,s4.yx (i+3) hf (isF true FA _ ((l[iv.toNat]!).qG)) ⟨hA,fun _=>hfr.sub fun x hx=>by simp [hx]⟩ (fun x hx=>hsub x (by have hx:x∈FA:=hx;simp [hx]))⟩
end
end
section
open Go.RowKit
set_option linter.unusedVariables false
set_option linter.unusedSimpArgs false
set_option maxRecDepth 100000
set_option maxHeartbeats 4000000
variable {qH cpFree qM csCells qQ : Nat}
theorem l06Rest_ok (w:World) (p:qW) (s:qY) (mode:Int) {bp op:Nat} {qI:yOA} {xe:yLN} {apFree:yOA} {FpFree:yLN} {qV:yOA} {xx:yLN} {bs os:Nat} {asCells:yOA} {FsCells:yLN} {qR:yOA} {xw:yLN} (hp:zI w bp op [.int .i64 p.qJ,.slice qI p.qC.length qH,.slice apFree p.qL.length cpFree,.slice qV p.qB.length qM]) (qX:qU.rep w xe [.slice qI p.qC.length qH] p.qC) (hpFree:qU.rep w FpFree [.slice apFree p.qL.length cpFree] p.qL) (xq:qU.rep w xx [.slice qV p.qB.length qM] p.qB) (hs:zI w bs os [.slice asCells s.qG.length csCells,.slice qR s.qF.length qQ]) (hsCells:qU.rep w FsCells [.slice asCells s.qG.length csCells] s.qG) (xA:qU.rep w xw [.slice qR s.qF.length qQ] s.qF) (p0:zh p) (p1:xE p s):Calls Tryz.prog 51 #[.pointer (some ⟨bp,op,none⟩),.pointer (some ⟨bs,os,none⟩),.int .i64 mode] w (Ret (fun v w' =>∃ (ra0:yOA) (rc0:Nat) (rF0:yLN),v=.tuple #[.slice ra0 (((rsRes p s mode).1).length) rc0,.bool ((rsRes p s mode).2)]∧Fresh w.heap.size [rF0]∧St w w' [] [sF true rF0 ra0 rc0 ((rsRes p s mode).1)]) w):=by
 refine en Tryz.func51 Tryz.ntmps51 ?_
 have H:=(((((((St.start w).arg xA).arg hsCells).argAt hs).arg xq).arg hpFree).arg qX).argAt hp
 have zF:=qO qX
 have nhpFree:=qO hpFree
 have vK:=qO xq
 have nhsCells:=qO hsCells
 have vZ:=qO xA
 clear hp qX hpFree xq hs hsCells xA
 have N:=Fresh.nil w.heap.size
 refine zcr (sps [.slice none 0 0,.bool false] (zjc (sps [.pointer (some ⟨bp,op,none⟩),.pointer (some ⟨bs,os,none⟩),.int .i64 mode] (sw (jI #[.pointer (some ⟨bp,op,none⟩),.pointer (some ⟨bs,os,none⟩),.int .i64 mode] rfl rfl Tryz.call34 (en Tryz.func34 Tryz.ntmps34 ?_))))))
 refine zcr (sps [.slice none 0 0,.slice none 0 0,.bool false] (zjc (sp (.pointer (some ⟨bs,os,none⟩)) ?_)))
 have w1:=p1.1
 have w2:=p0.1.2.1.2
 have w3:=p1.2.1.1.2
 have w4:∀ k,k < s.qG.length→(s.qG[k]!).length≤1000000:=fun k hk=>by have:=(p1.2.2.1 k hk).1.2;omega
 have sz4:=H.base.size
 refine sw (oc (l06OwnStock_ok _ s (qN (H.get 4 rfl) 0 2) (H.get 5 rfl).1 (H.get 6 rfl).1 qh qh qh) ?_)
 rintro _ w2 ⟨ra1Cells,rn1Cells,rc1Cells,rx1Cells,rF1Cells,ra1Around,rn1Around,rc1Around,rfl,M,K⟩ _
 replace N:=N.merge sz4 qo M
 replace H:=H.merge K M
 obtain rfl:=H.zy (α:=yLI) 0 rfl 0 rfl qj
 obtain rfl:=H.Qq 1 rfl
 refine sw (zu H Tryz.underlying32 ti39 [.slice ra1Cells s.qG.length rc1Cells,.slice ra1Around s.qF.length rc1Around] fun b8 w9 H=>sp (.slice (some ⟨b8,0,none⟩) 1 1) (zjc (sw (jY H Tryz.underlying27 ti22 fun b10 w11 H=>sp (.slice (some ⟨b10,0,none⟩) 0 0) (zjcc (sp (.int .i64 0) (zjn (xm ?_))))))))
 replace H:=H.boxRow 1 rfl 2 1 rfl qj
 replace H:=H.vY (α:=qY)
 have H0:=H
 obtain ⟨G12,hg14,hn13,H⟩:=H.QA (α:=yLI) 2 rfl 1 rfl qj
 replace N:Fresh w.heap.size [G12]:=Fresh.ice N H0 2 hg14.1 hg14.2 (H0.jG [])
 clear H0
 obtain ⟨G15,N,hn16,H⟩:=H.vF 3 rfl N (H.jG [0])
 replace H:=H.snoc_StockD 2 rfl 1 rfl 0 rfl
 replace N:Fresh w.heap.size [([]++(G12++G15))]:=(N.emp.pick [2,1,0]).join.swap.join
 replace H:St _ _ [.box b10 [] 22,rr (some ⟨b8,0,none⟩) 1 1 39 2 [.slice ra1Cells s.qG.length rc1Cells,.slice ra1Around s.qF.length rc1Around],rr none 0 0 0 1 [],rr none 0 0 0 1 []] [xR true ([]++(G12++G15)) [.slice ra1Cells s.qG.length rc1Cells,.slice ra1Around s.qF.length rc1Around] [s],sF true G15 ra1Around rc1Around s.qF,sF true G12 ra1Cells rc1Cells s.qG,xR true [] [] ([]:List qY),xR true rF1Cells rx1Cells s.qG,atF bp op [.int .i64 p.qJ,.slice qI p.qC.length qH,.slice apFree p.qL.length cpFree,.slice qV p.qB.length qM],sF false xe qI qH p.qC,sF false FpFree apFree cpFree p.qL,sF false xx qV qM p.qB,atF bs os [.slice asCells s.qG.length csCells,.slice qR s.qF.length qQ],sF false FsCells asCells csCells s.qG,sF false xw qR qQ s.qF]:=H
 replace H:=H.boxRow 0 rfl 1 0 rfl qj
 replace H:=H.vY (α:=yLI)
 refine zC (fun m' ρ w17=>∃ (zn:Env) (yP:yOA) (vO:Nat) (jB:Nat) (list:List qY) (x_list:List Value) (F_list:yLN) (zU:yOA) (zN:Nat) (zT:Nat) (next:yLL) (jH:List Value) (vg:yLN) (i:Nat),ρ=upd (upd (upd (upd (upd zn 0 (.pointer (some ⟨bp,op,none⟩))) 2 (.int .i64 mode)) 9 (.slice yP vO jB)) 10 (.slice zU zN zT)) 11 (.int .i64 i)∧(yS p s mode i=some (list,next))∧(i≤list.length)∧m' =(200 - (i:Int)).toNat∧Fresh w.heap.size [F_list,vg]∧St w w17 [rr zU zN zT 22 1 jH,rr yP vO jB 39 2 x_list] [xR true vg jH next,xR true F_list x_list list,atF bp op [.int .i64 p.qJ,.slice qI p.qC.length qH,.slice apFree p.qL.length cpFree,.slice qV p.qB.length qM],sF false xe qI qH p.qC,sF false FpFree apFree cpFree p.qL,sF false xx qV qM p.qB,atF bs os [.slice asCells s.qG.length csCells,.slice qR s.qF.length qQ],sF false FsCells asCells csCells s.qG,sF false xw qR qQ s.qF]) ((200 - (0:Int)).toNat) ⟨_,(some ⟨b8,0,none⟩),1,1,[s],[.slice ra1Cells s.qG.length rc1Cells,.slice ra1Around s.qF.length rc1Around],([]++(G12++G15)),(some ⟨b10,0,none⟩),0,0,([]:yLL),[],[],0,uE5,(by rfl),(by exact Nat.zero_le _),rfl,(N.emp.pick [1,0]),H.pick [0,1] [0,1,6,7,8,9,10,11,12]⟩ ?_
 clear H N
 rintro m' ρ w18 ⟨zn,yP,vO,jB,list,x_list,F_list,zU,zN,zT,next,jH,vg,i,rfl,j1,j0,rfl,N,H⟩
 have hn_list:=H.zy (α:=qY) 1 rfl 1 rfl qj
 have hn_next:=H.zy (α:=yLI) 0 rfl 0 rfl qj
 have oo:=outTo_ok p1 i j1
 obtain ⟨ol1,ol2,ol3⟩:=outTo_len i j1
 have ol4:=ol3 j0
 refine zcc (sps [.int .i64 i,.slice yP vO jB] (oN rfl (sp (.bool (decide ((i:Int) < vO))) (zjn (cD rfl (fun h19=>?_) (fun h19=>?_))))))
 ·skip
  refine xf (t_n (xP (xm (zcr (sps [.pointer (some ⟨bp,op,none⟩),.slice yP vO jB,.int .i64 i] ?_)))))
  obtain ⟨b20,rfl⟩:=H.yj 1 rfl qg
  obtain ⟨ae21Cells,ce21Cells,Fe21Cells,ae21Around,ce21Around,Fe21Around,hx22,H⟩:=H.rowel_StockD 1 rfl 1 rfl (iv:=i) i qg qg
  refine oI rfl rfl (sp (.int .i64 mode) ?_)
  have so:=oo i qg
  have sz26:=H.base.size
  have lt27:=H.ltN (L:=[F_list,vg]) [3,2]
  refine sw (oc (l06Choices_ok _ p (list[i]!) mode (qN (H.get 4 rfl) 0 4) (H.get 5 rfl).1 (H.get 6 rfl).1 (H.get 7 rfl).1 (qN (fun j v hj=>H.rowGet 1 rfl (hx22 j v hj)) 0 2) (H.get 0 rfl).1 (H.get 1 rfl).1 (by exact p0) (by first | exact p1 | assumption)) ?_)
  rintro _ w24 ⟨ra23a,rn23a,rc23a,rx23a,rF23a,rfl,M,K⟩ _
  replace N:=N.merge sz26 lt27 M
  replace H:=H.merge K M
  obtain rfl:=H.zy (α:=yLI) 0 rfl 0 rfl qj
  refine sps [.tuple #[.slice ra23a (((xh p (list[i]!) mode).2).length) rc23a,.bool (decide ((xh p (list[i]!) mode).1≤1500))],.slice ra23a (((xh p (list[i]!) mode).2).length) rc23a,.bool (decide ((xh p (list[i]!) mode).1≤1500)),.slice ra23a (((xh p (list[i]!) mode).2).length) rc23a,.bool (decide ((xh p (list[i]!) mode).1≤1500))] (zjcc (sps [.bool (decide ((xh p (list[i]!) mode).1≤1500)),.bool (!(decide ((xh p (list[i]!) mode).1≤1500)))] (zjn (xG (!(decide ((xh p (list[i]!) mode).1≤1500))) rfl (fun h29=>?_) (fun h29=>?_)))))
  ·skip
   replace h29:=xy h29
   replace h29:=of_decide_eq_false h29
   refine zcr (sps [.slice (some ⟨b20,0,none⟩) vO jB,.slice zU zN zT,.slice (some ⟨b20,0,none⟩) vO jB,.slice zU zN zT,.bool false] (zjr (t_r (zr5 (ret3 (.slice (some ⟨b20,0,none⟩) vO jB) (.slice zU zN zT) (.bool false) rfl rfl rfl rfl ⟨_,rfl,?_⟩)))))
   replace H:=H.erases [0]
   dsimp only [Qb,List.eraseIdx] at H
   refine sps [.tuple #[.slice (some ⟨b20,0,none⟩) vO jB,.slice zU zN zT,.bool false],.slice (some ⟨b20,0,none⟩) vO jB,.slice zU zN zT,.bool false,.slice (some ⟨b20,0,none⟩) vO jB,.slice zU zN zT,.bool false] (zjc (sw (jY H Tryz.underlying32 ti39 fun b30 w31 H=>sp (.slice (some ⟨b30,0,none⟩) 0 0) (zjcc (sp (.int .i64 0) (zjn (xm ?_)))))))
   replace H:=H.boxRow 0 rfl 2 0 rfl qj
   replace H:=H.vY (α:=qY)
   replace H:St _ _ [rr (some ⟨b30,0,none⟩) 0 0 39 2 [],rr zU zN zT 22 1 jH,rr (some ⟨b20,0,none⟩) vO jB 39 2 x_list] [xR true [] [] ([]:List qY),xR true rF23a rx23a ((xh p (list[i]!) mode).2),sF true Fe21Cells ae21Cells ce21Cells ((list[i]!).qG),sF true Fe21Around ae21Around ce21Around ((list[i]!).qF),xR true vg jH next,xR true F_list x_list list,atF bp op [.int .i64 p.qJ,.slice qI p.qC.length qH,.slice apFree p.qL.length cpFree,.slice qV p.qB.length qM],sF false xe qI qH p.qC,sF false FpFree apFree cpFree p.qL,sF false xx qV qM p.qB,atF bs os [.slice asCells s.qG.length csCells,.slice qR s.qF.length qQ],sF false FsCells asCells csCells s.qG,sF false xw qR qQ s.qF]:=H
   refine zC (fun m' ρ w32=>∃ (zn:Env) (vw:yOA) (zV:Nat) (vk:Nat) (out:List qY) (Qy:List Value) (Qw:yLN) (i_1:Nat),ρ=upd (upd (upd (upd (upd zn 8 (.slice (some ⟨b20,0,none⟩) vO jB)) 9 (.slice zU zN zT)) 10 (.bool false)) 11 (.slice vw zV vk)) 12 (.int .i64 i_1)∧out=([]:List qY)∧m' =0∧Fresh w.heap.size [F_list,vg,Qw]∧St w w32 [rr vw zV vk 39 2 Qy,rr zU zN zT 22 1 jH,rr (some ⟨b20,0,none⟩) vO jB 39 2 x_list] [xR true Qw Qy out,xR true vg jH next,xR true F_list x_list list]) (0) ⟨_,(some ⟨b30,0,none⟩),0,0,([]:List qY),[],[],0,uE5,(by rfl),rfl,(N.emp.pick [2,3,0]),H.pick [0,1,2] [0,4,5]⟩ ?_
   clear H N
   rintro m' ρ w33 ⟨zn,vw,zV,vk,out,Qy,Qw,i_1,rfl,rfl,rfl,N,H⟩
   have hn_out:=H.zy (α:=qY) 0 rfl 0 rfl qj
   refine zcc (sps [.int .i64 i_1,.slice (some ⟨b20,0,none⟩) vO jB] (oN rfl (sps [.bool (decide ((i_1:Int) < vO)),.bool (decide ((i_1:Int) < vO))] ?_)))
   cases h34:(decide ((i_1:Int) < vO))
   ·skip
    replace h34:=of_decide_eq_false h34
    refine zD [27] (sp (.bool false) (zjn (xG false rfl (fun h=>absurd h qj) (fun _=>zx4 (zcr (sps [.slice vw zV vk,.bool false,.slice vw zV vk,.bool false] (zjr ?_)))))))
    have H0:=H
    obtain ⟨G35,hg37,hn36,H⟩:=H.QA (α:=qY) 0 rfl 0 rfl qj
    replace N:Fresh w.heap.size [G35,F_list,vg]:=Fresh.ice (N.pick [2,0,1]) H0 0 hg37.1 hg37.2 (H0.jG [2,1])
    clear H0
    obtain rfl:=H.isLen 0 rfl
    refine ret2 (.slice vw (([]:List qY).length) vk) (.bool false) rfl rfl rfl ⟨_,rfl,?_,H.base⟩
    first | rw [rs_no (vG (outTo_much j1 qg qm) qg)] | rw [rs_no (vG (Qi j1 qg (k:=c+1) qg (inTo_bad k1 hb)) qg)] | rw [rs_no (vG (Qi j1 qg (k:=c+1) qg (inTo_many k1 hs (by unfold findS;omega) qg)) qg)]
    exact ⟨vw,vk,G35,rfl,(N.pick [0]),H.pick [] [0]⟩
   ·skip
    replace h34:=of_decide_eq_true h34
    refine qZ 26 rfl rfl (sps [.bool false,.bool false] (zjn (xG false rfl (fun h=>absurd h qj) (fun _=>zx4 (zcr (sps [.slice vw zV vk,.bool false,.slice vw zV vk,.bool false] (zjr ?_)))))))
    have H0:=H
    obtain ⟨G38,hg40,hn39,H⟩:=H.QA (α:=qY) 0 rfl 0 rfl qj
    replace N:Fresh w.heap.size [G38,F_list,vg]:=Fresh.ice (N.pick [2,0,1]) H0 0 hg40.1 hg40.2 (H0.jG [2,1])
    clear H0
    obtain rfl:=H.isLen 0 rfl
    refine ret2 (.slice vw (([]:List qY).length) vk) (.bool false) rfl rfl rfl ⟨_,rfl,?_,H.base⟩
    first | rw [rs_no (vG (outTo_much j1 qg qm) qg)] | rw [rs_no (vG (Qi j1 qg (k:=c+1) qg (inTo_bad k1 hb)) qg)] | rw [rs_no (vG (Qi j1 qg (k:=c+1) qg (inTo_many k1 hs (by unfold findS;omega) qg)) qg)]
    exact ⟨vw,vk,G38,rfl,(N.pick [0]),H.pick [] [0]⟩
  ·skip
   replace h29:=xn h29
   replace h29:=of_decide_eq_true h29
   refine xf (t_n (zcr (sw (jY H Tryz.underlying22 ti2 fun b41 w42 H=>sp (.slice (some ⟨b41,0,none⟩) 0 0) (zjcc (sp (.int .i64 0) (zjn (xm ?_))))))))
   replace H:=H.boxRowI 0 [] 0
   refine zC (fun m' ρ w43=>∃ (zn:Env) (a_list_1:yOA) (xC:Nat) (zk:Nat) (list_1:List qY) (vT:List Value) (zJ:yLN) (a_row:yOA) (n_row:Nat) (c_row:Nat) (row:yLI) (c:Nat) (row0:yLI),ρ=upd (upd (upd (upd (upd (upd (upd (upd zn 0 (.pointer (some ⟨bp,op,none⟩))) 2 (.int .i64 mode)) 9 (.slice a_list_1 xC zk)) 10 (.slice zU zN zT)) 11 (.int .i64 i)) 12 (.slice ra23a (((xh p (list[i]!) mode).2).length) rc23a)) 14 (.slice a_row n_row c_row)) 15 (.int .i64 c)∧row=(yD row0)∧((c:Int)≤(((xh p (list[i]!) mode).2).length))∧(inTo p (list[i]!) (xh p (list[i]!) mode).2 list c=some (list_1,row0))∧m' =((((xh p (list[i]!) mode).2).length) - (c:Int)).toNat∧Fresh w.heap.size [rF23a,vg,zJ]∧St w w43 [rr a_row n_row c_row 2 1 (row.map (Value.int .i64)),rr ra23a (((xh p (list[i]!) mode).2).length) rc23a 22 1 rx23a,rr zU zN zT 22 1 jH,rr a_list_1 xC zk 39 2 vT] [xR true rF23a rx23a ((xh p (list[i]!) mode).2),xR true vg jH next,xR true zJ vT list_1,atF bp op [.int .i64 p.qJ,.slice qI p.qC.length qH,.slice apFree p.qL.length cpFree,.slice qV p.qB.length qM],sF false xe qI qH p.qC,sF false FpFree apFree cpFree p.qL,sF false xx qV qM p.qB,atF bs os [.slice asCells s.qG.length csCells,.slice qR s.qF.length qQ],sF false FsCells asCells csCells s.qG,sF false xw qR qQ s.qF]) (((((xh p (list[i]!) mode).2).length) - (0:Int)).toNat) ⟨_,(some ⟨b20,0,none⟩),vO,jB,list,x_list,F_list,(some ⟨b41,0,none⟩),0,0,([]:yLI),0,[],uE8,(by rfl),qg,(by rfl),rfl,(N.pick [0,2,1]),H.pick [0,1,2,3] [0,3,4,5,6,7,8,9,10,11]⟩ ?_
   clear H N
   rintro m' ρ w44 ⟨zn,a_list_1,xC,zk,list_1,vT,zJ,a_row,n_row,c_row,row,c,row0,rfl,rfl,i0,k1,rfl,N,H⟩
   have hn_list:=H.zy (α:=qY) 3 rfl 2 rfl qj
   have hn_row:=H.Qq 0 rfl
   obtain ⟨il1,il2,il3⟩:=inTo_len ol2 c k1
   have pl:=pch_len p (list[i]!) mode
   have rl:=putAll_len row0
   refine zcc (sps [.int .i64 c,.slice ra23a (((xh p (list[i]!) mode).2).length) rc23a] (oN rfl (sp (.bool (decide ((c:Int) < (((xh p (list[i]!) mode).2).length)))) (zjn (cD rfl (fun h45=>?_) (fun h45=>?_))))))
   ·skip
    refine xf (t_n (xP (xm (xP ?_))))
    obtain ⟨b46,rfl⟩:=H.yj 3 rfl qg
    obtain ⟨b47,rfl⟩:=H.yj 1 rfl qg
    refine c_cut (fun ρ w55=>∃ (zn:Env) (b48:Nat) (ra49:yOA) (rc50:Nat) (ra51:yOA) (rc52:Nat) (rx53:List Value) (rF54:yLN),ρ=upd (upd (upd (upd (upd (upd (upd (upd (upd (upd zn 0 (.pointer (some ⟨bp,op,none⟩))) 2 (.int .i64 mode)) 9 (.slice (some ⟨b46,0,none⟩) xC zk)) 10 (.slice zU zN zT)) 11 (.int .i64 i)) 12 (.slice (some ⟨b47,0,none⟩) (((xh p (list[i]!) mode).2).length) rc23a)) 14 (.slice a_row n_row c_row)) 15 (.int .i64 c)) 16 (.pointer (some ⟨b48,0,none⟩))) 17 (.int .i64 ((xk p (list_1[i]!) (((xh p (list[i]!) mode).2)[c]!)).2))∧Fresh w.heap.size [rF54,rF23a,vg,zJ]∧St w w55 [.box b48 [.slice ra49 ((((xk p (list_1[i]!) (((xh p (list[i]!) mode).2)[c]!)).1).qG).length) rc50,.slice ra51 ((((xk p (list_1[i]!) (((xh p (list[i]!) mode).2)[c]!)).1).qF).length) rc52] 39,rr ra49 ((((xk p (list_1[i]!) (((xh p (list[i]!) mode).2)[c]!)).1).qG).length) rc50 22 1 rx53,rr ra51 ((((xk p (list_1[i]!) (((xh p (list[i]!) mode).2)[c]!)).1).qF).length) rc52 2 1 ((((xk p (list_1[i]!) (((xh p (list[i]!) mode).2)[c]!)).1).qF).map (Value.int .i64)),rr a_row n_row c_row 2 1 ((yD row0).map (Value.int .i64)),rr (some ⟨b47,0,none⟩) (((xh p (list[i]!) mode).2).length) rc23a 22 1 rx23a,rr zU zN zT 22 1 jH,rr (some ⟨b46,0,none⟩) xC zk 39 2 vT] [xR true rF54 rx53 (((xk p (list_1[i]!) (((xh p (list[i]!) mode).2)[c]!)).1).qG),xR true rF23a rx23a ((xh p (list[i]!) mode).2),xR true vg jH next,xR true zJ vT list_1,atF bp op [.int .i64 p.qJ,.slice qI p.qC.length qH,.slice apFree p.qL.length cpFree,.slice qV p.qB.length qM],sF false xe qI qH p.qC,sF false FpFree apFree cpFree p.qL,sF false xx qV qM p.qB,atF bs os [.slice asCells s.qG.length csCells,.slice qR s.qF.length qQ],sF false FsCells asCells csCells s.qG,sF false xw qR qQ s.qF]) ?_ ?_
    ·skip
     refine vH rfl H fun H=>rtp 0 (.pointer (some ⟨bp,op,none⟩)) H ?_
     refine rtp 1 (.slice (some ⟨b46,0,none⟩) xC zk) H ?_
     refine rtp 2 (.int .i64 i) H ?_
     obtain ⟨ae57Cells,ce57Cells,Fe57Cells,ae57Around,ce57Around,Fe57Around,hx58,H⟩:=H.rowel_StockD 3 rfl 2 rfl (iv:=i) i qg qg
     have S:=H.zq [0,1,2,3] [2,3,4,5,6,7,8,9,10,11]
     refine tI 3 rfl rfl rfl S ?_
     refine rtp 4 (.slice (some ⟨b47,0,none⟩) (((xh p (list[i]!) mode).2).length) rc23a) S ?_
     refine rtp 5 (.int .i64 c) S ?_
     refine tI 6 rfl rfl rfl S ?_
     refine yl [7,12] qi qo (r_op rfl ?_ (r_op rfl ?_ yt))
     ·skip
      obtain ⟨a59,c60,G61,s62,h63,H⟩:=H.jU 1 rfl 2 rfl (iv:=c) c qg qg
      refine xY (.slice a59 ((((xh p (list[i]!) mode).2)[c]!).length) c60) Tryz.isAgg22 rfl (h63) (⟨H.pick [0,1,2,3] [3,4,5,6,7,8,9,10,11,12],(yl [8,12] qi qo (r_op rfl ?_ (r_op rfl ?_ yt)))⟩)
      ·skip
       obtain ⟨qc,qf,ql⟩:=pch_mem (mode:=mode) p0 so (k:=c) qg
       have le:=inTo_pre c k1 i qg
       have so1:xE p (list_1[i]!):=by rw [le];exact so
       have qf1:Fits p (list_1[i]!) (((xh p (list[i]!) mode).2)[c]!):=by rw [le];exact qf
       have sz67:=H.base.size
       have lt68:=H.ltN (L:=[rF23a,vg,zJ]) [3,4,5]
       refine oc (l06Step_ok _ p (list_1[i]!) (((xh p (list[i]!) mode).2)[c]!) (qN (H.get 6 rfl) 0 4) (H.get 7 rfl).1 (H.get 8 rfl).1 (H.get 9 rfl).1 (qN (fun j v hj=>H.rowGet 3 rfl (hx58 j v hj)) 0 2) (H.get 1 rfl).1 (H.get 2 rfl).1 (H.get 0 rfl).1 (by exact p0) (by first | exact p1 | assumption) qm qm) ?_
       rintro _ w65 ⟨ra64aCells,rn64aCells,rc64aCells,rx64aCells,rF64aCells,ra64aAround,rn64aAround,rc64aAround,rfl,M,K⟩ _
       replace N:=N.merge sz67 lt68 M
       replace H:=H.merge K M
       obtain rfl:=H.zy (α:=yLI) 0 rfl 0 rfl qj
       obtain rfl:=H.Qq 1 rfl
       refine ⟨H.pick [2,3,4,5] [4,5,6,7,8,9,10,11,12,13],?_⟩
       have S:=H.zq [2,3,4,5] [4,5,6,7,8,9,10,11,12,13]
       refine rtp 9 (.tuple #[.agg #[.slice ra64aCells ((((xk p (list_1[i]!) (((xh p (list[i]!) mode).2)[c]!)).1).qG).length) rc64aCells,.slice ra64aAround ((((xk p (list_1[i]!) (((xh p (list[i]!) mode).2)[c]!)).1).qF).length) rc64aAround],.int .i64 ((xk p (list_1[i]!) (((xh p (list[i]!) mode).2)[c]!)).2)]) S ?_
       refine rtp 10 (.agg #[.slice ra64aCells ((((xk p (list_1[i]!) (((xh p (list[i]!) mode).2)[c]!)).1).qG).length) rc64aCells,.slice ra64aAround ((((xk p (list_1[i]!) (((xh p (list[i]!) mode).2)[c]!)).1).qF).length) rc64aAround]) S ?_
       refine rtp 11 (.int .i64 ((xk p (list_1[i]!) (((xh p (list[i]!) mode).2)[c]!)).2)) S ?_
       refine ro 12 rfl (jq H ti39 [.slice none 0 0,.slice none 0 0] fun b71 w72 H=>⟨H.pick [3,4,5,6] [4,5,6,7,8,9,10,11,12,13],(ro 13 rfl (jC H 0 [.slice ra64aCells ((((xk p (list_1[i]!) (((xh p (list[i]!) mode).2)[c]!)).1).qG).length) rc64aCells,.slice ra64aAround ((((xk p (list_1[i]!) (((xh p (list[i]!) mode).2)[c]!)).1).qF).length) rc64aAround] Tryz.sizeOf39 fun w73 H=>⟨H.pick [3,4,5,6] [4,5,6,7,8,9,10,11,12,13],(rtp 14 (.int .i64 ((xk p (list_1[i]!) (((xh p (list[i]!) mode).2)[c]!)).2)) (H.pick [3,4,5,6] [4,5,6,7,8,9,10,11,12,13]) ?_)⟩))⟩)
       refine xI qi ((meet ⟨_,b71,ra64aCells,rc64aCells,ra64aAround,rc64aAround,rx64aCells,rF64aCells,uE10,N,H.pick [0,1,2,3,4,5,6] [0,4,5,6,7,8,9,10,11,12,13]⟩))
      ·skip
       refine jq H ti39 [.slice none 0 0,.slice none 0 0] fun b74 w75 H=>⟨H.pick [1,2,3,4] [3,4,5,6,7,8,9,10,11,12],(ro 8 rfl ?_)⟩
       obtain ⟨qc,qf,ql⟩:=pch_mem (mode:=mode) p0 so (k:=c) qg
       have le:=inTo_pre c k1 i qg
       have so1:xE p (list_1[i]!):=by rw [le];exact so
       have qf1:Fits p (list_1[i]!) (((xh p (list[i]!) mode).2)[c]!):=by rw [le];exact qf
       have sz79:=H.base.size
       have lt80:=H.ltN (L:=[rF23a,vg,zJ]) [3,4,5]
       refine oc (l06Step_ok _ p (list_1[i]!) (((xh p (list[i]!) mode).2)[c]!) (qN (H.get 6 rfl) 0 4) (H.get 7 rfl).1 (H.get 8 rfl).1 (H.get 9 rfl).1 (qN (fun j v hj=>H.rowGet 4 rfl (hx58 j v hj)) 0 2) (H.get 1 rfl).1 (H.get 2 rfl).1 (H.get 0 rfl).1 (by exact p0) (by first | exact p1 | assumption) qm qm) ?_
       rintro _ w77 ⟨ra76aCells,rn76aCells,rc76aCells,rx76aCells,rF76aCells,ra76aAround,rn76aAround,rc76aAround,rfl,M,K⟩ _
       replace N:=N.merge sz79 lt80 M
       replace H:=H.merge K M
       obtain rfl:=H.zy (α:=yLI) 0 rfl 0 rfl qj
       obtain rfl:=H.Qq 1 rfl
       refine ⟨H.pick [3,4,5,6] [4,5,6,7,8,9,10,11,12,13],?_⟩
       have S:=H.zq [3,4,5,6] [4,5,6,7,8,9,10,11,12,13]
       refine rtp 9 (.tuple #[.agg #[.slice ra76aCells ((((xk p (list_1[i]!) (((xh p (list[i]!) mode).2)[c]!)).1).qG).length) rc76aCells,.slice ra76aAround ((((xk p (list_1[i]!) (((xh p (list[i]!) mode).2)[c]!)).1).qF).length) rc76aAround],.int .i64 ((xk p (list_1[i]!) (((xh p (list[i]!) mode).2)[c]!)).2)]) S ?_
       refine rtp 10 (.agg #[.slice ra76aCells ((((xk p (list_1[i]!) (((xh p (list[i]!) mode).2)[c]!)).1).qG).length) rc76aCells,.slice ra76aAround ((((xk p (list_1[i]!) (((xh p (list[i]!) mode).2)[c]!)).1).qF).length) rc76aAround]) S ?_
       refine rtp 11 (.int .i64 ((xk p (list_1[i]!) (((xh p (list[i]!) mode).2)[c]!)).2)) S ?_
       refine ro 13 rfl (jC H 2 [.slice ra76aCells ((((xk p (list_1[i]!) (((xh p (list[i]!) mode).2)[c]!)).1).qG).length) rc76aCells,.slice ra76aAround ((((xk p (list_1[i]!) (((xh p (list[i]!) mode).2)[c]!)).1).qF).length) rc76aAround] Tryz.sizeOf39 fun w83 H=>⟨H.pick [3,4,5,6] [4,5,6,7,8,9,10,11,12,13],(rtp 14 (.int .i64 ((xk p (list_1[i]!) (((xh p (list[i]!) mode).2)[c]!)).2)) (H.pick [3,4,5,6] [4,5,6,7,8,9,10,11,12,13]) ?_)⟩)
       refine xI qi ((meet ⟨_,b74,ra76aCells,rc76aCells,ra76aAround,rc76aAround,rx76aCells,rF76aCells,uE10,N,H.pick [2,0,1,3,4,5,6] [0,4,5,6,7,8,9,10,11,12,13]⟩))
     ·skip
      refine jq H ti39 [.slice none 0 0,.slice none 0 0] fun b84 w85 H=>⟨H.pick [1,2,3,4] [2,3,4,5,6,7,8,9,10,11],(ro 7 rfl ?_)⟩
      obtain ⟨a86,c87,G88,s89,h90,H⟩:=H.jU 2 rfl 2 rfl (iv:=c) c qg qg
      refine xY (.slice a86 ((((xh p (list[i]!) mode).2)[c]!).length) c87) Tryz.isAgg22 rfl (h90) (⟨H.pick [1,2,3,4] [3,4,5,6,7,8,9,10,11,12],(ro 8 rfl ?_)⟩)
      obtain ⟨qc,qf,ql⟩:=pch_mem (mode:=mode) p0 so (k:=c) qg
      have le:=inTo_pre c k1 i qg
      have so1:xE p (list_1[i]!):=by rw [le];exact so
      have qf1:Fits p (list_1[i]!) (((xh p (list[i]!) mode).2)[c]!):=by rw [le];exact qf
      have sz94:=H.base.size
      have lt95:=H.ltN (L:=[rF23a,vg,zJ]) [3,4,5]
      refine oc (l06Step_ok _ p (list_1[i]!) (((xh p (list[i]!) mode).2)[c]!) (qN (H.get 6 rfl) 0 4) (H.get 7 rfl).1 (H.get 8 rfl).1 (H.get 9 rfl).1 (qN (fun j v hj=>H.rowGet 4 rfl (hx58 j v hj)) 0 2) (H.get 1 rfl).1 (H.get 2 rfl).1 (H.get 0 rfl).1 (by exact p0) (by first | exact p1 | assumption) qm qm) ?_
      rintro _ w92 ⟨ra91aCells,rn91aCells,rc91aCells,rx91aCells,rF91aCells,ra91aAround,rn91aAround,rc91aAround,rfl,M,K⟩ _
      replace N:=N.merge sz94 lt95 M
      replace H:=H.merge K M
      obtain rfl:=H.zy (α:=yLI) 0 rfl 0 rfl qj
      obtain rfl:=H.Qq 1 rfl
      refine ⟨H.pick [3,4,5,6] [4,5,6,7,8,9,10,11,12,13],?_⟩
      have S:=H.zq [3,4,5,6] [4,5,6,7,8,9,10,11,12,13]
      refine rtp 9 (.tuple #[.agg #[.slice ra91aCells ((((xk p (list_1[i]!) (((xh p (list[i]!) mode).2)[c]!)).1).qG).length) rc91aCells,.slice ra91aAround ((((xk p (list_1[i]!) (((xh p (list[i]!) mode).2)[c]!)).1).qF).length) rc91aAround],.int .i64 ((xk p (list_1[i]!) (((xh p (list[i]!) mode).2)[c]!)).2)]) S ?_
      refine rtp 10 (.agg #[.slice ra91aCells ((((xk p (list_1[i]!) (((xh p (list[i]!) mode).2)[c]!)).1).qG).length) rc91aCells,.slice ra91aAround ((((xk p (list_1[i]!) (((xh p (list[i]!) mode).2)[c]!)).1).qF).length) rc91aAround]) S ?_
      refine rtp 11 (.int .i64 ((xk p (list_1[i]!) (((xh p (list[i]!) mode).2)[c]!)).2)) S ?_
      refine ro 13 rfl (jC H 2 [.slice ra91aCells ((((xk p (list_1[i]!) (((xh p (list[i]!) mode).2)[c]!)).1).qG).length) rc91aCells,.slice ra91aAround ((((xk p (list_1[i]!) (((xh p (list[i]!) mode).2)[c]!)).1).qF).length) rc91aAround] Tryz.sizeOf39 fun w98 H=>⟨H.pick [3,4,5,6] [4,5,6,7,8,9,10,11,12,13],(rtp 14 (.int .i64 ((xk p (list_1[i]!) (((xh p (list[i]!) mode).2)[c]!)).2)) (H.pick [3,4,5,6] [4,5,6,7,8,9,10,11,12,13]) ?_)⟩)
      refine xI qi ((meet ⟨_,b84,ra91aCells,rc91aCells,ra91aAround,rc91aAround,rx91aCells,rF91aCells,uE10,N,H.pick [2,0,1,3,4,5,6] [0,4,5,6,7,8,9,10,11,12,13]⟩))
    ·skip
     clear H N
     rintro ρ w99 ⟨zn,b48,ra49,rc50,ra51,rc52,rx53,rF54,rfl,N,H⟩
     refine t_n (zcc (sps [.int .i64 ((xk p (list_1[i]!) (((xh p (list[i]!) mode).2)[c]!)).2),.bool (((xk p (list_1[i]!) (((xh p (list[i]!) mode).2)[c]!)).2:Int) != 0)] (zjn (xG (((xk p (list_1[i]!) (((xh p (list[i]!) mode).2)[c]!)).2:Int) != 0) rfl (fun h100=>?_) (fun h100=>?_)))))
     ·skip
      replace h100:=bne_iff_ne.1 h100
      have le:=inTo_pre c k1 i qg
      have hb:=(pstep_bad h100).1
      rw [le] at hb
      refine zcr (sps [.slice (some ⟨b46,0,none⟩) xC zk,.slice zU zN zT,.slice (some ⟨b46,0,none⟩) xC zk,.slice zU zN zT,.bool false] (zjr (t_r (zr5 (zr5 (ret3 (.slice (some ⟨b46,0,none⟩) xC zk) (.slice zU zN zT) (.bool false) rfl rfl rfl rfl ⟨_,rfl,?_⟩))))))
      replace H:=H.erases [4,3,2,1,0]
      dsimp only [Qb,List.eraseIdx] at H
      refine sps [.tuple #[.slice (some ⟨b46,0,none⟩) xC zk,.slice zU zN zT,.bool false],.slice (some ⟨b46,0,none⟩) xC zk,.slice zU zN zT,.bool false,.slice (some ⟨b46,0,none⟩) xC zk,.slice zU zN zT,.bool false] (zjc (sw (jY H Tryz.underlying32 ti39 fun b101 w102 H=>sp (.slice (some ⟨b101,0,none⟩) 0 0) (zjcc (sp (.int .i64 0) (zjn (xm ?_)))))))
      replace H:=H.boxRow 0 rfl 2 0 rfl qj
      replace H:=H.vY (α:=qY)
      replace H:St _ _ [rr (some ⟨b101,0,none⟩) 0 0 39 2 [],rr zU zN zT 22 1 jH,rr (some ⟨b46,0,none⟩) xC zk 39 2 vT] [xR true [] [] ([]:List qY),xR true rF54 rx53 (((xk p (list_1[i]!) (((xh p (list[i]!) mode).2)[c]!)).1).qG),xR true rF23a rx23a ((xh p (list[i]!) mode).2),xR true vg jH next,xR true zJ vT list_1,atF bp op [.int .i64 p.qJ,.slice qI p.qC.length qH,.slice apFree p.qL.length cpFree,.slice qV p.qB.length qM],sF false xe qI qH p.qC,sF false FpFree apFree cpFree p.qL,sF false xx qV qM p.qB,atF bs os [.slice asCells s.qG.length csCells,.slice qR s.qF.length qQ],sF false FsCells asCells csCells s.qG,sF false xw qR qQ s.qF]:=H
      refine zC (fun m' ρ w103=>∃ (zn:Env) (vw:yOA) (zV:Nat) (vk:Nat) (out:List qY) (Qy:List Value) (Qw:yLN) (i_1:Nat),ρ=upd (upd (upd (upd (upd zn 8 (.slice (some ⟨b46,0,none⟩) xC zk)) 9 (.slice zU zN zT)) 10 (.bool false)) 11 (.slice vw zV vk)) 12 (.int .i64 i_1)∧out=([]:List qY)∧m' =0∧Fresh w.heap.size [vg,zJ,Qw]∧St w w103 [rr vw zV vk 39 2 Qy,rr zU zN zT 22 1 jH,rr (some ⟨b46,0,none⟩) xC zk 39 2 vT] [xR true Qw Qy out,xR true vg jH next,xR true zJ vT list_1]) (0) ⟨_,(some ⟨b101,0,none⟩),0,0,([]:List qY),[],[],0,uE5,(by rfl),rfl,(N.emp.pick [3,4,0]),H.pick [0,1,2] [0,3,4]⟩ ?_
      clear H N
      rintro m' ρ w104 ⟨zn,vw,zV,vk,out,Qy,Qw,i_1,rfl,rfl,rfl,N,H⟩
      have hn_out:=H.zy (α:=qY) 0 rfl 0 rfl qj
      refine zcc (sps [.int .i64 i_1,.slice (some ⟨b46,0,none⟩) xC zk] (oN rfl (sps [.bool (decide ((i_1:Int) < xC)),.bool (decide ((i_1:Int) < xC))] ?_)))
      cases h105:(decide ((i_1:Int) < xC))
      ·skip
       replace h105:=of_decide_eq_false h105
       refine zD [27] (sp (.bool false) (zjn (xG false rfl (fun h=>absurd h qj) (fun _=>zx4 (zcr (sps [.slice vw zV vk,.bool false,.slice vw zV vk,.bool false] (zjr ?_)))))))
       have H0:=H
       obtain ⟨G106,hg108,hn107,H⟩:=H.QA (α:=qY) 0 rfl 0 rfl qj
       replace N:Fresh w.heap.size [G106,vg,zJ]:=Fresh.ice (N.pick [2,0,1]) H0 0 hg108.1 hg108.2 (H0.jG [1,2])
       clear H0
       obtain rfl:=H.isLen 0 rfl
       refine ret2 (.slice vw (([]:List qY).length) vk) (.bool false) rfl rfl rfl ⟨_,rfl,?_,H.base⟩
       first | rw [rs_no (vG (outTo_much j1 qg qm) qg)] | rw [rs_no (vG (Qi j1 qg (k:=c+1) qg (inTo_bad k1 hb)) qg)] | rw [rs_no (vG (Qi j1 qg (k:=c+1) qg (inTo_many k1 hs (by unfold findS;omega) qg)) qg)]
       exact ⟨vw,vk,G106,rfl,(N.pick [0]),H.pick [] [0]⟩
      ·skip
       replace h105:=of_decide_eq_true h105
       refine qZ 26 rfl rfl (sps [.bool false,.bool false] (zjn (xG false rfl (fun h=>absurd h qj) (fun _=>zx4 (zcr (sps [.slice vw zV vk,.bool false,.slice vw zV vk,.bool false] (zjr ?_)))))))
       have H0:=H
       obtain ⟨G109,hg111,hn110,H⟩:=H.QA (α:=qY) 0 rfl 0 rfl qj
       replace N:Fresh w.heap.size [G109,vg,zJ]:=Fresh.ice (N.pick [2,0,1]) H0 0 hg111.1 hg111.2 (H0.jG [1,2])
       clear H0
       obtain rfl:=H.isLen 0 rfl
       refine ret2 (.slice vw (([]:List qY).length) vk) (.bool false) rfl rfl rfl ⟨_,rfl,?_,H.base⟩
       first | rw [rs_no (vG (outTo_much j1 qg qm) qg)] | rw [rs_no (vG (Qi j1 qg (k:=c+1) qg (inTo_bad k1 hb)) qg)] | rw [rs_no (vG (Qi j1 qg (k:=c+1) qg (inTo_many k1 hs (by unfold findS;omega) qg)) qg)]
       exact ⟨vw,vk,G109,rfl,(N.pick [0]),H.pick [] [0]⟩
     ·skip
      replace h100:=xB h100
      have le:=inTo_pre c k1 i qg
      obtain ⟨hs,he⟩:=pstep_is h100
      rw [le] at hs
      have he2:(xk p (list_1[i]!) (((xh p (list[i]!) mode).2)[c]!)).1=(vJ p (list[i]!) (((xh p (list[i]!) mode).2)[c]!)):=he.trans (by rw [le])
      rw [he2] at H
      refine xf (t_n (zcr (sp (.slice (some ⟨b46,0,none⟩) xC zk) ?_)))
      obtain ⟨G112,hn113,h114⟩:=H.rowIsR (α:=qY) 6 rfl 3 rfl qj
      obtain ⟨G115,hn116,h117⟩:=H.rowIsR (α:=yLI) 1 rfl 0 rfl qj
      obtain ⟨G118,hn119,h120⟩:=H.rowIsI 2 rfl
      refine sw (oq (args_eq (by rw [← hn113]) (l06Find_ok _ list_1 (vJ p (list[i]!) (((xh p (list[i]!) mode).2)[c]!)) (hn113▸h114) (qN (H.cells 0 rfl) 0 2) h117 h120)) H fun w122 H=>sp (.int .i64 (firstIdx (fun zz=>decide (list_1[zz]! =(vJ p (list[i]!) (((xh p (list[i]!) mode).2)[c]!)))) list_1.length)) (zjcc (sps [.int .i64 (firstIdx (fun zz=>decide (list_1[zz]! =(vJ p (list[i]!) (((xh p (list[i]!) mode).2)[c]!)))) list_1.length),.bool (decide ((firstIdx (fun zz=>decide (list_1[zz]! =(vJ p (list[i]!) (((xh p (list[i]!) mode).2)[c]!)))) list_1.length:Int) < 0))] (zjn ?_))))
      refine cD rfl (fun h124=>?_) (fun h124=>?_)
      ·skip
       refine zcc (sp (.slice (some ⟨b46,0,none⟩) xC zk) (oN rfl (sp (.bool (decide ((xC:Int)≥200))) (zjn (cD rfl (fun h125=>?_) (fun h125=>?_))))))
       ·skip
        refine zcr (sps [.slice (some ⟨b46,0,none⟩) xC zk,.slice zU zN zT,.slice (some ⟨b46,0,none⟩) xC zk,.slice zU zN zT,.bool false] (zjr (t_r (t_r (zr5 (zr5 (ret3 (.slice (some ⟨b46,0,none⟩) xC zk) (.slice zU zN zT) (.bool false) rfl rfl rfl rfl ⟨_,rfl,?_⟩)))))))
        replace H:=H.erases [4,3,2,1,0]
        dsimp only [Qb,List.eraseIdx] at H
        refine sps [.tuple #[.slice (some ⟨b46,0,none⟩) xC zk,.slice zU zN zT,.bool false],.slice (some ⟨b46,0,none⟩) xC zk,.slice zU zN zT,.bool false,.slice (some ⟨b46,0,none⟩) xC zk,.slice zU zN zT,.bool false] (zjc (sw (jY H Tryz.underlying32 ti39 fun b126 w127 H=>sp (.slice (some ⟨b126,0,none⟩) 0 0) (zjcc (sp (.int .i64 0) (zjn (xm ?_)))))))
        replace H:=H.boxRow 0 rfl 2 0 rfl qj
        replace H:=H.vY (α:=qY)
        replace H:St _ _ [rr (some ⟨b126,0,none⟩) 0 0 39 2 [],rr zU zN zT 22 1 jH,rr (some ⟨b46,0,none⟩) xC zk 39 2 vT] [xR true [] [] ([]:List qY),xR true rF54 rx53 ((vJ p (list[i]!) (((xh p (list[i]!) mode).2)[c]!)).qG),xR true rF23a rx23a ((xh p (list[i]!) mode).2),xR true vg jH next,xR true zJ vT list_1,atF bp op [.int .i64 p.qJ,.slice qI p.qC.length qH,.slice apFree p.qL.length cpFree,.slice qV p.qB.length qM],sF false xe qI qH p.qC,sF false FpFree apFree cpFree p.qL,sF false xx qV qM p.qB,atF bs os [.slice asCells s.qG.length csCells,.slice qR s.qF.length qQ],sF false FsCells asCells csCells s.qG,sF false xw qR qQ s.qF]:=H
        refine zC (fun m' ρ w128=>∃ (zn:Env) (vw:yOA) (zV:Nat) (vk:Nat) (out:List qY) (Qy:List Value) (Qw:yLN) (i_1:Nat),ρ=upd (upd (upd (upd (upd zn 8 (.slice (some ⟨b46,0,none⟩) xC zk)) 9 (.slice zU zN zT)) 10 (.bool false)) 11 (.slice vw zV vk)) 12 (.int .i64 i_1)∧out=([]:List qY)∧m' =0∧Fresh w.heap.size [vg,zJ,Qw]∧St w w128 [rr vw zV vk 39 2 Qy,rr zU zN zT 22 1 jH,rr (some ⟨b46,0,none⟩) xC zk 39 2 vT] [xR true Qw Qy out,xR true vg jH next,xR true zJ vT list_1]) (0) ⟨_,(some ⟨b126,0,none⟩),0,0,([]:List qY),[],[],0,uE5,(by rfl),rfl,(N.emp.pick [3,4,0]),H.pick [0,1,2] [0,3,4]⟩ ?_
        clear H N
        rintro m' ρ w129 ⟨zn,vw,zV,vk,out,Qy,Qw,i_1,rfl,rfl,rfl,N,H⟩
        have hn_out:=H.zy (α:=qY) 0 rfl 0 rfl qj
        refine zcc (sps [.int .i64 i_1,.slice (some ⟨b46,0,none⟩) xC zk] (oN rfl (sps [.bool (decide ((i_1:Int) < xC)),.bool (decide ((i_1:Int) < xC))] ?_)))
        cases h130:(decide ((i_1:Int) < xC))
        ·skip
         replace h130:=of_decide_eq_false h130
         refine zD [27] (sp (.bool false) (zjn (xG false rfl (fun h=>absurd h qj) (fun _=>zx4 (zcr (sps [.slice vw zV vk,.bool false,.slice vw zV vk,.bool false] (zjr ?_)))))))
         have H0:=H
         obtain ⟨G131,hg133,hn132,H⟩:=H.QA (α:=qY) 0 rfl 0 rfl qj
         replace N:Fresh w.heap.size [G131,vg,zJ]:=Fresh.ice (N.pick [2,0,1]) H0 0 hg133.1 hg133.2 (H0.jG [1,2])
         clear H0
         obtain rfl:=H.isLen 0 rfl
         refine ret2 (.slice vw (([]:List qY).length) vk) (.bool false) rfl rfl rfl ⟨_,rfl,?_,H.base⟩
         first | rw [rs_no (vG (outTo_much j1 qg qm) qg)] | rw [rs_no (vG (Qi j1 qg (k:=c+1) qg (inTo_bad k1 hb)) qg)] | rw [rs_no (vG (Qi j1 qg (k:=c+1) qg (inTo_many k1 hs (by unfold findS;omega) qg)) qg)]
         exact ⟨vw,vk,G131,rfl,(N.pick [0]),H.pick [] [0]⟩
        ·skip
         replace h130:=of_decide_eq_true h130
         refine qZ 26 rfl rfl (sps [.bool false,.bool false] (zjn (xG false rfl (fun h=>absurd h qj) (fun _=>zx4 (zcr (sps [.slice vw zV vk,.bool false,.slice vw zV vk,.bool false] (zjr ?_)))))))
         have H0:=H
         obtain ⟨G134,hg136,hn135,H⟩:=H.QA (α:=qY) 0 rfl 0 rfl qj
         replace N:Fresh w.heap.size [G134,vg,zJ]:=Fresh.ice (N.pick [2,0,1]) H0 0 hg136.1 hg136.2 (H0.jG [1,2])
         clear H0
         obtain rfl:=H.isLen 0 rfl
         refine ret2 (.slice vw (([]:List qY).length) vk) (.bool false) rfl rfl rfl ⟨_,rfl,?_,H.base⟩
         first | rw [rs_no (vG (outTo_much j1 qg qm) qg)] | rw [rs_no (vG (Qi j1 qg (k:=c+1) qg (inTo_bad k1 hb)) qg)] | rw [rs_no (vG (Qi j1 qg (k:=c+1) qg (inTo_many k1 hs (by unfold findS;omega) qg)) qg)]
         exact ⟨vw,vk,G134,rfl,(N.pick [0]),H.pick [] [0]⟩
       ·skip
        refine xf (t_n (zcr (sp (.slice (some ⟨b46,0,none⟩) xC zk) (oN rfl (sp (.int .i64 xC) (zjn (xJ (sp (.slice (some ⟨b46,0,none⟩) xC zk) (sw (zf [.slice ra49 (((vJ p (list[i]!) (((xh p (list[i]!) mode).2)[c]!)).qG).length) rc50,.slice ra51 (((vJ p (list[i]!) (((xh p (list[i]!) mode).2)[c]!)).qF).length) rc52] Tryz.isAgg39 Tryz.sizeOf39 rfl (qN (H.cells 0 rfl) 0 2) ?_))))))))))
        refine sw (zu H Tryz.underlying32 ti39 [.slice ra49 (((vJ p (list[i]!) (((xh p (list[i]!) mode).2)[c]!)).qG).length) rc50,.slice ra51 (((vJ p (list[i]!) (((xh p (list[i]!) mode).2)[c]!)).qF).length) rc52] fun b137 w138 H=>?_)
        have H0:=H
        obtain ⟨G142,hg144,hn143,H⟩:=H.QA (α:=yLI) 2 rfl 0 rfl qj
        replace N:Fresh w.heap.size [G142,rF23a,vg,zJ]:=Fresh.ice N H0 2 hg144.1 hg144.2 (H0.jG [1,2,3])
        clear H0
        obtain ⟨G145,N,hn146,H⟩:=H.vF 3 rfl N (H.jG [0,2,3,4])
        refine sw (zA H 7 rfl 0 rfl Tryz.underlying32 ti39 rfl qj rfl rfl rfl qx qw qg fun a139 c140 w141 H=>?_)
        replace H:=H.snoc_StockD 5 rfl 1 rfl 0 rfl
        replace N:Fresh w.heap.size [(zJ++(G142++G145)),rF23a,vg]:=(N.pick [1,0,4,2,3]).join.swap.join
        refine sp (.slice a139 (xC+1) c140) (zjn (xJ (sps [.slice a_row n_row c_row,.int .i64 xC] ?_)))
        obtain ⟨G147,hn148,h149⟩:=H.rowIsI 4 rfl
        have sz153:=H.base.size
        refine sw (oc (args_eq (by rw [← hn148]) (l00Put_ok _ (yD row0) xC (hn148▸h149) qh)) ?_)
        rintro _ w151 ⟨ra150,rn150,rc150,rfl,M,K⟩ _
        replace H:=H.merge K M
        obtain rfl:=H.Qq 0 rfl
        refine sp (.slice ra150 ((putL xC (yD row0)).length) rc150) (xN (b_n (t_n (xJ (sp (.int .i64 c) (sw (xQ c 1 rfl rfl qg (sp (.int .i64 (c+1)) (xN ?_)))))))))
        refine xg (m' :=((((xh p (list[i]!) mode).2).length) - ((c+1):Int)).toNat) qg ⟨_,a139,xC+1,c140,(list_1++[⟨(vJ p (list[i]!) (((xh p (list[i]!) mode).2)[c]!)).qG,(vJ p (list[i]!) (((xh p (list[i]!) mode).2)[c]!)).qF⟩]),vT++[.slice ra49 (((vJ p (list[i]!) (((xh p (list[i]!) mode).2)[c]!)).qG).length) rc50,.slice ra51 (((vJ p (list[i]!) (((xh p (list[i]!) mode).2)[c]!)).qF).length) rc52],(zJ++(G142++G145)),ra150,(putL xC (yD row0)).length,rc150,putL xC (yD row0),c+1,(row0++[(xC:Int)]),uE8,?_,?_,?_,rfl,(N.pick [1,2,0]),H.pick [0,6,7,8] [4,5,0,7,8,9,10,11,12,13]⟩
        · exact (putAll_snoc _ _).symm
        · omega
        · first | exact inTo_old k1 hs (by unfold findS;omega) | (rw [hn_list];exact inTo_new k1 hs (by unfold findS;omega) qg)
      ·skip
       refine xf (t_n (xJ (sps [.slice a_row n_row c_row,.int .i64 (firstIdx (fun zz=>decide (list_1[zz]! =(vJ p (list[i]!) (((xh p (list[i]!) mode).2)[c]!)))) list_1.length)] ?_)))
       obtain ⟨G156,hn157,h158⟩:=H.rowIsI 3 rfl
       have sz162:=H.base.size
       refine sw (oc (args_eq (by rw [← hn157]) (l00Put_ok _ (yD row0) (firstIdx (fun zz=>decide (list_1[zz]! =(vJ p (list[i]!) (((xh p (list[i]!) mode).2)[c]!)))) list_1.length) (hn157▸h158) qh)) ?_)
       rintro _ w160 ⟨ra159,rn159,rc159,rfl,M,K⟩ _
       replace H:=H.merge K M
       obtain rfl:=H.Qq 0 rfl
       refine sp (.slice ra159 ((putL (firstIdx (fun zz=>decide (list_1[zz]! =(vJ p (list[i]!) (((xh p (list[i]!) mode).2)[c]!)))) list_1.length) (yD row0)).length) rc159) (xN (b_n (t_n (xJ (sp (.int .i64 c) (sw (xQ c 1 rfl rfl qg (sp (.int .i64 (c+1)) (xN ?_)))))))))
       refine xg (m' :=((((xh p (list[i]!) mode).2).length) - ((c+1):Int)).toNat) qg ⟨_,(some ⟨b46,0,none⟩),xC,zk,list_1,vT,zJ,ra159,(putL (firstIdx (fun zz=>decide (list_1[zz]! =(vJ p (list[i]!) (((xh p (list[i]!) mode).2)[c]!)))) list_1.length) (yD row0)).length,rc159,putL (firstIdx (fun zz=>decide (list_1[zz]! =(vJ p (list[i]!) (((xh p (list[i]!) mode).2)[c]!)))) list_1.length) (yD row0),c+1,(row0++[(firstIdx (fun zz=>decide (list_1[zz]! =(vJ p (list[i]!) (((xh p (list[i]!) mode).2)[c]!)))) list_1.length:Int)]),uE8,?_,?_,?_,rfl,(N.pick [1,2,3]),H.pick [0,5,6,7] [1,2,3,4,5,6,7,8,9,10]⟩
       · exact (putAll_snoc _ _).symm
       · omega
       · first | exact inTo_old k1 hs (by unfold findS;omega) | (rw [hn_list];exact inTo_new k1 hs (by unfold findS;omega) qg)
   ·skip
    refine zx4 (xJ (sps [.slice zU zN zT,.slice a_row n_row c_row] (sw (zu H Tryz.underlying27 ti22 [.slice a_row n_row c_row] fun b165 w166 H=>?_))))
    obtain ⟨G170,N,hn171,H⟩:=H.vF 1 rfl N (H.jG [0,1,2])
    refine sw (zA H 3 rfl 0 rfl Tryz.underlying27 ti22 rfl qj rfl rfl rfl qx qw qg fun a167 c168 w169 H=>?_)
    replace H:=H.jo 2 rfl 0 rfl
    replace N:Fresh w.heap.size [(vg++G170),rF23a,zJ]:=(N.pick [2,0,1,3]).join
    refine sp (.slice a167 (zN+1) c168) (xN (b_n (t_n (xJ (sp (.int .i64 i) (sw (xQ i 1 rfl rfl qg (sp (.int .i64 (i+1)) (xN (xg (m' :=(200 - ((i+1):Int)).toNat) qg ⟨_,a_list_1,xC,zk,list_1,vT,zJ,a167,zN+1,c168,(next++[(yD row0)]),jH++[.slice a_row n_row c_row],(vg++G170),i+1,uE5,?_,?_,rfl,(N.pick [2,0]),H.pick [3,4] [0,4,5,6,7,8,9,10,11]⟩))))))))))
    · exact outTo_next j1 qg qm ((show c=(xh p (list[i]!) mode).2.length by omega)▸k1)
    · omega
 ·skip
  refine zx4 (zcr (sps [.slice yP vO jB,.slice zU zN zT,.slice yP vO jB,.slice zU zN zT,.bool true] (zjr (ret3 (.slice yP vO jB) (.slice zU zN zT) (.bool true) rfl rfl rfl rfl ⟨_,rfl,(sps [.tuple #[.slice yP vO jB,.slice zU zN zT,.bool true],.slice yP vO jB,.slice zU zN zT,.bool true,.slice yP vO jB,.slice zU zN zT,.bool true] (zjc (sw (jY H Tryz.underlying32 ti39 fun b172 w173 H=>sp (.slice (some ⟨b172,0,none⟩) 0 0) ?_))))⟩))))
  refine zjcc (sp (.int .i64 0) (zjn (xm ?_)))
  have H0:=H
  obtain ⟨G174,hg176,hn175,H⟩:=H.QA (α:=qY) 2 rfl 1 rfl qj
  replace N:Fresh w.heap.size [G174,vg]:=Fresh.ice N H0 2 hg176.1 hg176.2 (H0.jG [0])
  clear H0
  obtain ⟨xs177,B178,P179,N,H⟩:=H.pool (α:=qY) 0 rfl N
  replace H:=H.boxRow 0 rfl 2 0 rfl qj
  replace H:=H.vY (α:=qY)
  replace H:St _ _ [rr (some ⟨b172,0,none⟩) 0 0 39 2 [],rr zU zN zT 22 1 jH,rr none 0 0 0 1 []] [xR true [] [] ([]:List qY),xR true P179 (xs177.drop (0 * 2)) (list.drop 0),cellsF B178 (.slice yP vO jB) xs177,isF true G174 (.slice yP vO jB) list,xR true vg jH next,xR true F_list x_list list,atF bp op [.int .i64 p.qJ,.slice qI p.qC.length qH,.slice apFree p.qL.length cpFree,.slice qV p.qB.length qM],sF false xe qI qH p.qC,sF false FpFree apFree cpFree p.qL,sF false xx qV qM p.qB,atF bs os [.slice asCells s.qG.length csCells,.slice qR s.qF.length qQ],sF false FsCells asCells csCells s.qG,sF false xw qR qQ s.qF]:=H
  refine zC (fun m' ρ w180=>∃ (zn:Env) (vw:yOA) (zV:Nat) (vk:Nat) (out:List qY) (Qy:List Value) (Qw:yLN) (i_1:Nat) (q:Nat) (P_q:yLN),ρ=upd (upd (upd (upd (upd zn 8 (.slice yP vO jB)) 9 (.slice zU zN zT)) 10 (.bool true)) 11 (.slice vw zV vk)) 12 (.int .i64 i_1)∧out=(yC list next i_1)∧(i_1≤list.length)∧(q≤i_1)∧m' =list.length - i_1∧Fresh w.heap.size [vg,Qw,P_q]∧St w w180 [rr vw zV vk 39 2 Qy,rr zU zN zT 22 1 jH] [xR true Qw Qy out,xR true P_q (xs177.drop (q * 2)) (list.drop q),cellsF B178 (.slice yP vO jB) xs177,isF true G174 (.slice yP vO jB) list,xR true vg jH next]) (list.length - 0) ⟨_,(some ⟨b172,0,none⟩),0,0,([]:List qY),[],[],0,0,P179,uE5,(by rfl),qg,qg,rfl,(N.emp.pick [2,0,1]),H.pick [0,1] [0,1,2,3,4]⟩ ?_
  clear H N
  rintro m' ρ w181 ⟨zn,vw,zV,vk,out,Qy,Qw,i_1,q,P_q,rfl,rfl,i0,kq,rfl,N,H⟩
  have hn_out:=H.zy (α:=qY) 0 rfl 0 rfl qj
  have rl:=rest_len list next i_1
  refine zcc (sps [.int .i64 i_1,.slice yP vO jB] (oN rfl (sps [.bool (decide ((i_1:Int) < vO)),.bool (decide ((i_1:Int) < vO))] ?_)))
  cases h182:(decide ((i_1:Int) < vO))
  ·skip
   replace h182:=of_decide_eq_false h182
   refine zD [27] (sp (.bool false) (zjn (xG false rfl (fun h=>absurd h qj) (fun _=>zx4 (zcr (sps [.slice vw zV vk,.bool true,.slice vw zV vk,.bool true] (zjr ?_)))))))
   have H0:=H
   obtain ⟨G183,hg185,hn184,H⟩:=H.QA (α:=qY) 0 rfl 0 rfl qj
   replace N:Fresh w.heap.size [G183,vg,P_q]:=Fresh.ice (N.pick [1,0,2]) H0 0 hg185.1 hg185.2 (H0.jG [4,1])
   clear H0
   obtain rfl:=H.isLen 0 rfl
   refine ret2 (.slice vw ((yC list next i_1).length) vk) (.bool true) rfl rfl rfl ⟨_,rfl,?_,H.base⟩
   rw [rs_ok (graph_end j1 qg qg),show list.length=i_1 by omega]
   exact ⟨vw,vk,G183,rfl,(N.pick [0]),H.pick [] [0]⟩
  ·skip
   replace h182:=of_decide_eq_true h182
   refine qZ 26 rfl rfl (sps [.bool true,.bool true] (zjn (xG true rfl (fun _=>xf (t_n (xP (xm (zcr (sps [.slice zU zN zT,.int .i64 i_1] ?_)))))) (fun h=>absurd h qj))))
   obtain ⟨b186,rfl⟩:=H.yj 1 rfl qg
   refine oI rfl rfl ?_
   obtain ⟨a187,c188,G189,s190,h191,H⟩:=H.jU 1 rfl 4 rfl (iv:=i_1) i_1 qg qg
   refine oL rfl (h191) (oN rfl (sp (.bool (((next[i_1]!).length:Int) == 0)) (zjn (cE rfl (fun h192=>?_) (fun h192=>?_)))))
   ·skip
    refine xJ (sps [.slice vw zV vk,.slice yP vO jB,.int .i64 i_1] ?_)
    have hl195:=H.isLen 4 rfl
    obtain ⟨b193,o194,rfl⟩:=H.addr 4 rfl qg
    obtain ⟨ae196Cells,ce196Cells,Fe196Cells,ae196Around,ce196Around,Fe196Around,P197,N,H⟩:=H.drain_StockD 3 rfl 2 rfl ((N.pick [2,0,1]):Fresh w.heap.size [P_q,vg,Qw]) i_1 i_1 qg qg qg
    refine oI rfl rfl (sw (zf [.slice ae196Cells (((list[i_1]!).qG).length) ce196Cells,.slice ae196Around (((list[i_1]!).qF).length) ce196Around] Tryz.isAgg39 Tryz.sizeOf39 rfl (qN (H.get 2 rfl) 0 2) (sw (zu H Tryz.underlying32 ti39 [.slice ae196Cells (((list[i_1]!).qG).length) ce196Cells,.slice ae196Around (((list[i_1]!).qF).length) ce196Around] fun b198 w199 H=>sw (zA H 1 rfl 0 rfl Tryz.underlying32 ti39 rfl qj rfl rfl rfl qx qw qg fun a200 c201 w202 H=>?_)))))
    replace H:=H.snoc_StockD 5 rfl 0 rfl 1 rfl
    replace N:Fresh w.heap.size [(Qw++(Fe196Cells++Fe196Around)),P197,vg]:=(N.pick [0,1,4,2,3]).join.swap.join
    refine sp (.slice a200 (zV+1) c201) (xN (b_n (t_n (xJ (sp (.int .i64 i_1) (sw (xQ i_1 1 rfl rfl qg (sp (.int .i64 (i_1+1)) (xN (xg (m' :=list.length - (i_1+1)) qg ⟨_,a200,zV+1,c201,((yC list next i_1)++[⟨(list[i_1]!).qG,(list[i_1]!).qF⟩]),Qy++[.slice ae196Cells (((list[i_1]!).qG).length) ce196Cells,.slice ae196Around (((list[i_1]!).qF).length) ce196Around],(Qw++(Fe196Cells++Fe196Around)),i_1+1,i_1+1,P197,uE5,?_,?_,?_,rfl,(N.pick [2,0,1]),H.pick [1,2] [0,4,8,9,10]⟩))))))))))
    · first | exact rest_yes qg | exact rest_no qg
    · omega
    · omega
   ·skip
    refine xf (b_n (t_n (xJ (sp (.int .i64 i_1) (sw (xQ i_1 1 rfl rfl qg (sp (.int .i64 (i_1+1)) (xN (xg (m' :=list.length - (i_1+1)) qg ⟨_,vw,zV,vk,(yC list next i_1),Qy,Qw,i_1+1,q,P_q,uE5,?_,?_,?_,rfl,N,H.pick [0,1] [1,2,3,4,5]⟩)))))))))
    · first | exact rest_yes qg | exact rest_no qg
    · omega
    · omega

theorem specRest_ok (w:World) (p:qW) (s:qY) (mode:Int) {qI:yOA} {xe:yLN} {apFree:yOA} {FpFree:yLN} {qV:yOA} {xx:yLN} {asCells:yOA} {FsCells:yLN} {qR:yOA} {xw:yLN} (qX:qU.rep w xe [.slice qI p.qC.length qH] p.qC) (hpFree:qU.rep w FpFree [.slice apFree p.qL.length cpFree] p.qL) (xq:qU.rep w xx [.slice qV p.qB.length qM] p.qB) (hsCells:qU.rep w FsCells [.slice asCells s.qG.length csCells] s.qG) (xA:qU.rep w xw [.slice qR s.qF.length qQ] s.qF):Calls Tryz.prog 27 #[.agg #[.int .i64 p.qJ,.slice qI p.qC.length qH,.slice apFree p.qL.length cpFree,.slice qV p.qB.length qM],.agg #[.slice asCells s.qG.length csCells,.slice qR s.qF.length qQ],.int .i64 mode] w (Ret (fun v w' =>∃ (ra0:yOA) (rc0:Nat) (rF0:yLN),v=.tuple #[.slice ra0 (((zl p s mode).1).length) rc0,.int .i64 ((zl p s mode).2)]∧Fresh w.heap.size [rF0]∧St w w' [] [sF true rF0 ra0 rc0 ((zl p s mode).1)]) w):=by
 refine en Tryz.func27 Tryz.ntmps27 ?_
 have H:=(((((St.start w).arg xA).arg hsCells).arg xq).arg hpFree).arg qX
 have zF:=qO qX
 have nhpFree:=qO hpFree
 have vK:=qO xq
 have nhsCells:=qO hsCells
 have vZ:=qO xA
 clear qX hpFree xq hsCells xA
 have N:=Fresh.nil w.heap.size
 refine zcr (sw (jA H [.int .i64 p.qJ,.slice qI p.qC.length qH,.slice apFree p.qL.length cpFree,.slice qV p.qB.length qM] fun b1 w2 H=>sw (jA H [.slice asCells s.qG.length csCells,.slice qR s.qF.length qQ] fun b3 w4 H=>sps [.slice none 0 0,.int .i64 0] (zjcc (sp (.int .i64 mode) (sw (oq (l06Asked_ok _ p s mode (qN (H.cells 1 rfl) 0 4) (H.get 0 rfl).1 (H.get 1 rfl).1 (H.get 2 rfl).1 (qN (H.cells 0 rfl) 0 2) (H.get 3 rfl).1 (H.get 4 rfl).1) H fun w6 H=>sp (.int .i64 (yY p s mode)) (zjc ?_))))))))
 refine sps [.int .i64 (yY p s mode),.bool ((yY p s mode:Int) != 0)] (zjn (xG ((yY p s mode:Int) != 0) rfl (fun h8=>?_) (fun h8=>?_)))
 ·skip
  replace h8:=bne_iff_ne.1 h8
  refine zcr (sw (jY H Tryz.underlying32 ti39 fun b9 w10 H=>sps [.int .i64 (yY p s mode),.slice (some ⟨b9,0,none⟩) 0 0,.int .i64 (yY p s mode)] (zjr (t_r ?_))))
  replace H:=H.boxRow 0 rfl 2 0 rfl qj
  replace H:=H.vY (α:=qY)
  replace H:St _ _ [rr (some ⟨b9,0,none⟩) 0 0 39 2 [],.box b3 [.slice asCells s.qG.length csCells,.slice qR s.qF.length qQ] 39,.box b1 [.int .i64 p.qJ,.slice qI p.qC.length qH,.slice apFree p.qL.length cpFree,.slice qV p.qB.length qM] 37] [xR true [] [] ([]:List qY),sF false xe qI qH p.qC,sF false FpFree apFree cpFree p.qL,sF false xx qV qM p.qB,sF false FsCells asCells csCells s.qG,sF false xw qR qQ s.qF]:=H
  have H0:=H
  obtain ⟨G11,hg13,hn12,H⟩:=H.QA (α:=qY) 0 rfl 0 rfl qj
  replace N:Fresh w.heap.size [G11]:=Fresh.ice N.emp H0 0 hg13.1 hg13.2 (H0.jG [])
  clear H0
  refine ret2 (.slice (some ⟨b9,0,none⟩) 0 0) (.int .i64 (yY p s mode)) rfl rfl rfl ⟨_,rfl,?_,H.base⟩
  rw [rt_code qm]
  exact ⟨(some ⟨b9,0,none⟩),0,G11,rfl,N,H.pick [] [0]⟩
 ·skip
  replace h8:=xB h8
  obtain ⟨p0,p1,p2⟩:=mcode_ok h8
  refine xf (t_n (zcr (sp (.int .i64 mode) ?_)))
  have sz17:=H.base.size
  refine sw (oc (l06Rest_ok _ p s mode (qN (H.cells 1 rfl) 0 4) (H.get 0 rfl).1 (H.get 1 rfl).1 (H.get 2 rfl).1 (qN (H.cells 0 rfl) 0 2) (H.get 3 rfl).1 (H.get 4 rfl).1 (by exact p0) (by exact p1)) ?_)
  rintro _ w15 ⟨ra14a,rc14a,rF14a,rfl,M,K⟩ _
  replace N:=N.merge sz17 qo M
  replace H:=H.merge K M
  refine sps [.tuple #[.slice ra14a (((rsRes p s mode).1).length) rc14a,.bool ((rsRes p s mode).2)],.slice ra14a (((rsRes p s mode).1).length) rc14a,.bool ((rsRes p s mode).2),.slice ra14a (((rsRes p s mode).1).length) rc14a,.bool ((rsRes p s mode).2)] (zjcc (sps [.bool ((rsRes p s mode).2),.bool (!((rsRes p s mode).2))] (zjn (xG (!((rsRes p s mode).2)) rfl (fun h19=>?_) (fun h19=>?_)))))
  ·skip
   replace h19:=xy h19
   refine zcr (sw (jY H Tryz.underlying32 ti39 fun b20 w21 H=>sps [.slice (some ⟨b20,0,none⟩) 0 0,.int .i64 3] (zjr (t_r ?_))))
   replace H:=H.boxRow 0 rfl 2 0 rfl qj
   replace H:=H.vY (α:=qY)
   replace H:St _ _ [rr (some ⟨b20,0,none⟩) 0 0 39 2 [],.box b3 [.slice asCells s.qG.length csCells,.slice qR s.qF.length qQ] 39,.box b1 [.int .i64 p.qJ,.slice qI p.qC.length qH,.slice apFree p.qL.length cpFree,.slice qV p.qB.length qM] 37] [xR true [] [] ([]:List qY),sF true rF14a ra14a rc14a ((rsRes p s mode).1),sF false xe qI qH p.qC,sF false FpFree apFree cpFree p.qL,sF false xx qV qM p.qB,sF false FsCells asCells csCells s.qG,sF false xw qR qQ s.qF]:=H
   have H0:=H
   obtain ⟨G22,hg24,hn23,H⟩:=H.QA (α:=qY) 0 rfl 0 rfl qj
   replace N:Fresh w.heap.size [G22,rF14a]:=Fresh.ice N.emp H0 0 hg24.1 hg24.2 (H0.jG [1])
   clear H0
   refine ret2 (.slice (some ⟨b20,0,none⟩) 0 0) (.int .i64 3) rfl rfl rfl ⟨_,rfl,?_,H.base⟩
   rw [rt_lim qm qm]
   exact ⟨(some ⟨b20,0,none⟩),0,G22,rfl,(N.pick [0]),H.pick [] [0]⟩
  ·skip
   replace h19:=xn h19
   refine xf (t_n (zcr (sps [.slice ra14a (((rsRes p s mode).1).length) rc14a,.slice ra14a (((rsRes p s mode).1).length) rc14a,.int .i64 0] (zjr (ret2 (.slice ra14a (((rsRes p s mode).1).length) rc14a) (.int .i64 0) rfl rfl rfl ⟨_,rfl,?_,H.base⟩)))))
   rw [rt_ok qm qm]
   exact ⟨ra14a,rc14a,rF14a,rfl,N,H.pick [] [0]⟩

theorem implRest_ok (w:World) (p:qW) (s:qY) (mode:Int) {qI:yOA} {xe:yLN} {apFree:yOA} {FpFree:yLN} {qV:yOA} {xx:yLN} {asCells:yOA} {FsCells:yLN} {qR:yOA} {xw:yLN} (qX:qU.rep w xe [.slice qI p.qC.length qH] p.qC) (hpFree:qU.rep w FpFree [.slice apFree p.qL.length cpFree] p.qL) (xq:qU.rep w xx [.slice qV p.qB.length qM] p.qB) (hsCells:qU.rep w FsCells [.slice asCells s.qG.length csCells] s.qG) (xA:qU.rep w xw [.slice qR s.qF.length qQ] s.qF):Calls Tryz.prog 28 #[.agg #[.int .i64 p.qJ,.slice qI p.qC.length qH,.slice apFree p.qL.length cpFree,.slice qV p.qB.length qM],.agg #[.slice asCells s.qG.length csCells,.slice qR s.qF.length qQ],.int .i64 mode] w (Ret (fun v w' =>∃ (ra0:yOA) (rc0:Nat) (rF0:yLN),v=.tuple #[.slice ra0 (((zl p s mode).1).length) rc0,.int .i64 ((zl p s mode).2)]∧Fresh w.heap.size [rF0]∧St w w' [] [sF true rF0 ra0 rc0 ((zl p s mode).1)]) w):=by
 refine en Tryz.func28 Tryz.ntmps28 ?_
 have H:=(((((St.start w).arg xA).arg hsCells).arg xq).arg hpFree).arg qX
 have zF:=qO qX
 have nhpFree:=qO hpFree
 have vK:=qO xq
 have nhsCells:=qO hsCells
 have vZ:=qO xA
 clear qX hpFree xq hsCells xA
 have N:=Fresh.nil w.heap.size
 refine zcr (sw (jA H [.int .i64 p.qJ,.slice qI p.qC.length qH,.slice apFree p.qL.length cpFree,.slice qV p.qB.length qM] fun b1 w2 H=>sw (jA H [.slice asCells s.qG.length csCells,.slice qR s.qF.length qQ] fun b3 w4 H=>sps [.slice none 0 0,.int .i64 0] (zjc (sw (zf [.int .i64 p.qJ,.slice qI p.qC.length qH,.slice apFree p.qL.length cpFree,.slice qV p.qB.length qM] Tryz.isAgg37 Tryz.sizeOf37 rfl (qN (H.cells 1 rfl) 0 4) ?_))))))
 refine sw (zf [.slice asCells s.qG.length csCells,.slice qR s.qF.length qQ] Tryz.isAgg39 Tryz.sizeOf39 rfl (qN (H.cells 0 rfl) 0 2) (sp (.int .i64 mode) ?_))
 have sz8:=H.base.size
 refine sw (oc (implGraph_ok _ p s mode (H.get 0 rfl).1 (H.get 1 rfl).1 (H.get 2 rfl).1 (H.get 3 rfl).1 (H.get 4 rfl).1) ?_)
 rintro _ w6 ⟨ra5a,rn5a,rc5a,rx5a,rF5a,ra5b,rn5b,rc5b,rx5b,rF5b,rfl,M,K⟩ _
 replace N:=N.merge sz8 qo M
 replace H:=H.merge K M
 obtain rfl:=H.zy (α:=qY) 0 rfl 0 rfl qj
 obtain rfl:=H.zy (α:=yLI) 1 rfl 1 rfl qj
 refine sps [.tuple #[.slice ra5a (((zY p s mode).1).length) rc5a,.slice ra5b (((zY p s mode).2.1).length) rc5b,.int .i64 ((zY p s mode).2.2)],.slice ra5a (((zY p s mode).1).length) rc5a,.slice ra5b (((zY p s mode).2.1).length) rc5b,.int .i64 ((zY p s mode).2.2),.slice ra5a (((zY p s mode).1).length) rc5a,.slice ra5b (((zY p s mode).2.1).length) rc5b,.int .i64 ((zY p s mode).2.2)] (zjcc (sps [.int .i64 ((zY p s mode).2.2),.bool (((zY p s mode).2.2:Int) != 0)] (zjn (xG (((zY p s mode).2.2:Int) != 0) rfl (fun h12=>?_) (fun h12=>?_)))))
 ·skip
  replace h12:=bne_iff_ne.1 h12
  refine zcr (sps [.int .i64 ((zY p s mode).2.2),.slice none 0 0,.int .i64 ((zY p s mode).2.2)] (zjr (t_r ?_)))
  replace H:=H.addNil (α:=qY)
  refine ret2 (.slice none 0 0) (.int .i64 ((zY p s mode).2.2)) rfl rfl rfl ⟨_,rfl,?_,H.base⟩
  rw [rt_c qm]
  exact ⟨none,0,[],rfl,(N.emp.pick [0]),H.pick [] [0]⟩
 ·skip
  replace h12:=xB h12
  obtain ⟨k0,gl,gn⟩:=pg_all h12
  have hc:=h12
  refine xf (t_n (zcr (sw (jY H Tryz.underlying32 ti39 fun b13 w14 H=>sp (.slice (some ⟨b13,0,none⟩) 0 0) (zjcc (sp (.slice ra5a (((zY p s mode).1).length) rc5a) (oN rfl (sp (.int .i64 0) (zjn (xm ?_))))))))))
  have H0:=H
  obtain ⟨G15,hg17,hn16,H⟩:=H.QA (α:=qY) 1 rfl 0 rfl qj
  replace N:Fresh w.heap.size [G15,rF5b]:=Fresh.ice N H0 1 hg17.1 hg17.2 (H0.jG [1])
  clear H0
  obtain ⟨xs18,B19,P20,N,H⟩:=H.pool (α:=qY) 0 rfl N
  replace H:=H.boxRow 0 rfl 2 0 rfl qj
  replace H:=H.vY (α:=qY)
  replace H:St _ _ [rr (some ⟨b13,0,none⟩) 0 0 39 2 [],rr none 0 0 0 1 [],rr ra5b (((zY p s mode).2.1).length) rc5b 22 1 rx5b,.box b3 [.slice asCells s.qG.length csCells,.slice qR s.qF.length qQ] 39,.box b1 [.int .i64 p.qJ,.slice qI p.qC.length qH,.slice apFree p.qL.length cpFree,.slice qV p.qB.length qM] 37] [xR true [] [] ([]:List qY),xR true P20 (xs18.drop (0 * 2)) (((zY p s mode).1).drop 0),cellsF B19 (.slice ra5a (((zY p s mode).1).length) rc5a) xs18,sF true G15 ra5a rc5a ((zY p s mode).1),xR true rF5a rx5a ((zY p s mode).1),xR true rF5b rx5b ((zY p s mode).2.1),sF false xe qI qH p.qC,sF false FpFree apFree cpFree p.qL,sF false xx qV qM p.qB,sF false FsCells asCells csCells s.qG,sF false xw qR qQ s.qF]:=H
  refine zC (fun m' ρ w21=>∃ (zn:Env) (vw:yOA) (zV:Nat) (vk:Nat) (out:List qY) (Qy:List Value) (Qw:yLN) (i:Nat) (P_i:yLN),ρ=upd (upd (upd (upd (upd zn 9 (.slice ra5b (((zY p s mode).2.1).length) rc5b)) 11 (.slice vw zV vk)) 26 (.slice ra5a (((zY p s mode).1).length) rc5a)) 27 (.int .i64 (((zY p s mode).1).length))) 28 (.int .i64 i)∧out=(yC (zY p s mode).1 (zY p s mode).2.1 i)∧((i:Int)≤(((zY p s mode).1).length))∧m' =((((zY p s mode).1).length) - (i:Int)).toNat∧Fresh w.heap.size [rF5b,Qw,P_i]∧St w w21 [rr vw zV vk 39 2 Qy,rr ra5b (((zY p s mode).2.1).length) rc5b 22 1 rx5b,.box b3 [.slice asCells s.qG.length csCells,.slice qR s.qF.length qQ] 39,.box b1 [.int .i64 p.qJ,.slice qI p.qC.length qH,.slice apFree p.qL.length cpFree,.slice qV p.qB.length qM] 37] [xR true Qw Qy out,xR true P_i (xs18.drop (i * 2)) (((zY p s mode).1).drop i),cellsF B19 (.slice ra5a (((zY p s mode).1).length) rc5a) xs18,sF true G15 ra5a rc5a ((zY p s mode).1),xR true rF5b rx5b ((zY p s mode).2.1),sF false xe qI qH p.qC,sF false FpFree apFree cpFree p.qL,sF false xx qV qM p.qB,sF false FsCells asCells csCells s.qG,sF false xw qR qQ s.qF]) (((((zY p s mode).1).length) - (0:Int)).toNat) ⟨_,(some ⟨b13,0,none⟩),0,0,([]:List qY),[],[],0,P20,uE5,(by rfl),qg,rfl,(N.emp.pick [2,0,1]),H.pick [0,2,3,4] [0,1,2,3,5,6,7,8,9,10]⟩ ?_
  clear H N
  rintro m' ρ w22 ⟨zn,vw,zV,vk,out,Qy,Qw,i,P_i,rfl,rfl,i0,rfl,N,H⟩
  have hn_out:=H.zy (α:=qY) 0 rfl 0 rfl qj
  have rl:=rest_len (zY p s mode).1 (zY p s mode).2.1 i
  refine zcr (sp (.bool (decide ((i:Int) < (((zY p s mode).1).length)))) (zjn (xP (cD rfl (fun h23=>?_) (fun h23=>?_)))))
  ·skip
   refine xf (t_n (xP (xm (zcr (sp (.int .i64 i) ?_)))))
   obtain ⟨b24,o25,rfl⟩:=H.addr 3 rfl qg
   obtain ⟨ae27Cells,ce27Cells,Fe27Cells,ae27Around,ce27Around,Fe27Around,P28,N,H⟩:=H.drain_StockD 2 rfl 1 rfl ((N.pick [2,0,1]):Fresh w.heap.size [P_i,rF5b,Qw]) i i qg qg qg
   refine oI rfl rfl (sw (zf [.slice ae27Cells (((((zY p s mode).1)[i]!).qG).length) ce27Cells,.slice ae27Around (((((zY p s mode).1)[i]!).qF).length) ce27Around] Tryz.isAgg39 Tryz.sizeOf39 rfl (qN (H.get 2 rfl) 0 2) (sw (jq H ti39 [.slice none 0 0,.slice none 0 0] fun b29 w30 H=>sp (.int .i64 i) (sw (jC H 0 [.slice ae27Cells (((((zY p s mode).1)[i]!).qG).length) ce27Cells,.slice ae27Around (((((zY p s mode).1)[i]!).qF).length) ce27Around] Tryz.sizeOf39 fun w31 H=>zjc (sps [.slice ra5b (((zY p s mode).2.1).length) rc5b,.int .i64 i] ?_)))))))
   obtain ⟨b32,rfl⟩:=H.yj 2 rfl qg
   refine oI rfl rfl ?_
   obtain ⟨a33,c34,G35,s36,h37,H⟩:=H.jU 2 rfl 8 rfl (iv:=i) i qg qg
   refine oL rfl (h37) (oN rfl (sp (.bool (((((zY p s mode).2.1)[i]!).length:Int) == 0)) (zjn (cE rfl (fun h38=>?_) (fun h38=>?_)))))
   ·skip
    refine xJ (sp (.slice vw zV vk) (sw (zf [.slice ae27Cells (((((zY p s mode).1)[i]!).qG).length) ce27Cells,.slice ae27Around (((((zY p s mode).1)[i]!).qF).length) ce27Around] Tryz.isAgg39 Tryz.sizeOf39 rfl (qN (H.cells 0 rfl) 0 2) (sw (zu H Tryz.underlying32 ti39 [.slice ae27Cells (((((zY p s mode).1)[i]!).qG).length) ce27Cells,.slice ae27Around (((((zY p s mode).1)[i]!).qF).length) ce27Around] fun b39 w40 H=>sw (zA H 2 rfl 0 rfl Tryz.underlying32 ti39 rfl qj rfl rfl rfl qx qw qg fun a41 c42 w43 H=>?_))))))
    replace H:=H.snoc_StockD 5 rfl 1 rfl 2 rfl
    replace N:Fresh w.heap.size [(Qw++(Fe27Cells++Fe27Around)),P28,rF5b]:=(N.pick [0,1,4,2,3]).join.swap.join
    refine sp (.slice a41 (zV+1) c42) (xN (b_n (t_n (xJ (sw (xQ i 1 rfl rfl qg (sp (.int .i64 (i+1)) (xN (xg (m' :=((((zY p s mode).1).length) - ((i+1):Int)).toNat) qg ⟨_,a41,zV+1,c42,((yC (zY p s mode).1 (zY p s mode).2.1 i)++[⟨(((zY p s mode).1)[i]!).qG,(((zY p s mode).1)[i]!).qF⟩]),Qy++[.slice ae27Cells (((((zY p s mode).1)[i]!).qG).length) ce27Cells,.slice ae27Around (((((zY p s mode).1)[i]!).qF).length) ce27Around],(Qw++(Fe27Cells++Fe27Around)),i+1,P28,uE5,?_,?_,rfl,(N.pick [2,0,1]),H.pick [2,3,4,5] [0,5,8,9,10,11,12,13,14,15]⟩)))))))))
    · first | exact rest_yes qg | exact rest_no qg
    · omega
   ·skip
    refine xf (b_n (t_n (xJ (sw (xQ i 1 rfl rfl qg (sp (.int .i64 (i+1)) (xN (xg (m' :=((((zY p s mode).1).length) - ((i+1):Int)).toNat) qg ⟨_,vw,zV,vk,(yC (zY p s mode).1 (zY p s mode).2.1 i),Qy,Qw,i+1,P28,uE5,?_,?_,rfl,(N.pick [3,4,2]),H.pick [1,2,3,4] [5,4,7,8,9,10,11,12,13,14]⟩))))))))
    · first | exact rest_yes qg | exact rest_no qg
    · omega
  ·skip
   refine zx4 (zcr (sps [.slice vw zV vk,.slice vw zV vk,.int .i64 0] (zjr ?_)))
   have H0:=H
   obtain ⟨G44,hg46,hn45,H⟩:=H.QA (α:=qY) 0 rfl 0 rfl qj
   replace N:Fresh w.heap.size [G44,rF5b,P_i]:=Fresh.ice (N.pick [1,0,2]) H0 0 hg46.1 hg46.2 (H0.jG [4,1])
   clear H0
   obtain rfl:=H.isLen 0 rfl
   refine ret2 (.slice vw ((yC (zY p s mode).1 (zY p s mode).2.1 i).length) vk) (.int .i64 0) rfl rfl rfl ⟨_,rfl,?_,H.base⟩
   rw [rt_0 hc (i:=i) qg]
   exact ⟨vw,vk,G44,rfl,(N.pick [0]),H.pick [] [0]⟩
theorem law_RestStocks (w:World) (aP:qW) (aS:qY) (aMode:Int) (ji:yOA) (jg:Nat) (QG:yLN) (aaPFree:yOA) (caPFree:Nat) (FaPFree:yLN) (yJ:yOA) (yG:Nat) (FaPRules:yLN) (aaSCells:yOA) (caSCells:Nat) (FaSCells:yLN) (jL:yOA) (jJ:Nat) (FaSAround:yLN) (haPParents:qU.rep w QG [.slice ji aP.qC.length jg] aP.qC) (haPFree:qU.rep w FaPFree [.slice aaPFree aP.qL.length caPFree] aP.qL) (haPRules:qU.rep w FaPRules [.slice yJ aP.qB.length yG] aP.qB) (haSCells:qU.rep w FaSCells [.slice aaSCells aS.qG.length caSCells] aS.qG) (haSAround:qU.rep w FaSAround [.slice jL aS.qF.length jJ] aS.qF):Calls Tryz.prog 5 #[.agg #[.int .i64 aP.qJ,.slice ji aP.qC.length jg,.slice aaPFree aP.qL.length caPFree,.slice yJ aP.qB.length yG],.agg #[.slice aaSCells aS.qG.length caSCells,.slice jL aS.qF.length jJ],.int .i64 aMode] w (Ret (fun v w' =>v=.bool true) w):=by
 refine en Tryz.func5 Tryz.ntmps5 ?_
 have H:=(((((St.start w).arg haSAround).arg haSCells).arg haPRules).arg haPFree).arg haPParents
 have nhaPParents:=qO haPParents
 have nhaPFree:=qO haPFree
 have nhaPRules:=qO haPRules
 have nhaSCells:=qO haSCells
 have nhaSAround:=qO haSAround
 clear haPParents haPFree haPRules haSCells haSAround
 have N:=Fresh.nil w.heap.size
 have A:=H.ltN (L:=[QG,FaPFree,FaPRules,FaSCells,FaSAround]) [0,1,2,3,4]
 have t1:=QF aP
 have t2:=tot_StockD aS
 have c0:=cntL_tot aP.qC
 have c1:=cntL_tot aP.qL
 have c2:=cntL_tot aP.qB
 have c3:=cntL_tot aS.qG
 have c4:=cntL_tot aS.qF
 have f1:=few_rt aP aS aMode
 refine zcr (sw (jA H [.int .i64 aP.qJ,.slice ji aP.qC.length jg,.slice aaPFree aP.qL.length caPFree,.slice yJ aP.qB.length yG] fun b1 w2 H=>sw (jA H [.slice aaSCells aS.qG.length caSCells,.slice jL aS.qF.length jJ] fun b3 w4 H=>sp (.bool false) (zjc (sp (.int .i64 1048576) (zjc (sw (zf [.int .i64 aP.qJ,.slice ji aP.qC.length jg,.slice aaPFree aP.qL.length caPFree,.slice yJ aP.qB.length yG] Tryz.isAgg26 Tryz.sizeOf26 rfl (qN (H.cells 1 rfl) 0 4) (sp (.int .i64 1048576) ?_)))))))))
 refine sw (oq (szPassing_ok _ aP 1048576 (H.get 0 rfl).1 (H.get 1 rfl).1 (H.get 2 rfl).1 qg) H fun w5 H=>?_)
 have:=zM (tot aP) 1048576
 refine sp (.int .i64 (szR (tot aP) 1048576)) (zjcc (sps [.int .i64 (szR (tot aP) 1048576),.bool (decide ((szR (tot aP) 1048576:Int) < 0))] (zjn (cD rfl (fun h7=>?_) (fun h7=>?_)))))
 ·skip
  refine zcr (sp (.bool true) (zjr (t_r (ret1 (.bool true) rfl rfl ⟨_,rfl,?_,H.base⟩))))
  rfl
 ·skip
  refine xf (t_n (zcr (sw (zf [.slice aaSCells aS.qG.length caSCells,.slice jL aS.qF.length jJ] Tryz.isAgg29 Tryz.sizeOf29 rfl (qN (H.cells 0 rfl) 0 2) (sp (.int .i64 (szR (tot aP) 1048576)) (sw (oq (szStock_ok _ aS (szR (tot aP) 1048576) (H.get 3 rfl).1 (H.get 4 rfl).1 qg) H fun w8 H=>?_)))))))
  have:=zM (tot aS) (szR (tot aP) 1048576)
  refine sp (.int .i64 (szR (tot aS) (szR (tot aP) 1048576))) (zjcc (sps [.int .i64 (szR (tot aS) (szR (tot aP) 1048576)),.bool (decide ((szR (tot aS) (szR (tot aP) 1048576):Int) < 0))] (zjn (cD rfl (fun h10=>?_) (fun h10=>?_)))))
  ·skip
   refine zcr (sp (.bool true) (zjr (t_r (ret1 (.bool true) rfl rfl ⟨_,rfl,?_,H.base⟩))))
   rfl
  ·skip
   refine xf (t_n (xP ?_))
   refine vH rfl H fun H=>rt 0 (.agg #[.int .i64 aP.qJ,.slice ji aP.qC.length jg,.slice aaPFree aP.qL.length caPFree,.slice yJ aP.qB.length yG]) (yZ (cs:=[.int .i64 aP.qJ,.slice ji aP.qC.length jg,.slice aaPFree aP.qL.length caPFree,.slice yJ aP.qB.length yG]) Tryz.isAgg26 Tryz.sizeOf26 rfl (fun _ h=>qN (h.cells 1 rfl) 0 4)) H ?_
   refine rt 2 (.agg #[.slice aaSCells aS.qG.length caSCells,.slice jL aS.qF.length jJ]) (yZ (cs:=[.slice aaSCells aS.qG.length caSCells,.slice jL aS.qF.length jJ]) Tryz.isAgg29 Tryz.sizeOf29 rfl (fun _ h=>qN (h.cells 0 rfl) 0 2)) H ?_
   refine rtp 4 (.int .i64 aMode) H ?_
   refine ro 1 rfl ?_
   have sz12:=H.base.size
   refine oc (toPassing_ok _ aP (H.get 0 rfl).1 (H.get 1 rfl).1 (H.get 2 rfl).1 qh) ?_
   rintro v17 w15 r17 x16
   obtain ⟨a17Parents,c17Parents,vW,a17Free,c17Free,F17Free,a17Rules,c17Rules,yf,rfl,f17,H⟩:=H.add_PassingD x16 r17
   replace N:=N.cons f17 sz12 (by intro F hF;simp at hF)
   replace N:=N.split
   replace N:=N.split
   refine ⟨H.pick [0,1] [3,4,5,6,7],(ro 3 rfl ?_)⟩
   have sz18:=H.base.size
   have lt19:=H.ltN (L:=[vW,F17Free,yf]) [0,1,2]
   refine oc (toStock_ok _ aS (H.get 6 rfl).1 (H.get 7 rfl).1 qh) ?_
   rintro v23 w21 r23 x22
   obtain ⟨a23Cells,c23Cells,F23Cells,a23Around,c23Around,jE,rfl,f23,H⟩:=H.add_StockD x22 r23
   replace N:=N.cons f23 sz18 lt19
   replace N:=N.split
   refine ⟨H.pick [0,1] [5,6,7,8,9],(ro 5 rfl ?_)⟩
   have sz27:=H.base.size
   have lt28:=H.ltN (L:=[F23Cells,jE,vW,F17Free,yf]) [0,1,2,3,4]
   refine oc (specRest_ok _ aP aS aMode (H.get 2 rfl).1 (H.get 3 rfl).1 (H.get 4 rfl).1 (H.get 0 rfl).1 (H.get 1 rfl).1) ?_
   rintro _ w25 ⟨ra24a,rc24a,rF24a,rfl,M,K⟩ _
   replace N:=N.merge sz27 lt28 M
   replace H:=H.merge K M
   refine ⟨H.pick [0,1] [6,7,8,9,10],?_⟩
   have S:=H.zq [0,1] [6,7,8,9,10]
   refine rtp 6 (.tuple #[.slice ra24a (((zl aP aS aMode).1).length) rc24a,.int .i64 ((zl aP aS aMode).2)]) S ?_
   refine rtp 7 (.slice ra24a (((zl aP aS aMode).1).length) rc24a) S ?_
   refine rtp 8 (.int .i64 ((zl aP aS aMode).2)) S ?_
   refine rtp 9 (.slice ra24a (((zl aP aS aMode).1).length) rc24a) S ?_
   refine rtp 10 (.int .i64 ((zl aP aS aMode).2)) S ?_
   refine xI qi (t_n (zcr (sw (zf [.int .i64 aP.qJ,.slice ji aP.qC.length jg,.slice aaPFree aP.qL.length caPFree,.slice yJ aP.qB.length yG] Tryz.isAgg26 Tryz.sizeOf26 rfl (qN (H.cells 1 rfl) 0 4) ?_))))
   have sz29:=H.base.size
   have lt30:=H.ltN (L:=[rF24a,F23Cells,jE,vW,F17Free,yf]) [0,1,2,3,4,5]
   refine sw (oc (toPassing_ok _ aP (H.get 6 rfl).1 (H.get 7 rfl).1 (H.get 8 rfl).1 qh) ?_)
   rintro v34 w32 r34 x33
   obtain ⟨jP,jO,vV,a34Free,c34Free,F34Free,Qm,Ql,yc,rfl,f34,H⟩:=H.add_PassingD x33 r34
   replace N:=N.cons f34 sz29 lt30
   replace N:=N.split
   replace N:=N.split
   refine sw (jq H ti37 [.int .i64 0,.slice none 0 0,.slice none 0 0,.slice none 0 0] fun b35 w36 H=>sw (jC H 0 [.int .i64 aP.qJ,.slice jP aP.qC.length jO,.slice a34Free aP.qL.length c34Free,.slice Qm aP.qB.length Ql] Tryz.sizeOf37 fun w37 H=>zjc (sw (zf [.slice aaSCells aS.qG.length caSCells,.slice jL aS.qF.length jJ] Tryz.isAgg29 Tryz.sizeOf29 rfl (qN (H.cells 1 rfl) 0 2) ?_))))
   have sz38:=H.base.size
   have lt39:=H.ltN (L:=[vV,F34Free,yc,rF24a,F23Cells,jE,vW,F17Free,yf]) [0,1,2,3,4,5,6,7,8]
   refine sw (oc (toStock_ok _ aS (H.get 12 rfl).1 (H.get 13 rfl).1 qh) ?_)
   rintro v43 w41 r43 x42
   obtain ⟨a43Cells,c43Cells,F43Cells,yK,yH,jD,rfl,f43,H⟩:=H.add_StockD x42 r43
   replace N:=N.cons f43 sz38 lt39
   replace N:=N.split
   refine sw (jq H ti39 [.slice none 0 0,.slice none 0 0] fun b44 w45 H=>sw (jC H 0 [.slice a43Cells aS.qG.length c43Cells,.slice yK aS.qF.length yH] Tryz.sizeOf39 fun w46 H=>zjc (sw (zf [.int .i64 aP.qJ,.slice jP aP.qC.length jO,.slice a34Free aP.qL.length c34Free,.slice Qm aP.qB.length Ql] Tryz.isAgg37 Tryz.sizeOf37 rfl (qN (H.cells 1 rfl) 0 4) (sw (zf [.slice a43Cells aS.qG.length c43Cells,.slice yK aS.qF.length yH] Tryz.isAgg39 Tryz.sizeOf39 rfl (qN (H.cells 0 rfl) 0 2) (sp (.int .i64 aMode) ?_)))))))
   have sz50:=H.base.size
   have lt51:=H.ltN (L:=[F43Cells,jD,vV,F34Free,yc,rF24a,F23Cells,jE,vW,F17Free,yf]) [0,1,2,3,4,5,6,7,8,9,10]
   refine sw (oc (implRest_ok _ aP aS aMode (H.get 2 rfl).1 (H.get 3 rfl).1 (H.get 4 rfl).1 (H.get 0 rfl).1 (H.get 1 rfl).1) ?_)
   rintro _ w48 ⟨ra47a,rc47a,rF47a,rfl,M,K⟩ _
   replace N:=N.merge sz50 lt51 M
   replace H:=H.merge K M
   refine sps [.tuple #[.slice ra47a (((zl aP aS aMode).1).length) rc47a,.int .i64 ((zl aP aS aMode).2)],.slice ra47a (((zl aP aS aMode).1).length) rc47a,.int .i64 ((zl aP aS aMode).2),.slice ra47a (((zl aP aS aMode).1).length) rc47a,.int .i64 ((zl aP aS aMode).2)] (zjcc (sps [.slice ra47a (((zl aP aS aMode).1).length) rc47a,.slice ra24a (((zl aP aS aMode).1).length) rc24a] (sw (oq (eqStockS_ok _ ((zl aP aS aMode).1) ((zl aP aS aMode).1) (H.get 0 rfl).1 (H.get 6 rfl).1) H fun w52 H=>?_))))
   refine sps [.bool (!(decide (((zl aP aS aMode).1)=((zl aP aS aMode).1)))),.bool (!(decide (((zl aP aS aMode).1)=((zl aP aS aMode).1))))] ?_
   cases h54:(!(decide (((zl aP aS aMode).1)=((zl aP aS aMode).1))))
   ·skip
    replace h54:=xn h54
    refine qZ 53 rfl rfl (sp (.int .i64 ((zl aP aS aMode).2)) (qZ 53 rfl rfl (sp (.int .i64 ((zl aP aS aMode).2)) (qZ 53 rfl rfl (sps [.bool (((zl aP aS aMode).2:Int) != ((zl aP aS aMode).2)),.bool (((zl aP aS aMode).2:Int) != ((zl aP aS aMode).2))] (zjn (xG (((zl aP aS aMode).2:Int) != ((zl aP aS aMode).2)) rfl (fun h=>absurd rfl (bne_iff_ne.1 h)) (fun h55=>?_))))))))
    replace h55:=xB h55
    refine xf (t_n (xP (xP ?_)))
    refine vH rfl H fun H=>rt 0 (.agg #[.int .i64 aP.qJ,.slice jP aP.qC.length jO,.slice a34Free aP.qL.length c34Free,.slice Qm aP.qB.length Ql]) (yZ (cs:=[.int .i64 aP.qJ,.slice jP aP.qC.length jO,.slice a34Free aP.qL.length c34Free,.slice Qm aP.qB.length Ql]) Tryz.isAgg37 Tryz.sizeOf37 rfl (fun _ h=>qN (h.cells 1 rfl) 0 4)) H ?_
    refine rt 1 (.agg #[.int .i64 aP.qJ,.slice ji aP.qC.length jg,.slice aaPFree aP.qL.length caPFree,.slice yJ aP.qB.length yG]) (yZ (cs:=[.int .i64 aP.qJ,.slice ji aP.qC.length jg,.slice aaPFree aP.qL.length caPFree,.slice yJ aP.qB.length yG]) Tryz.isAgg26 Tryz.sizeOf26 rfl (fun _ h=>qN (h.cells 3 rfl) 0 4)) H ?_
    refine ro 2 rfl ?_
    have sz57:=H.base.size
    have lt58:=H.ltN (L:=[rF47a,F43Cells,jD,vV,F34Free,yc,rF24a,F23Cells,jE,vW,F17Free,yf]) [0,1,2,3,4,5,6,7,8,9,10,11]
    refine oc (toPassing_ok _ aP (H.get 12 rfl).1 (H.get 13 rfl).1 (H.get 14 rfl).1 qh) ?_
    rintro v62 w60 r62 x61
    obtain ⟨a62Parents,c62Parents,yh,a62Free,c62Free,F62Free,a62Rules,c62Rules,Qx,rfl,f62,H⟩:=H.add_PassingD x61 r62
    replace N:=N.cons f62 sz57 lt58
    replace N:=N.split
    replace N:=N.split
    refine ⟨H.pick [0,1,2,3] [3,4,5,6,7,8,9,10,11,12,13,14,15,16,17,18,19],(ro 3 rfl (oq (eqPassing_ok _ aP aP (H.get 6 rfl).1 (H.get 7 rfl).1 (H.get 8 rfl).1 (H.get 0 rfl).1 (H.get 1 rfl).1 (H.get 2 rfl).1) H fun w63 H=>⟨H.pick [0,1,2,3] [3,4,5,6,7,8,9,10,11,12,13,14,15,16,17,18,19],(rtp 4 (.bool (!(decide (aP=aP)))) (H.pick [0,1,2,3] [3,4,5,6,7,8,9,10,11,12,13,14,15,16,17,18,19]) ?_)⟩))⟩
    refine xI qi (t_n (xG (!(decide (aP=aP))) rfl (fun h=>absurd (xy h) qo) (fun h65=>?_)))
    replace h65:=xn h65
    refine xf (t_n (xP (xP ?_)))
    refine vH rfl H fun H=>rt 0 (.agg #[.slice a43Cells aS.qG.length c43Cells,.slice yK aS.qF.length yH]) (yZ (cs:=[.slice a43Cells aS.qG.length c43Cells,.slice yK aS.qF.length yH]) Tryz.isAgg39 Tryz.sizeOf39 rfl (fun _ h=>qN (h.cells 0 rfl) 0 2)) H ?_
    refine rt 1 (.agg #[.slice aaSCells aS.qG.length caSCells,.slice jL aS.qF.length jJ]) (yZ (cs:=[.slice aaSCells aS.qG.length caSCells,.slice jL aS.qF.length jJ]) Tryz.isAgg29 Tryz.sizeOf29 rfl (fun _ h=>qN (h.cells 2 rfl) 0 2)) H ?_
    refine ro 2 rfl ?_
    have sz67:=H.base.size
    have lt68:=H.ltN (L:=[yh,F62Free,Qx,rF47a,F43Cells,jD,vV,F34Free,yc,rF24a,F23Cells,jE,vW,F17Free,yf]) [0,1,2,3,4,5,6,7,8,9,10,11,12,13,14]
    refine oc (toStock_ok _ aS (H.get 18 rfl).1 (H.get 19 rfl).1 qh) ?_
    rintro v72 w70 r72 x71
    obtain ⟨a72Cells,c72Cells,F72Cells,a72Around,c72Around,Qe,rfl,f72,H⟩:=H.add_StockD x71 r72
    replace N:=N.cons f72 sz67 lt68
    replace N:=N.split
    refine ⟨H.pick [0,1,2,3] [2,3,4,5,6,7,8,9,10,11,12,13,14,15,16,17,18,19,20,21],(ro 3 rfl (oq (eqStock_ok _ aS aS (H.get 6 rfl).1 (H.get 7 rfl).1 (H.get 0 rfl).1 (H.get 1 rfl).1) H fun w73 H=>⟨H.pick [0,1,2,3] [2,3,4,5,6,7,8,9,10,11,12,13,14,15,16,17,18,19,20,21],(rtp 4 (.bool (!(decide (aS=aS)))) (H.pick [0,1,2,3] [2,3,4,5,6,7,8,9,10,11,12,13,14,15,16,17,18,19,20,21]) ?_)⟩))⟩
    refine xI qi (t_n (xG (!(decide (aS=aS))) rfl (fun h=>absurd (xy h) qo) (fun h75=>?_)))
    replace h75:=xn h75
    refine xf (t_n (zcr (sp (.int .i64 1) (zjc (sw (zf [.int .i64 aP.qJ,.slice jP aP.qC.length jO,.slice a34Free aP.qL.length c34Free,.slice Qm aP.qB.length Ql] Tryz.isAgg37 Tryz.sizeOf37 rfl (qN (H.cells 1 rfl) 0 4) (sp (.int .i64 1) ?_)))))))
    have N76:Fresh w.heap.size [vV,F34Free,yc,F72Cells,Qe,yh,F62Free,Qx,rF47a,F43Cells,jD,rF24a,F23Cells,jE,vW,F17Free,yf]:=(N.pick [8,9,10,0,1,2,3,4,5,6,7,11,12,13,14,15,16])
    refine sw (o_callM #[.agg #[.int .i64 aP.qJ,.slice jP aP.qC.length jO,.slice a34Free aP.qL.length c34Free,.slice Qm aP.qB.length Ql],.int .i64 1] rfl rfl Tryz.call16 (markPassing_ok w73 aP 1 jP jO vV a34Free c34Free F34Free Qm Ql yc (H.get 8 rfl).1 (H.get 9 rfl).1 (H.get 10 rfl).1 (N76.pick [0,1,2]:Fresh _ [vV,F34Free,yc]).join.join.one.2 ((((H.get 8 rfl).2 rfl).app ((H.get 9 rfl).2 rfl)).app ((H.get 10 rfl).2 rfl)) qg qg) ?_)
    rintro _ w77 ⟨rfl,m79⟩ x78
    replace H:St _ _ [.box b44 [.slice a43Cells aS.qG.length c43Cells,.slice yK aS.qF.length yH] 39,.box b35 [.int .i64 aP.qJ,.slice jP aP.qC.length jO,.slice a34Free aP.qL.length c34Free,.slice Qm aP.qB.length Ql] 37,.box b3 [.slice aaSCells aS.qG.length caSCells,.slice jL aS.qF.length jJ] 29,.box b1 [.int .i64 aP.qJ,.slice ji aP.qC.length jg,.slice aaPFree aP.qL.length caPFree,.slice yJ aP.qB.length yG] 26] [isF true vV (.slice jP aP.qC.length jO) (mrk aP.qC (1)),isF true F34Free (.slice a34Free aP.qL.length c34Free) (mrk aP.qL (1+(cnt aP.qC:Nat))),isF true yc (.slice Qm aP.qB.length Ql) (mrk aP.qB (1+(cnt aP.qC:Nat)+(cnt aP.qL:Nat))),sF true F72Cells a72Cells c72Cells aS.qG,sF true Qe a72Around c72Around aS.qF,sF true yh a62Parents c62Parents aP.qC,sF true F62Free a62Free c62Free aP.qL,sF true Qx a62Rules c62Rules aP.qB,sF true rF47a ra47a rc47a ((zl aP aS aMode).1),sF true F43Cells a43Cells c43Cells aS.qG,sF true jD yK yH aS.qF,sF true rF24a ra24a rc24a ((zl aP aS aMode).1),sF true F23Cells a23Cells c23Cells aS.qG,sF true jE a23Around c23Around aS.qF,sF true vW a17Parents c17Parents aP.qC,sF true F17Free a17Free c17Free aP.qL,sF true yf a17Rules c17Rules aP.qB,sF false QG ji jg aP.qC,sF false FaPFree aaPFree caPFree aP.qL,sF false FaPRules yJ yG aP.qB,sF false FaSCells aaSCells caSCells aS.qG,sF false FaSAround jL jJ aS.qF]:=H.chgFacts (Fs:=[vV,F34Free,yc]) (L:=[F72Cells,Qe,yh,F62Free,Qx,rF47a,F43Cells,jD,rF24a,F23Cells,jE,vW,F17Free,yf]) (A:=[QG,FaPFree,FaPRules,FaSCells,FaSAround]) N76 A (x78.mono (by intro z hz;simpa using hz)) [8,9,10] [isF true vV (.slice jP aP.qC.length jO) (mrk aP.qC (1)),isF true F34Free (.slice a34Free aP.qL.length c34Free) (mrk aP.qL (1+(cnt aP.qC:Nat))),isF true yc (.slice Qm aP.qB.length Ql) (mrk aP.qB (1+(cnt aP.qC:Nat)+(cnt aP.qL:Nat)))] (all_of ⟨m79.1,⟨m79.2.1,⟨m79.2.2,trivial⟩⟩⟩) [0,1,2,3,4,5,6,7,11,12,13,14,15,16,17,18,19,20,21] [0,1,2,3,4,5,6,7,8,9,10,11,12,13,14,15,16,17,18]
    replace N:=N76
    refine sp (.int .i64 (1+(cnt aP.qC:Nat)+(cnt aP.qL:Nat)+(cnt aP.qB:Nat))) (zjc (sw (zf [.slice a43Cells aS.qG.length c43Cells,.slice yK aS.qF.length yH] Tryz.isAgg39 Tryz.sizeOf39 rfl (qN (H.cells 0 rfl) 0 2) (sp (.int .i64 (1+(cnt aP.qC:Nat)+(cnt aP.qL:Nat)+(cnt aP.qB:Nat))) ?_))))
    have N80:Fresh w.heap.size [F43Cells,jD,vV,F34Free,yc,F72Cells,Qe,yh,F62Free,Qx,rF47a,rF24a,F23Cells,jE,vW,F17Free,yf]:=(N.pick [9,10,0,1,2,3,4,5,6,7,8,11,12,13,14,15,16])
    refine sw (o_callM #[.agg #[.slice a43Cells aS.qG.length c43Cells,.slice yK aS.qF.length yH],.int .i64 (1+(cnt aP.qC:Nat)+(cnt aP.qL:Nat)+(cnt aP.qB:Nat))] rfl rfl Tryz.call17 (markStock_ok w77 aS (1+(cnt aP.qC:Nat)+(cnt aP.qL:Nat)+(cnt aP.qB:Nat)) a43Cells c43Cells F43Cells yK yH jD (H.get 9 rfl).1 (H.get 10 rfl).1 (N80.pick [0,1]:Fresh _ [F43Cells,jD]).join.one.2 (((H.get 9 rfl).2 rfl).app ((H.get 10 rfl).2 rfl)) qg qg) ?_)
    rintro _ w81 ⟨rfl,m83⟩ x82
    replace H:St _ _ [.box b44 [.slice a43Cells aS.qG.length c43Cells,.slice yK aS.qF.length yH] 39,.box b35 [.int .i64 aP.qJ,.slice jP aP.qC.length jO,.slice a34Free aP.qL.length c34Free,.slice Qm aP.qB.length Ql] 37,.box b3 [.slice aaSCells aS.qG.length caSCells,.slice jL aS.qF.length jJ] 29,.box b1 [.int .i64 aP.qJ,.slice ji aP.qC.length jg,.slice aaPFree aP.qL.length caPFree,.slice yJ aP.qB.length yG] 26] [isF true F43Cells (.slice a43Cells aS.qG.length c43Cells) (mrk aS.qG (1+(cnt aP.qC:Nat)+(cnt aP.qL:Nat)+(cnt aP.qB:Nat))),isF true jD (.slice yK aS.qF.length yH) (mrk aS.qF (1+(cnt aP.qC:Nat)+(cnt aP.qL:Nat)+(cnt aP.qB:Nat)+(cnt aS.qG:Nat))),isF true vV (.slice jP aP.qC.length jO) (mrk aP.qC (1)),isF true F34Free (.slice a34Free aP.qL.length c34Free) (mrk aP.qL (1+(cnt aP.qC:Nat))),isF true yc (.slice Qm aP.qB.length Ql) (mrk aP.qB (1+(cnt aP.qC:Nat)+(cnt aP.qL:Nat))),sF true F72Cells a72Cells c72Cells aS.qG,sF true Qe a72Around c72Around aS.qF,sF true yh a62Parents c62Parents aP.qC,sF true F62Free a62Free c62Free aP.qL,sF true Qx a62Rules c62Rules aP.qB,sF true rF47a ra47a rc47a ((zl aP aS aMode).1),sF true rF24a ra24a rc24a ((zl aP aS aMode).1),sF true F23Cells a23Cells c23Cells aS.qG,sF true jE a23Around c23Around aS.qF,sF true vW a17Parents c17Parents aP.qC,sF true F17Free a17Free c17Free aP.qL,sF true yf a17Rules c17Rules aP.qB,sF false QG ji jg aP.qC,sF false FaPFree aaPFree caPFree aP.qL,sF false FaPRules yJ yG aP.qB,sF false FaSCells aaSCells caSCells aS.qG,sF false FaSAround jL jJ aS.qF]:=H.chgFacts (Fs:=[F43Cells,jD]) (L:=[vV,F34Free,yc,F72Cells,Qe,yh,F62Free,Qx,rF47a,rF24a,F23Cells,jE,vW,F17Free,yf]) (A:=[QG,FaPFree,FaPRules,FaSCells,FaSAround]) N80 A (x82.mono (by intro z hz;simpa using hz)) [9,10] [isF true F43Cells (.slice a43Cells aS.qG.length c43Cells) (mrk aS.qG (1+(cnt aP.qC:Nat)+(cnt aP.qL:Nat)+(cnt aP.qB:Nat))),isF true jD (.slice yK aS.qF.length yH) (mrk aS.qF (1+(cnt aP.qC:Nat)+(cnt aP.qL:Nat)+(cnt aP.qB:Nat)+(cnt aS.qG:Nat)))] (all_of ⟨m83.1,⟨m83.2,trivial⟩⟩) [0,1,2,3,4,5,6,7,8,11,12,13,14,15,16,17,18,19,20,21] [0,1,2,3,4,5,6,7,8,9,10,11,12,13,14,15,16,17,18,19]
    replace N:=N80
    refine sp (.int .i64 (1+(cnt aP.qC:Nat)+(cnt aP.qL:Nat)+(cnt aP.qB:Nat)+(cnt aS.qG:Nat)+(cnt aS.qF:Nat))) (zjcc (sps [.int .i64 (1+(cnt aP.qC:Nat)+(cnt aP.qL:Nat)+(cnt aP.qB:Nat)+(cnt aS.qG:Nat)+(cnt aS.qF:Nat)),.bool (decide ((1+(cnt aP.qC:Nat)+(cnt aP.qL:Nat)+(cnt aP.qB:Nat)+(cnt aS.qG:Nat)+(cnt aS.qF:Nat):Int) < 0)),.bool (decide ((1+(cnt aP.qC:Nat)+(cnt aP.qL:Nat)+(cnt aP.qB:Nat)+(cnt aS.qG:Nat)+(cnt aS.qF:Nat):Int) < 0))] ?_))
    cases h84:(decide ((1+(cnt aP.qC:Nat)+(cnt aP.qL:Nat)+(cnt aP.qB:Nat)+(cnt aS.qG:Nat)+(cnt aS.qF:Nat):Int) < 0))
    ·skip
     replace h84:=of_decide_eq_false h84
     refine qZ 76 rfl rfl (sp (.slice ra47a (((zl aP aS aMode).1).length) rc47a) (qZ 76 rfl rfl (sp (.slice ra24a (((zl aP aS aMode).1).length) rc24a) (qZ 76 rfl rfl (sw (oq (eqStockS_ok _ ((zl aP aS aMode).1) ((zl aP aS aMode).1) (H.get 10 rfl).1 (H.get 11 rfl).1) H fun w85 H=>qZ 76 rfl rfl (sps [.bool (!(decide (((zl aP aS aMode).1)=((zl aP aS aMode).1)))),.bool (!(decide (((zl aP aS aMode).1)=((zl aP aS aMode).1)))),.bool (!(decide (((zl aP aS aMode).1)=((zl aP aS aMode).1))))] ?_)))))))
     cases h87:(!(decide (((zl aP aS aMode).1)=((zl aP aS aMode).1))))
     ·skip
      replace h87:=xn h87
      refine qZ 82 rfl rfl (sp (.int .i64 ((zl aP aS aMode).2)) (qZ 82 rfl rfl (sp (.int .i64 ((zl aP aS aMode).2)) (qZ 82 rfl rfl (sps [.bool (((zl aP aS aMode).2:Int) != ((zl aP aS aMode).2)),.bool (((zl aP aS aMode).2:Int) != ((zl aP aS aMode).2))] (zjn (xG (((zl aP aS aMode).2:Int) != ((zl aP aS aMode).2)) rfl (fun h=>absurd rfl (bne_iff_ne.1 h)) (fun h88=>?_))))))))
      replace h88:=xB h88
      refine xf (t_n (zcr (sp (.int .i64 1) (zjc (sps [.slice ra47a (((zl aP aS aMode).1).length) rc47a,.int .i64 1] ?_)))))
      have N89:Fresh w.heap.size [rF47a,F43Cells,jD,vV,F34Free,yc,F72Cells,Qe,yh,F62Free,Qx,rF24a,F23Cells,jE,vW,F17Free,yf]:=(N.pick [10,0,1,2,3,4,5,6,7,8,9,11,12,13,14,15,16])
      refine sw (o_callM #[.slice ra47a (((zl aP aS aMode).1).length) rc47a,.int .i64 1] rfl rfl Tryz.call18 (markStockS_ok w85 ((zl aP aS aMode).1) 1 ra47a rc47a rF47a (H.get 10 rfl).1 (N89.pick [0]:Fresh _ [rF47a]).one.2 ((H.get 10 rfl).2 rfl) qg qg) ?_)
      rintro _ w90 ⟨rfl,m92⟩ x91
      replace H:St _ _ [.box b44 [.slice a43Cells aS.qG.length c43Cells,.slice yK aS.qF.length yH] 39,.box b35 [.int .i64 aP.qJ,.slice jP aP.qC.length jO,.slice a34Free aP.qL.length c34Free,.slice Qm aP.qB.length Ql] 37,.box b3 [.slice aaSCells aS.qG.length caSCells,.slice jL aS.qF.length jJ] 29,.box b1 [.int .i64 aP.qJ,.slice ji aP.qC.length jg,.slice aaPFree aP.qL.length caPFree,.slice yJ aP.qB.length yG] 26] [isF true rF47a (.slice ra47a (((zl aP aS aMode).1).length) rc47a) (mrk ((zl aP aS aMode).1) (1)),isF true F43Cells (.slice a43Cells aS.qG.length c43Cells) (mrk aS.qG (1+(cnt aP.qC:Nat)+(cnt aP.qL:Nat)+(cnt aP.qB:Nat))),isF true jD (.slice yK aS.qF.length yH) (mrk aS.qF (1+(cnt aP.qC:Nat)+(cnt aP.qL:Nat)+(cnt aP.qB:Nat)+(cnt aS.qG:Nat))),isF true vV (.slice jP aP.qC.length jO) (mrk aP.qC (1)),isF true F34Free (.slice a34Free aP.qL.length c34Free) (mrk aP.qL (1+(cnt aP.qC:Nat))),isF true yc (.slice Qm aP.qB.length Ql) (mrk aP.qB (1+(cnt aP.qC:Nat)+(cnt aP.qL:Nat))),sF true F72Cells a72Cells c72Cells aS.qG,sF true Qe a72Around c72Around aS.qF,sF true yh a62Parents c62Parents aP.qC,sF true F62Free a62Free c62Free aP.qL,sF true Qx a62Rules c62Rules aP.qB,sF true rF24a ra24a rc24a ((zl aP aS aMode).1),sF true F23Cells a23Cells c23Cells aS.qG,sF true jE a23Around c23Around aS.qF,sF true vW a17Parents c17Parents aP.qC,sF true F17Free a17Free c17Free aP.qL,sF true yf a17Rules c17Rules aP.qB,sF false QG ji jg aP.qC,sF false FaPFree aaPFree caPFree aP.qL,sF false FaPRules yJ yG aP.qB,sF false FaSCells aaSCells caSCells aS.qG,sF false FaSAround jL jJ aS.qF]:=H.chgFacts (Fs:=[rF47a]) (L:=[F43Cells,jD,vV,F34Free,yc,F72Cells,Qe,yh,F62Free,Qx,rF24a,F23Cells,jE,vW,F17Free,yf]) (A:=[QG,FaPFree,FaPRules,FaSCells,FaSAround]) N89 A (x91.mono (by intro z hz;simpa using hz)) [10] [isF true rF47a (.slice ra47a (((zl aP aS aMode).1).length) rc47a) (mrk ((zl aP aS aMode).1) (1))] (all_of ⟨m92,trivial⟩) [0,1,2,3,4,5,6,7,8,9,11,12,13,14,15,16,17,18,19,20,21] [0,1,2,3,4,5,6,7,8,9,10,11,12,13,14,15,16,17,18,19,20]
      replace N:=N89
      refine sp (.int .i64 (1+(cnt ((zl aP aS aMode).1):Nat))) (zjc (sp (.int .i64 1) (zjc (sps [.slice ra47a (((zl aP aS aMode).1).length) rc47a,.int .i64 1] ?_))))
      have hn93:=H.isLen 0 rfl
      refine sw (oq (args_eq (by rw [← hn93]) (heldStockS_ok _ (mrk ((zl aP aS aMode).1) (1)) 1 (hn93▸(H.get 0 rfl).1) (by first | exact mkd_mark _ _ | omega | (simp only [cnt_mark];first | exact mkd_mark _ _ | omega)) (by first | exact mkd_mark _ _ | omega | (simp only [cnt_mark];first | exact mkd_mark _ _ | omega)) (by first | exact mkd_mark _ _ | omega | (simp only [cnt_mark];first | exact mkd_mark _ _ | omega)))) H fun w94 H=>sp (.int .i64 (1+(cnt (mrk ((zl aP aS aMode).1) (1)):Nat))) (zjcc ?_))
      refine sps [.int .i64 (1+(cnt (mrk ((zl aP aS aMode).1) (1)):Nat)),.bool (decide ((1+(cnt (mrk ((zl aP aS aMode).1) (1)):Nat):Int) < 0))] (zjn (cD rfl (fun h96=>?_) (fun h96=>?_)))
      ·skip
       refine zcr (sp (.bool false) (zjr (t_r (ret1 (.bool false) rfl rfl ⟨_,rfl,?_,H.base⟩))))
       exfalso;first | omega | contradiction
      ·skip
       refine xf (t_n (zcc (sps [.int .i64 (1+(cnt (mrk ((zl aP aS aMode).1) (1)):Nat)),.int .i64 (1+(cnt ((zl aP aS aMode).1):Nat)),.bool ((1+(cnt (mrk ((zl aP aS aMode).1) (1)):Nat):Int) != (1+(cnt ((zl aP aS aMode).1):Nat)))] (zjn (xG ((1+(cnt (mrk ((zl aP aS aMode).1) (1)):Nat):Int) != (1+(cnt ((zl aP aS aMode).1):Nat))) rfl (fun h97=>?_) (fun h97=>?_))))))
       ·skip
        replace h97:=bne_iff_ne.1 h97
        refine zcr (sp (.bool false) (zjr (t_r (ret1 (.bool false) rfl rfl ⟨_,rfl,?_,H.base⟩))))
        exfalso;first | omega | contradiction | exact h97 (by simp only [cnt_mark])
       ·skip
        replace h97:=xB h97
        refine xf (t_n (xP ?_))
        refine vH rfl H fun H=>rt 0 (.agg #[.int .i64 aP.qJ,.slice ji aP.qC.length jg,.slice aaPFree aP.qL.length caPFree,.slice yJ aP.qB.length yG]) (yZ (cs:=[.int .i64 aP.qJ,.slice ji aP.qC.length jg,.slice aaPFree aP.qL.length caPFree,.slice yJ aP.qB.length yG]) Tryz.isAgg26 Tryz.sizeOf26 rfl (fun _ h=>qN (h.cells 3 rfl) 0 4)) H ?_
        refine rt 2 (.agg #[.slice aaSCells aS.qG.length caSCells,.slice jL aS.qF.length jJ]) (yZ (cs:=[.slice aaSCells aS.qG.length caSCells,.slice jL aS.qF.length jJ]) Tryz.isAgg29 Tryz.sizeOf29 rfl (fun _ h=>qN (h.cells 2 rfl) 0 2)) H ?_
        refine rtp 4 (.int .i64 aMode) H ?_
        refine ro 1 rfl ?_
        have sz99:=H.base.size
        have lt100:=H.ltN (L:=[rF47a,F43Cells,jD,vV,F34Free,yc,F72Cells,Qe,yh,F62Free,Qx,rF24a,F23Cells,jE,vW,F17Free,yf]) [0,1,2,3,4,5,6,7,8,9,10,11,12,13,14,15,16]
        refine oc (toPassing_ok _ aP (H.get 17 rfl).1 (H.get 18 rfl).1 (H.get 19 rfl).1 qh) ?_
        rintro v104 w102 r104 x103
        obtain ⟨a104Parents,c104Parents,F104Parents,a104Free,c104Free,F104Free,a104Rules,c104Rules,F104Rules,rfl,f104,H⟩:=H.add_PassingD x103 r104
        replace N:=N.cons f104 sz99 lt100
        replace N:=N.split
        replace N:=N.split
        refine ⟨H.pick [0,1,2,3] [3,4,5,6,7,8,9,10,11,12,13,14,15,16,17,18,19,20,21,22,23,24],(ro 3 rfl ?_)⟩
        have sz105:=H.base.size
        have lt106:=H.ltN (L:=[F104Parents,F104Free,F104Rules,rF47a,F43Cells,jD,vV,F34Free,yc,F72Cells,Qe,yh,F62Free,Qx,rF24a,F23Cells,jE,vW,F17Free,yf]) [0,1,2,3,4,5,6,7,8,9,10,11,12,13,14,15,16,17,18,19]
        refine oc (toStock_ok _ aS (H.get 23 rfl).1 (H.get 24 rfl).1 qh) ?_
        rintro v110 w108 r110 x109
        obtain ⟨a110Cells,c110Cells,F110Cells,a110Around,c110Around,F110Around,rfl,f110,H⟩:=H.add_StockD x109 r110
        replace N:=N.cons f110 sz105 lt106
        replace N:=N.split
        refine ⟨H.pick [0,1,2,3] [5,6,7,8,9,10,11,12,13,14,15,16,17,18,19,20,21,22,23,24,25,26],(ro 5 rfl ?_)⟩
        have sz114:=H.base.size
        have lt115:=H.ltN (L:=[F110Cells,F110Around,F104Parents,F104Free,F104Rules,rF47a,F43Cells,jD,vV,F34Free,yc,F72Cells,Qe,yh,F62Free,Qx,rF24a,F23Cells,jE,vW,F17Free,yf]) [0,1,2,3,4,5,6,7,8,9,10,11,12,13,14,15,16,17,18,19,20,21]
        refine oc (implRest_ok _ aP aS aMode (H.get 2 rfl).1 (H.get 3 rfl).1 (H.get 4 rfl).1 (H.get 0 rfl).1 (H.get 1 rfl).1) ?_
        rintro _ w112 ⟨ra111a,rc111a,rF111a,rfl,M,K⟩ _
        replace N:=N.merge sz114 lt115 M
        replace H:=H.merge K M
        refine ⟨H.pick [0,1,2,3] [6,7,8,9,10,11,12,13,14,15,16,17,18,19,20,21,22,23,24,25,26,27],?_⟩
        have S:=H.zq [0,1,2,3] [6,7,8,9,10,11,12,13,14,15,16,17,18,19,20,21,22,23,24,25,26,27]
        refine rtp 6 (.tuple #[.slice ra111a (((zl aP aS aMode).1).length) rc111a,.int .i64 ((zl aP aS aMode).2)]) S ?_
        refine rtp 7 (.slice ra111a (((zl aP aS aMode).1).length) rc111a) S ?_
        refine rtp 8 (.int .i64 ((zl aP aS aMode).2)) S ?_
        refine rtp 9 (.slice ra111a (((zl aP aS aMode).1).length) rc111a) S ?_
        refine rtp 10 (.int .i64 ((zl aP aS aMode).2)) S ?_
        refine xI qi (t_n (zcc (sps [.slice ra111a (((zl aP aS aMode).1).length) rc111a,.slice ra24a (((zl aP aS aMode).1).length) rc24a] (sw (oq (eqStockS_ok _ ((zl aP aS aMode).1) ((zl aP aS aMode).1) (H.get 0 rfl).1 (H.get 17 rfl).1) H fun w116 H=>sps [.bool (!(decide (((zl aP aS aMode).1)=((zl aP aS aMode).1)))),.bool (!(decide (((zl aP aS aMode).1)=((zl aP aS aMode).1))))] ?_)))))
        cases h118:(!(decide (((zl aP aS aMode).1)=((zl aP aS aMode).1))))
        ·skip
         replace h118:=xn h118
         refine qZ 111 rfl rfl (sp (.int .i64 ((zl aP aS aMode).2)) (qZ 111 rfl rfl (sp (.int .i64 ((zl aP aS aMode).2)) (qZ 111 rfl rfl (sps [.bool (((zl aP aS aMode).2:Int) != ((zl aP aS aMode).2)),.bool (((zl aP aS aMode).2:Int) != ((zl aP aS aMode).2))] (zjn (xG (((zl aP aS aMode).2:Int) != ((zl aP aS aMode).2)) rfl (fun h=>absurd rfl (bne_iff_ne.1 h)) (fun h119=>?_))))))))
         replace h119:=xB h119
         refine xf (t_n (zcr (sp (.int .i64 1) (zjc (sps [.slice ra47a (((zl aP aS aMode).1).length) rc47a,.int .i64 1] ?_)))))
         have hn120:=H.isLen 6 rfl
         refine sw (oq (args_eq (by rw [← hn120]) (heldStockS_ok _ (mrk ((zl aP aS aMode).1) (1)) 1 (hn120▸(H.get 6 rfl).1) (by first | exact mkd_mark _ _ | omega | (simp only [cnt_mark];first | exact mkd_mark _ _ | omega)) (by first | exact mkd_mark _ _ | omega | (simp only [cnt_mark];first | exact mkd_mark _ _ | omega)) (by first | exact mkd_mark _ _ | omega | (simp only [cnt_mark];first | exact mkd_mark _ _ | omega)))) H fun w121 H=>sp (.int .i64 (1+(cnt (mrk ((zl aP aS aMode).1) (1)):Nat))) (zjcc ?_))
         refine sps [.int .i64 (1+(cnt (mrk ((zl aP aS aMode).1) (1)):Nat)),.bool (decide ((1+(cnt (mrk ((zl aP aS aMode).1) (1)):Nat):Int) < 0))] (zjn (cD rfl (fun h123=>?_) (fun h123=>?_)))
         ·skip
          refine zcr (sp (.bool false) (zjr (t_r (ret1 (.bool false) rfl rfl ⟨_,rfl,?_,H.base⟩))))
          exfalso;first | omega | contradiction
         ·skip
          refine xf (t_n (zcc (sps [.int .i64 (1+(cnt (mrk ((zl aP aS aMode).1) (1)):Nat)),.int .i64 (1+(cnt ((zl aP aS aMode).1):Nat)),.bool ((1+(cnt (mrk ((zl aP aS aMode).1) (1)):Nat):Int) != (1+(cnt ((zl aP aS aMode).1):Nat)))] (zjn (xG ((1+(cnt (mrk ((zl aP aS aMode).1) (1)):Nat):Int) != (1+(cnt ((zl aP aS aMode).1):Nat))) rfl (fun h=>absurd h97 (bne_iff_ne.1 h)) (fun h124=>?_))))))
          replace h124:=xB h124
          refine xf (t_n (zcr (sp (.bool true) (zjr (ret1 (.bool true) rfl rfl ⟨_,rfl,?_,H.base⟩)))))
          rfl
        · exact absurd (xy h118) qo
     · exact absurd (xy h87) qo
    ·skip
     replace h84:=of_decide_eq_true h84
     refine zD [77,78,79,80] (sps [.bool true,.bool true] (zD [83,84,85] (sp (.bool true) (zjn (xG true rfl (fun _=>zcr (sp (.bool false) (zjr (t_r (ret1 (.bool false) rfl rfl ⟨_,rfl,?_,H.base⟩))))) (fun h=>absurd h qj))))))
     exfalso;first | omega | contradiction
   · exact absurd (xy h54) qo
end
section
open Go.ChangeShapes Go.WideShapes Go.ChangeAt Go.RowKit Go.Joins
set_option linter.unusedVariables false
set_option linter.unusedSimpArgs false
def Reads (P:Program) (t:TypeId) (α:Type) [qU α]:Prop:=
  ∀ {H:Type} {enc:TypeId×Value→H} {w:World} {spare:Nat→Bool} {held:Bool} {fuel:Nat} {cs:List Value} {x:DataW H×List MemPlace},
    DataW.trod enc P w 0 spare held fuel t cs=some x→∃ F,∃ y:α,qU.rep w F cs y

theorem reads_int {P:Program} {t:TypeId} (hu:P.underlying t=some (.int .i64)):Reads P t Int:=fun h=>by
  obtain ⟨n,rfl,_⟩:=DataW.trod_int hu h
  exact ⟨[],n,rfl,rfl⟩
theorem reads_bool {P:Program} {t:TypeId} (hu:P.underlying t=some .bool):Reads P t Bool:=fun h=>by
  obtain ⟨b,rfl,_⟩:=DataW.trod_bool hu h
  exact ⟨[],b,rfl,rfl⟩

theorem cell_spot {w:World} {a:Addr} {v:Value} (h:w.cell? a=some v):a.spot=none:=by
  unfold World.cell? at h
  split at h
  · split at h
    · cases h
    · rename_i hs;simpa using hs
  · cases h

theorem Qn {α:Type} [qU α] {P:Program} {t e:TypeId} (hu:P.underlying t=some (.slice e)) (hc:P.cellsOf e=qU.size α) (hz:0 < qU.size α) (he:Reads P e α):Reads P t (List α):=by
  intro H enc w spare held fuel cs x h
  rcases DataW.trod_slice hu h with ⟨rfl,_⟩ | ⟨a,len,cap,elems,rest,n,_,rfl,_,_,hlc,hcm,hel,hget,_⟩
  · exact ⟨[],[],none,0,rfl,by simp,Or.inl ⟨rfl,rfl⟩⟩
  · have hm:cap≤9223372036854775807:=by unfold maxLen at hcm;omega
    rcases Nat.eq_zero_or_pos len with h0 | h0
    · subst h0
      exact ⟨[],[],some a,cap,rfl,by simp,Or.inl ⟨rfl,rfl⟩⟩
    · have hone:∀ i,i < len→∃ ci Fi,∃ y:α,w.cells? 0 (a.add (i * qU.size α)) (qU.size α)=some ci∧qU.rep w Fi ci y:=by
        intro i hi
        have hg:=hget i hi
        rw [hc] at hg
        have hs:elems[i]? =some (elems[i]'(by omega)):=List.getElem?_eq_getElem qg
        rw [hs] at hg
        obtain ⟨ci,h1,h2⟩:=Option.bind_eq_some_iff.1 hg
        obtain ⟨Fi,y,hr⟩:=he h2
        exact ⟨ci,Fi,y,h1,hr⟩
      have hsp:a.spot=none:=by
        obtain ⟨ci,Fi,y,h1,_⟩:=hone 0 h0
        obtain ⟨_,hl,hcell⟩:=World.cells?_some h1
        have:=hcell 0 hz
        rw [List.getElem?_eq_getElem (show 0 < ci.length by omega)] at this
        have:=cell_spot this
        simpa [Addr.add] using this
      obtain ⟨b,off,sp⟩:=a
      simp only at hsp
      subst hsp
      have hadd:∀ i j:Nat,((⟨b,off,none⟩:Addr).add (i * qU.size α)).add j=⟨b,off+i * qU.size α+j,none⟩:=fun i j=>by simp [Addr.add_mid]
      have hall:∀ m,m≤len→∃ F vs,∃ l:List α,l.length=m∧reps w F vs l∧zI w b off vs:=by
        intro m
        induction m with
        | zero=>exact fun _=>⟨[],[],[],rfl,⟨rfl,rfl⟩,fun i v hv=>by simp at hv⟩
        | succ m ih=>
          intro hm'
          obtain ⟨F,vs,l,hl,hr,hcl⟩:=ih qg
          obtain ⟨ci,Fi,y,h1,h2⟩:=hone m qg
          obtain ⟨_,hcl2,hcell⟩:=World.cells?_some h1
          refine ⟨F++Fi,vs++ci,l++[y],by simp [hl],yL hr (reps_one h2),fun i v hv=>?_⟩
          have hvl:=reps_len hr
          rw [hl] at hvl
          rcases Nat.lt_or_ge i vs.length with hi | hi
          · rw [List.getElem?_append_left hi] at hv
            exact hcl i v hv
          · rw [List.getElem?_append_right hi] at hv
            have hi2:i - vs.length < ci.length:=by
              rcases Nat.lt_or_ge (i - vs.length) ci.length with h | h
              · exact h
              · simp [h] at hv
            have:=hcell (i - vs.length) qg
            rw [hadd,hv] at this
            rw [← this]
            congr 1
            rw [show off+i=off+m * qU.size α+(i - vs.length) by omega]
      obtain ⟨F,vs,l,hl,hr,hcl⟩:=hall len (Nat.le_refl _)
      have hb:b < w.heap.size:=by
        have h1:0 < vs.length:=by rw [reps_len hr,hl];exact Nat.mul_pos h0 hz
        exact World.block_lt_of_cell? w _ (hcl 0 _ (List.getElem?_eq_getElem h1))
      subst hl
      exact ⟨b :: F,l,some ⟨b,off,none⟩,cap,rfl,⟨by omega,hlc⟩,Or.inr ⟨b,off,F,vs,rfl,rfl,hb,hr,hcl⟩⟩

theorem yM {n:Nat} {cs:List Value} (h:cs.length=n+1):∃ c cs',cs=c :: cs' ∧cs'.length=n:=by
  cases cs with
  | nil=>simp at h
  | cons c cs=>exact ⟨c,cs,rfl,by simpa using h⟩
theorem Qa {P:Program} {H:Type} {enc:TypeId×Value→H} {w:World} {spare:Nat→Bool} {held:Bool} {fuel:Nat} {t:TypeId} {fs:Array Field} {cs:List Value} {x:DataW H×List MemPlace} (hu:P.underlying t=some (.struct fs))
    (h:DataW.trod enc P w 0 spare held fuel t cs=some x) (i off:Nat) {f:Field} (hf:fs[i]? =some f) (ho:f.offset=off) {α:Type} [qU α] (hr:Reads P f.type α) (h1:qU.size α=1) (hc:P.cellsOf f.type=1):
    ∃ F,∃ y:α,∃ v,cs[off]? =some v∧qU.rep w F [v] y:=by
  obtain ⟨xs,n,_,_,hl,hxl,hall⟩:=DataW.trod_struct hu h
  have hi:i < xs.length:=by
    rw [hxl]
    exact (Array.getElem?_eq_some_iff.1 hf).1
  have hg:=hall i f hf
  rw [List.getElem?_eq_getElem hi,hc,ho] at hg
  obtain ⟨F,y,hy⟩:=hr hg
  have hlen:=qU.len hy
  rw [h1] at hlen
  obtain ⟨v,cs',e,hl'⟩:=yM hlen
  obtain rfl:=List.eq_nil_of_length_eq_zero hl'
  rw [e] at hy
  refine ⟨F,y,v,?_,hy⟩
  have:(List.take 1 (List.drop off cs))[0]? =some v:=by rw [e];rfl
  simpa using this
theorem arg_int {P:Program} {H:Type} {enc:TypeId×Value→H} {w:World} {spare:Nat→Bool} {held:Bool} {b0:Nat} {t:TypeId} {v:Value} {d:DataW H} {p:List MemPlace} (hu:P.underlying t=some (.int .i64))
    (hv:Value.okWide P w .any b0 t v) (h:DataW.Trod enc P w 0 spare held t v d p):∃ n:Int,v=.int .i64 n∧ -9223372036854775808≤n∧n≤9223372036854775807:=by
  obtain ⟨n,rfl⟩:=okWide_int hu hv
  obtain ⟨fuel,hf⟩:=h
  obtain ⟨m,hm,_,hw⟩:=DataW.trod_int hu hf
  have hm' :n=m:=by simpa [Value.cells] using hm
  subst hm'
  exact ⟨n,rfl,by simp [Lit.wf,IntKind.min,IntKind.max,IntKind.signed,IntKind.bits] at hw;omega⟩
theorem arg_struct {P:Program} {α:Type} [qU α] {H:Type} {enc:TypeId×Value→H} {w:World} {spare:Nat→Bool} {held:Bool} {b0:Nat} {t:TypeId} {fs:Array Field} {v:Value} {d:DataW H} {p:List MemPlace} (hu:P.underlying t=some (.struct fs)) (hr:Reads P t α)
    (hv:Value.okWide P w .any b0 t v) (h:DataW.Trod enc P w 0 spare held t v d p):∃ (cs:List Value) (F:yLN) (x:α),v=.agg cs.toArray∧qU.rep w F cs x:=by
  obtain ⟨cs,rfl,_⟩:=okWide_struct hu hv
  obtain ⟨fuel,hf⟩:=h
  obtain ⟨F,x,hx⟩:=hr hf
  exact ⟨cs.toList,F,x,by simp,hx⟩
theorem slice_is {α:Type} [qU α] {w:World} {F:yLN} {v:Value} {l:List α} (h:qU.rep w F [v] l):∃ a c,v=.slice a l.length c∧qU.rep w F [.slice a l.length c] l:=by
  obtain ⟨a,c,hc,_⟩:=id h
  simp only [List.cons.injEq,and_true] at hc
  exact ⟨a,c,hc,hc▸h⟩
section
variable {H : Type} {enc : TypeId × Value → H} {P : Program}

theorem trodAll_below (hl:laidOutB P=true) {W W' :World} (hb:Below W.heap.size W W'):
    ∀ (ts:List TypeId) (vs:List Value) (ds:List (DataW H)) (ps:List MemPlace),(∀ t∈ts,P.readableRec t=true∧t < P.types.size)→
      DataW.TrodAll enc P W 0 (fun _=>true) true ts vs ds ps→(∀ x∈ps,x.block < W.heap.size)→
      DataW.TrodAll enc P W' 0 (fun b=>decide (b < W.heap.size)) true ts vs ds ps
  | [],vs,ds,ps,_,h,_=>by
    obtain ⟨rfl,rfl,rfl⟩:=trodAll_nil h
    exact trodAll_mk0
  | t :: ts,vs,ds,ps,hr,h,hp=>by
    obtain ⟨v,vs',d,ds',p,q,rfl,rfl,rfl,h0,h1⟩:=trodAll_cons h
    have ht:=hr t (List.mem_cons_self ..)
    exact trodAll_cons_mk (Below.trod hl ht.1 ht.2 h0 hb (fun x hx=>hp x (List.mem_append_left _ hx)))
      (trodAll_below hl hb ts vs' ds' q (fun t' ht' =>hr t' (List.mem_cons_of_mem _ ht')) h1 (fun x hx=>hp x (List.mem_append_right _ hx)))

theorem post_law {f:Func} {s:ChangeSpec} {W W' :World} {args:Array Value} {tb:TypeId} {ds gs:List (DataW H)} {before:List MemPlace}
    (hW:DataW.Whole enc P f.params.toList s.vars false W args.toList ds gs before) (hv:s.vars=[])
    (hs:s.fn H (ds++[])={ results:=[.lit (.bool true)],args:=ds }) (hr:f.resultTypes=#[tb]) (hu:P.underlying tb=some .bool)
    (hl:laidOutB P=true) (hts:∀ t∈f.params.toList,P.readableRec t=true∧t < P.types.size) (hb:Below W.heap.size W W'):
    s.post enc P f false true false false W args (.bool true) W' :=by
  have hW' :=hW
  obtain ⟨p,q,hA,hV,rfl,hz,hn⟩:=hW
  rw [hv] at hV
  obtain ⟨rfl,rfl⟩:=trodVars_none hV
  have hlt:∀ x∈p++[],x.block < W.heap.size:=fun x hx=>hW'.lt x hx
  refine ⟨ds,[],p++[],[],p,[],hW',?_,?_,?_,World.keptBut_mono (fun x hx=>⟨hx,Or.inr (Or.inl (by simpa using hx))⟩) (hb.frame (·∈p++[])),fun h=>by cases h⟩
  · rw [hs,hr]
    simp only [Value.resultList]
    exact trodAll_mk1 (shut_bool hu true)
  · rw [hs]
    exact trodAll_below hl hb _ _ _ _ hts hA (fun x hx=>hlt x (by simpa using hx))
  · rw [hv,hs]
    exact rfl
end
end
end Go.Proofs.YtkgdkfkgnodheaaGreat
