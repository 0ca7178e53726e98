/- Walks and laws, printed by program and by hand: what each function comes to, for all arguments, part 2. -/
import Derived.Test.YtkgdkfkgnodheaaGreatA1
import Derived.Shelf.SortG.Plain
import Derived.Shelf.SortG.SortNone
import Derived.Ground.SlgnProg
import Derived.Shelf.SlicesG.CompactI
import Derived.Defers
namespace Go.Proofs.YtkgdkfkgnodheaaGreat
set_option linter.unusedVariables false
set_option linter.unusedSimpArgs false
open Go.Proofs.YtkgdkfkgnodheaaGreat.Tot (tot)
open Go.Proofs.YtkgdkfkgnodheaaGreat.Mark (cnt mrk mkd mkd_mark cnt_mark)
section
open Go.Proofs.Tryz
open Go.RowKit
set_option linter.unusedVariables false
set_option linter.unusedSimpArgs false
set_option maxRecDepth 100000
set_option maxHeartbeats 4000000
variable {cx cxOut cxIn zU cxFree je cxCells vI cy : Nat}
theorem szInt64S_ok (w:World) (x:yLI) (left:Int) {ax:yOA} {Fx:yLN} (hx:qV.rep w Fx [.slice ax x.length cx] x) (p0:0≤left∧left≤2000000):Calls Tryz.prog 29 #[.slice ax x.length cx,yI left] w (Ret (fun v w' =>v=yI (szR (tot x) left)) w):=by
 refine en func29 ntmps29 ?_
 have H:=(St.start w).arg hx
 have nhx:=qO hx
 clear hx
 refine zcr (sp (yI 0) (zjc (sps [yI left,.slice ax x.length cx] (oN rfl (sw (o_sub left x.length rfl rfl qg (sp (yI (left - x.length)) (zjcc (sps [yI (left - x.length),.bool (decide ((left - x.length:Int) < 0))] (zjn (cD rfl (fun h1=>?_) (fun h1=>?_))))))))))))
 ·skip
  refine zcr (sp (yI (-1)) (zjr (t_r (ret1 (yI (-1)) rfl rfl ⟨_,rfl,(congrArg (Value.int .i64) ?_),H.base⟩))))
  have:=zS (tot x) left
  rw [tot_ints] at *
  try omega
 refine xf (t_n (zcr (sps [yI (left - x.length),yI (left - x.length)] (zjr (ret1 (yI (left - x.length)) rfl rfl ⟨_,rfl,(congrArg (Value.int .i64) ?_),H.base⟩)))))
 have:=zS (tot x) left
 rw [tot_ints] at *
 try omega

theorem szBoolS_ok (w:World) (x:List Bool) (left:Int) {ax:yOA} {Fx:yLN} (hx:qV.rep w Fx [.slice ax x.length cx] x) (p0:0≤left∧left≤2000000):Calls Tryz.prog 30 #[.slice ax x.length cx,yI left] w (Ret (fun v w' =>v=yI (szR (tot x) left)) w):=by
 refine en func30 ntmps30 ?_
 have H:=(St.start w).arg hx
 have nhx:=qO hx
 clear hx
 refine zcr (sp (yI 0) (zjc (sps [yI left,.slice ax x.length cx] (oN rfl (sw (o_sub left x.length rfl rfl qg (sp (yI (left - x.length)) (zjcc (sps [yI (left - x.length),.bool (decide ((left - x.length:Int) < 0))] (zjn (cD rfl (fun h1=>?_) (fun h1=>?_))))))))))))
 ·skip
  refine zcr (sp (yI (-1)) (zjr (t_r (ret1 (yI (-1)) rfl rfl ⟨_,rfl,(congrArg (Value.int .i64) ?_),H.base⟩))))
  have:=zS (tot x) left
  rw [tot_bools] at *
  try omega
 refine xf (t_n (zcr (sps [yI (left - x.length),yI (left - x.length)] (zjr (ret1 (yI (left - x.length)) rfl rfl ⟨_,rfl,(congrArg (Value.int .i64) ?_),H.base⟩)))))
 have:=zS (tot x) left
 rw [tot_bools] at *
 try omega

theorem szInt64SS_ok (w:World) (x:yLL) (left:Int) {ax:yOA} {Fx:yLN} (hx:qV.rep w Fx [.slice ax x.length cx] x) (p0:0≤left∧left≤2000000):Calls Tryz.prog 32 #[.slice ax x.length cx,yI left] w (Ret (fun v w' =>v=yI (szR (tot x) left)) w):=by
 refine en func32 ntmps32 ?_
 have H:=(St.start w).arg hx
 have nhx:=qO hx
 clear hx
 refine zcr (sp (yI 0) (zjc (sps [yI left,.slice ax x.length cx] (oN rfl (sw (o_sub left x.length rfl rfl qg (sp (yI (left - x.length)) (zjcc (sps [yI (left - x.length),.bool (decide ((left - x.length:Int) < 0))] (zjn (cD rfl (fun h1=>?_) (fun h1=>?_))))))))))))
 ·skip
  refine zcr (sp (yI (-1)) (zjr (t_r (ret1 (yI (-1)) rfl rfl ⟨_,rfl,(congrArg (Value.int .i64) ?_),H.base⟩))))
  have:=zS (tot x) left
  have:=len_tot x
  omega
 refine xf (t_n (zcc (sp (yI 0) (zjn (xm ?_)))))
 refine zK (fun m' ρ w2=>∃ (zu:Env) (k:Nat) (r:Int),ρ=upd (upd (upd zu 0 (.slice ax x.length cx)) 1 (yI r)) 5 (yI k)∧(k≤x.length)∧(r=left - (x.length:Int) - (totTo x k:Nat))∧(0≤r)∧m' =x.length - k∧St w w2 [] [sF false Fx ax cx x]) (x.length - 0) ⟨_,0,left - (x.length:Int),uE3,qg,(by rw [totTo_zero];omega),qg,rfl,H⟩ ?_
 clear H
 rintro m' ρ w3 ⟨zu,k,r,rfl,i0,i1,i2,rfl,H⟩
 refine zcc (sps [yI k,.slice ax x.length cx] (oN rfl (sp (.bool (decide ((k:Int) < x.length))) (zjn (cD rfl (fun h4=>?_) (fun h4=>?_))))))
 ·skip
  refine xf (t_n (xP (xm (zcr (sps [.slice ax x.length cx,yI k] ?_)))))
  obtain ⟨b5,o6,rfl⟩:=H.addr 0 rfl qg
  obtain ⟨ae7,ce7,Fe7,H⟩:=H.Qm 0 rfl k k qg qg qg
  refine oI rfl rfl (oL rfl (H.xU 1 rfl 0 rfl) (sp (yI r) (sw (oq (szInt64S_ok _ (x[k]!) r (H.get 0 rfl).1 qg) H fun w8 H=>?_))))
  have:=zS (tot (x[k]!)) r
  refine sp (yI (szR (tot (x[k]!)) r)) (zjc (sps [yI (szR (tot (x[k]!)) r),.bool (decide ((szR (tot (x[k]!)) r:Int) < 0))] (zjn (cD rfl (fun h10=>?_) (fun h10=>?_)))))
  ·skip
   refine zcr (sp (yI (-1)) (zjr (zr5 (ret1 (yI (-1)) rfl rfl ⟨_,rfl,(congrArg (Value.int .i64) ?_),H.base⟩))))
   have:=zS (tot x) left
   have:=tot_get (l:=x) (k:=k) qg
   omega
  refine xf (b_n (t_n (xJ (sp (yI k) (sw (xX k 1 rfl rfl qg (sp (yI (k+1)) (xN (xg (m' :=x.length - (k+1)) qg ⟨_,k+1,szR (tot (x[k]!)) r,uE3,?_,?_,?_,rfl,H.sel _ (.refl _) _ qo⟩)))))))))
  · omega
  · rw [totTo_succ];omega
  · omega
 refine zx4 (zcr (sps [yI r,yI r] (zjr (ret1 (yI r) rfl rfl ⟨_,rfl,(congrArg (Value.int .i64) ?_),H.base⟩))))
 obtain rfl:k=x.length:=by omega
 have:=zS (tot x) left
 rw [tot_list] at *
 omega

theorem szPassRule_ok (w:World) (x:xM) (left:Int) {axOut:yOA} {FxOut:yLN} {axIn:yOA} {FxIn:yLN} (hxOut:qV.rep w FxOut [.slice axOut x.qU.length cxOut] x.qU) (hxIn:qV.rep w FxIn [.slice axIn x.fIn.length cxIn] x.fIn) (p0:0≤left∧left≤2000000):Calls Tryz.prog 57 #[.agg #[yI x.qE,.slice axOut x.qU.length cxOut,.slice axIn x.fIn.length cxIn],yI left] w (Ret (fun v w' =>v=yI (szR (tot x) left)) w):=by
 refine en func57 ntmps57 ?_
 have H:=((St.start w).arg hxIn).arg hxOut
 have nhxOut:=qO hxOut
 have nhxIn:=qO hxIn
 clear hxOut hxIn
 refine zcr (sw (o_box H (.agg #[yI x.qE,.slice axOut x.qU.length cxOut,.slice axIn x.fIn.length cxIn]) rfl fun b1 w2 H=>?_))
 replace H:St _ _ [.box b1 [yI x.qE,.slice axOut x.qU.length cxOut,.slice axIn x.fIn.length cxIn] 85] _:=H
 refine sp (yI 0) (zjc (oF rfl (oL rfl (H.cell 0 rfl rfl) (sp (yI left) (sw (oq (szInt64S_ok _ x.qU left (H.get 0 rfl).1 qg) H fun w3 H=>?_))))))
 have:=zS (tot x.qU) left
 refine sp (yI (szR (tot x.qU) left)) (zjcc (sps [yI (szR (tot x.qU) left),.bool (decide ((szR (tot x.qU) left:Int) < 0))] (zjn (cD rfl (fun h5=>?_) (fun h5=>?_)))))
 ·skip
  refine zcr (sp (yI (-1)) (zjr (t_r (ret1 (yI (-1)) rfl rfl ⟨_,rfl,(congrArg (Value.int .i64) ?_),H.base⟩))))
  have:=zS (tot x) left
  rw [tot_PassRuleD] at *
  try omega
 refine xf (t_n (zcr (oF rfl (oL rfl (H.cell 0 rfl rfl) (sp (yI (szR (tot x.qU) left)) (sw (oq (szInt64S_ok _ x.fIn (szR (tot x.qU) left) (H.get 1 rfl).1 qg) H fun w6 H=>?_)))))))
 have:=zS (tot x.fIn) (szR (tot x.qU) left)
 refine sp (yI (szR (tot x.fIn) (szR (tot x.qU) left))) (zjcc (sps [yI (szR (tot x.fIn) (szR (tot x.qU) left)),.bool (decide ((szR (tot x.fIn) (szR (tot x.qU) left):Int) < 0))] (zjn (cD rfl (fun h8=>?_) (fun h8=>?_)))))
 ·skip
  refine zcr (sp (yI (-1)) (zjr (t_r (ret1 (yI (-1)) rfl rfl ⟨_,rfl,(congrArg (Value.int .i64) ?_),H.base⟩))))
  have:=zS (tot x) left
  rw [tot_PassRuleD] at *
  try omega
 refine xf (t_n (zcr (sps [yI (szR (tot x.fIn) (szR (tot x.qU) left)),yI (szR (tot x.fIn) (szR (tot x.qU) left))] (zjr (ret1 (yI (szR (tot x.fIn) (szR (tot x.qU) left))) rfl rfl ⟨_,rfl,(congrArg (Value.int .i64) ?_),H.base⟩)))))
 have:=zS (tot x) left
 rw [tot_PassRuleD] at *
 try omega

theorem szPassRuleS_ok (w:World) (x:List xM) (left:Int) {ax:yOA} {Fx:yLN} (hx:qV.rep w Fx [.slice ax x.length cx] x) (p0:0≤left∧left≤2000000):Calls Tryz.prog 31 #[.slice ax x.length cx,yI left] w (Ret (fun v w' =>v=yI (szR (tot x) left)) w):=by
 refine en func31 ntmps31 ?_
 have H:=(St.start w).arg hx
 have nhx:=qO hx
 clear hx
 refine zcr (sp (yI 0) (zjc (sps [yI left,.slice ax x.length cx] (oN rfl (sw (o_sub left x.length rfl rfl qg (sp (yI (left - x.length)) (zjcc (sps [yI (left - x.length),.bool (decide ((left - x.length:Int) < 0))] (zjn (cD rfl (fun h1=>?_) (fun h1=>?_))))))))))))
 ·skip
  refine zcr (sp (yI (-1)) (zjr (t_r (ret1 (yI (-1)) rfl rfl ⟨_,rfl,(congrArg (Value.int .i64) ?_),H.base⟩))))
  have:=zS (tot x) left
  have:=len_tot x
  omega
 refine xf (t_n (zcc (sp (yI 0) (zjn (xm ?_)))))
 refine zK (fun m' ρ w2=>∃ (zu:Env) (k:Nat) (r:Int),ρ=upd (upd (upd zu 0 (.slice ax x.length cx)) 1 (yI r)) 5 (yI k)∧(k≤x.length)∧(r=left - (x.length:Int) - (totTo x k:Nat))∧(0≤r)∧m' =x.length - k∧St w w2 [] [sF false Fx ax cx x]) (x.length - 0) ⟨_,0,left - (x.length:Int),uE3,qg,(by rw [totTo_zero];omega),qg,rfl,H⟩ ?_
 clear H
 rintro m' ρ w3 ⟨zu,k,r,rfl,i0,i1,i2,rfl,H⟩
 refine zcc (sps [yI k,.slice ax x.length cx] (oN rfl (sp (.bool (decide ((k:Int) < x.length))) (zjn (cD rfl (fun h4=>?_) (fun h4=>?_))))))
 ·skip
  refine xf (t_n (xP (xm (zcr (sps [.slice ax x.length cx,yI k] ?_)))))
  obtain ⟨b5,o6,rfl⟩:=H.addr 0 rfl qg
  obtain ⟨ae7Out,ce7Out,Fe7Out,ae7In,ce7In,Fe7In,H⟩:=H.zW 0 rfl k k qg qg qg
  refine oI rfl rfl (sw (xZ [yI ((x[k]!).qE),.slice ae7Out (((x[k]!).qU).length) ce7Out,.slice ae7In (((x[k]!).fIn).length) ce7In] isAgg85 sizeOf85 rfl (qN (H.get 2 rfl) 0 3) (sp (yI r) (sw (oq (szPassRule_ok _ (x[k]!) r (H.get 0 rfl).1 (H.get 1 rfl).1 qg) H fun w8 H=>?_)))))
  have:=zS (tot (x[k]!)) r
  refine sp (yI (szR (tot (x[k]!)) r)) (zjc (sps [yI (szR (tot (x[k]!)) r),.bool (decide ((szR (tot (x[k]!)) r:Int) < 0))] (zjn (cD rfl (fun h10=>?_) (fun h10=>?_)))))
  ·skip
   refine zcr (sp (yI (-1)) (zjr (zr5 (ret1 (yI (-1)) rfl rfl ⟨_,rfl,(congrArg (Value.int .i64) ?_),H.base⟩))))
   have:=zS (tot x) left
   have:=tot_get (l:=x) (k:=k) qg
   omega
  refine xf (b_n (t_n (xJ (sp (yI k) (sw (xX k 1 rfl rfl qg (sp (yI (k+1)) (xN (xg (m' :=x.length - (k+1)) qg ⟨_,k+1,szR (tot (x[k]!)) r,uE3,?_,?_,?_,rfl,H.sel _ (.refl _) _ qo⟩)))))))))
  · omega
  · rw [totTo_succ];omega
  · omega
 refine zx4 (zcr (sps [yI r,yI r] (zjr (ret1 (yI r) rfl rfl ⟨_,rfl,(congrArg (Value.int .i64) ?_),H.base⟩))))
 obtain rfl:k=x.length:=by omega
 have:=zS (tot x) left
 rw [tot_list] at *
 omega

theorem szPassing_ok (w:World) (x:qW) (left:Int) {zV:yOA} {jr:yLN} {axFree:yOA} {FxFree:yLN} {jg:yOA} {yZ:yLN} (jU:qV.rep w jr [.slice zV x.qC.length zU] x.qC) (hxFree:qV.rep w FxFree [.slice axFree x.qL.length cxFree] x.qL) (QC:qV.rep w yZ [.slice jg x.qB.length je] x.qB) (p0:0≤left∧left≤2000000):Calls Tryz.prog 6 #[.agg #[yI x.qJ,.slice zV x.qC.length zU,.slice axFree x.qL.length cxFree,.slice jg x.qB.length je],yI left] w (Ret (fun v w' =>v=yI (szR (tot x) left)) w):=by
 refine en func6 ntmps6 ?_
 have H:=(((St.start w).arg QC).arg hxFree).arg jU
 have nhxParents:=qO jU
 have nhxFree:=qO hxFree
 have nhxRules:=qO QC
 clear jU hxFree QC
 refine zcr (sw (o_box H (.agg #[yI x.qJ,.slice zV x.qC.length zU,.slice axFree x.qL.length cxFree,.slice jg x.qB.length je]) rfl fun b1 w2 H=>?_))
 replace H:St _ _ [.box b1 [yI x.qJ,.slice zV x.qC.length zU,.slice axFree x.qL.length cxFree,.slice jg x.qB.length je] 26] _:=H
 refine sp (yI 0) (zjc (oF rfl (oL rfl (H.cell 0 rfl rfl) (sp (yI left) (sw (oq (szInt64S_ok _ x.qC left (H.get 0 rfl).1 qg) H fun w3 H=>?_))))))
 have:=zS (tot x.qC) left
 refine sp (yI (szR (tot x.qC) left)) (zjcc (sps [yI (szR (tot x.qC) left),.bool (decide ((szR (tot x.qC) left:Int) < 0))] (zjn (cD rfl (fun h5=>?_) (fun h5=>?_)))))
 ·skip
  refine zcr (sp (yI (-1)) (zjr (t_r (ret1 (yI (-1)) rfl rfl ⟨_,rfl,(congrArg (Value.int .i64) ?_),H.base⟩))))
  have:=zS (tot x) left
  rw [QI] at *
  try omega
 refine xf (t_n (zcr (oF rfl (oL rfl (H.cell 0 rfl rfl) (sp (yI (szR (tot x.qC) left)) (sw (oq (szBoolS_ok _ x.qL (szR (tot x.qC) left) (H.get 1 rfl).1 qg) H fun w6 H=>?_)))))))
 have:=zS (tot x.qL) (szR (tot x.qC) left)
 refine sp (yI (szR (tot x.qL) (szR (tot x.qC) left))) (zjcc (sps [yI (szR (tot x.qL) (szR (tot x.qC) left)),.bool (decide ((szR (tot x.qL) (szR (tot x.qC) left):Int) < 0))] (zjn (cD rfl (fun h8=>?_) (fun h8=>?_)))))
 ·skip
  refine zcr (sp (yI (-1)) (zjr (t_r (ret1 (yI (-1)) rfl rfl ⟨_,rfl,(congrArg (Value.int .i64) ?_),H.base⟩))))
  have:=zS (tot x) left
  rw [QI] at *
  try omega
 refine xf (t_n (zcr (oF rfl (oL rfl (H.cell 0 rfl rfl) (sp (yI (szR (tot x.qL) (szR (tot x.qC) left))) (sw (oq (szPassRuleS_ok _ x.qB (szR (tot x.qL) (szR (tot x.qC) left)) (H.get 2 rfl).1 qg) H fun w9 H=>?_)))))))
 have:=zS (tot x.qB) (szR (tot x.qL) (szR (tot x.qC) left))
 refine sp (yI (szR (tot x.qB) (szR (tot x.qL) (szR (tot x.qC) left)))) (zjcc (sps [yI (szR (tot x.qB) (szR (tot x.qL) (szR (tot x.qC) left))),.bool (decide ((szR (tot x.qB) (szR (tot x.qL) (szR (tot x.qC) left)):Int) < 0))] (zjn (cD rfl (fun h11=>?_) (fun h11=>?_)))))
 ·skip
  refine zcr (sp (yI (-1)) (zjr (t_r (ret1 (yI (-1)) rfl rfl ⟨_,rfl,(congrArg (Value.int .i64) ?_),H.base⟩))))
  have:=zS (tot x) left
  rw [QI] at *
  try omega
 refine xf (t_n (zcr (sps [yI (szR (tot x.qB) (szR (tot x.qL) (szR (tot x.qC) left))),yI (szR (tot x.qB) (szR (tot x.qL) (szR (tot x.qC) left)))] (zjr (ret1 (yI (szR (tot x.qB) (szR (tot x.qL) (szR (tot x.qC) left)))) rfl rfl ⟨_,rfl,(congrArg (Value.int .i64) ?_),H.base⟩)))))
 have:=zS (tot x) left
 rw [QI] at *
 try omega

theorem szStock_ok (w:World) (x:qZ) (left:Int) {axCells:yOA} {FxCells:yLN} {vJ:yOA} {yf:yLN} (hxCells:qV.rep w FxCells [.slice axCells x.qG.length cxCells] x.qG) (yS:qV.rep w yf [.slice vJ x.qF.length vI] x.qF) (p0:0≤left∧left≤2000000):Calls Tryz.prog 7 #[.agg #[.slice axCells x.qG.length cxCells,.slice vJ x.qF.length vI],yI left] w (Ret (fun v w' =>v=yI (szR (tot x) left)) w):=by
 refine en func7 ntmps7 ?_
 have H:=((St.start w).arg yS).arg hxCells
 have nhxCells:=qO hxCells
 have nhxAround:=qO yS
 clear hxCells yS
 refine zcr (sw (o_box H (.agg #[.slice axCells x.qG.length cxCells,.slice vJ x.qF.length vI]) rfl fun b1 w2 H=>?_))
 replace H:St _ _ [.box b1 [.slice axCells x.qG.length cxCells,.slice vJ x.qF.length vI] 29] _:=H
 refine sp (yI 0) (zjc (oF rfl (oL rfl (H.cell 0 rfl rfl) (sp (yI left) (sw (oq (szInt64SS_ok _ x.qG left (H.get 0 rfl).1 qg) H fun w3 H=>?_))))))
 have:=zS (tot x.qG) left
 refine sp (yI (szR (tot x.qG) left)) (zjcc (sps [yI (szR (tot x.qG) left),.bool (decide ((szR (tot x.qG) left:Int) < 0))] (zjn (cD rfl (fun h5=>?_) (fun h5=>?_)))))
 ·skip
  refine zcr (sp (yI (-1)) (zjr (t_r (ret1 (yI (-1)) rfl rfl ⟨_,rfl,(congrArg (Value.int .i64) ?_),H.base⟩))))
  have:=zS (tot x) left
  rw [tot_StockD] at *
  try omega
 refine xf (t_n (zcr (oF rfl (oL rfl (H.cell 0 rfl rfl) (sp (yI (szR (tot x.qG) left)) (sw (oq (szInt64S_ok _ x.qF (szR (tot x.qG) left) (H.get 1 rfl).1 qg) H fun w6 H=>?_)))))))
 have:=zS (tot x.qF) (szR (tot x.qG) left)
 refine sp (yI (szR (tot x.qF) (szR (tot x.qG) left))) (zjcc (sps [yI (szR (tot x.qF) (szR (tot x.qG) left)),.bool (decide ((szR (tot x.qF) (szR (tot x.qG) left):Int) < 0))] (zjn (cD rfl (fun h8=>?_) (fun h8=>?_)))))
 ·skip
  refine zcr (sp (yI (-1)) (zjr (t_r (ret1 (yI (-1)) rfl rfl ⟨_,rfl,(congrArg (Value.int .i64) ?_),H.base⟩))))
  have:=zS (tot x) left
  rw [tot_StockD] at *
  try omega
 refine xf (t_n (zcr (sps [yI (szR (tot x.qF) (szR (tot x.qG) left)),yI (szR (tot x.qF) (szR (tot x.qG) left))] (zjr (ret1 (yI (szR (tot x.qF) (szR (tot x.qG) left))) rfl rfl ⟨_,rfl,(congrArg (Value.int .i64) ?_),H.base⟩)))))
 have:=zS (tot x) left
 rw [tot_StockD] at *
 try omega

theorem toInt64S_ok (w:World) (x:yLI) {ax:yOA} {Fx:yLN} (hx:qV.rep w Fx [.slice ax x.length cx] x) (p0:tot x≤2000000):Calls Tryz.prog 35 #[.slice ax x.length cx] w (Ret (fun v w' =>OwnNew w w' 2 v x) w):=by
 refine en func35 ntmps35 ?_
 have H:=(St.start w).arg hx
 have nhx:=qO hx
 clear hx
 have p1:=len_tot x
 refine zcr (sp yN (zjc (sp (.slice ax x.length cx) (oN rfl (sw (o_make1 H underlying22 ti2 rfl x.length rfl rfl qg qg fun b1 w2 H=>?_))))))
 replace H:St _ _ [.box b1 (List.replicate x.length (yI 0)) 2] _:=H
 refine sp (.slice (aa b1 0) x.length x.length) (zjcc (sp (yI 0) (zjn (xm ?_))))
 refine zK (fun m' ρ w3=>∃ (zu:Env) (k:Nat),ρ=upd (upd (upd (upd zu 0 (.slice ax x.length cx)) 2 yN) 3 (.slice (aa b1 0) x.length x.length)) 4 (yI k)∧(k≤x.length)∧m' =x.length - k∧St w w3 [.box b1 ((x.take k).map (Value.int .i64)++List.replicate (x.length - (k)) (yI 0)) 2] [sF false Fx ax cx x]) (x.length - 0) ⟨_,0,uE4,qg,rfl,H⟩ ?_
 clear H
 rintro m' ρ w4 ⟨zu,k,rfl,i0,rfl,H⟩
 refine zcc (sps [yI k,.slice ax x.length cx] (oN rfl (sp (.bool (decide ((k:Int) < x.length))) (zjn (cD rfl (fun h5=>?_) (fun h5=>?_))))))
 ·skip
  refine xf (t_n (xP (xm (xJ (sps [.slice (aa b1 0) x.length x.length,yI k,.slice ax x.length cx,yI k] ?_)))))
  obtain ⟨b6,o7,rfl⟩:=H.addr 0 rfl qg
  refine oI rfl rfl (oL rfl (H.vY 0 rfl k qg qg) (oI rfl rfl (sw (Qw H 0 rfl (yI (x[k]!)) sizeOf2 rfl rfl rfl (by simp only [List.length_append,List.length_replicate];have:((x.take k).map (Value.int .i64)).length=k:=(by (simp;omega));omega) fun w9 H=>?_))))
  rw [fill_set (k:=k) (by (simp;omega)) qo qg] at H
  replace H:St _ _ [.box b1 ((x.take k).map (Value.int .i64)++[yI (x[k]!)]++List.replicate (x.length - (k+1)) (yI 0)) 2] _:=H
  refine xN (b_n (t_n (xJ (sp (yI k) (sw (xX k 1 rfl rfl qg (sp (yI (k+1)) (xN ?_))))))))
  rw [show (x.take k).map (Value.int .i64)++[yI (x[k]!)]=(x.take (k+1)).map (Value.int .i64) from by exact map_take_snoc _ qg] at H
  refine xg (m' :=x.length - (k+1)) qg ⟨_,k+1,uE4,?_,rfl,H⟩
  · omega
 refine zx4 (zcr (sps [.slice (aa b1 0) x.length x.length,.slice (aa b1 0) x.length x.length] (zjr (ret1 (.slice (aa b1 0) x.length x.length) rfl rfl ⟨_,rfl,?_,H.base⟩))))
 rw [List.take_of_length_le (by omega:x.length≤k)] at H
 rw [fill_end1 qg] at H
 replace H:=H.boxRow 0 rfl 1 x.length (by (first | omega | (simp;done) | (simp;omega))) qw
 exact H.newInts 0 rfl qg

theorem toBoolS_ok (w:World) (x:List Bool) {ax:yOA} {Fx:yLN} (hx:qV.rep w Fx [.slice ax x.length cx] x) (p0:tot x≤2000000):Calls Tryz.prog 36 #[.slice ax x.length cx] w (Ret (fun v w' =>OwnNew w w' 4 v x) w):=by
 refine en func36 ntmps36 ?_
 have H:=(St.start w).arg hx
 have nhx:=qO hx
 clear hx
 have p1:=len_tot x
 refine zcr (sp yN (zjc (sp (.slice ax x.length cx) (oN rfl (sw (o_make1 H underlying23 ti4 rfl x.length rfl rfl qg qg fun b1 w2 H=>?_))))))
 replace H:St _ _ [.box b1 (List.replicate x.length (.bool false)) 4] _:=H
 refine sp (.slice (aa b1 0) x.length x.length) (zjcc (sp (yI 0) (zjn (xm ?_))))
 refine zK (fun m' ρ w3=>∃ (zu:Env) (k:Nat),ρ=upd (upd (upd (upd zu 0 (.slice ax x.length cx)) 2 yN) 3 (.slice (aa b1 0) x.length x.length)) 4 (yI k)∧(k≤x.length)∧m' =x.length - k∧St w w3 [.box b1 ((x.take k).map (Value.bool)++List.replicate (x.length - (k)) (.bool false)) 4] [sF false Fx ax cx x]) (x.length - 0) ⟨_,0,uE4,qg,rfl,H⟩ ?_
 clear H
 rintro m' ρ w4 ⟨zu,k,rfl,i0,rfl,H⟩
 refine zcc (sps [yI k,.slice ax x.length cx] (oN rfl (sp (.bool (decide ((k:Int) < x.length))) (zjn (cD rfl (fun h5=>?_) (fun h5=>?_))))))
 ·skip
  refine xf (t_n (xP (xm (xJ (sps [.slice (aa b1 0) x.length x.length,yI k,.slice ax x.length cx,yI k] ?_)))))
  obtain ⟨b6,o7,rfl⟩:=H.addr 0 rfl qg
  refine oI rfl rfl (oL rfl (H.Qn 0 rfl k qg qg) (oI rfl rfl (sw (Qw H 0 rfl (.bool (x[k]!)) sizeOf4 rfl rfl rfl (by simp only [List.length_append,List.length_replicate];have:((x.take k).map (Value.bool)).length=k:=(by (simp;omega));omega) fun w9 H=>?_))))
  rw [fill_set (k:=k) (by (simp;omega)) qo qg] at H
  replace H:St _ _ [.box b1 ((x.take k).map (Value.bool)++[.bool (x[k]!)]++List.replicate (x.length - (k+1)) (.bool false)) 4] _:=H
  refine xN (b_n (t_n (xJ (sp (yI k) (sw (xX k 1 rfl rfl qg (sp (yI (k+1)) (xN ?_))))))))
  rw [show (x.take k).map (Value.bool)++[.bool (x[k]!)]=(x.take (k+1)).map (Value.bool) from by exact map_take_snoc _ qg] at H
  refine xg (m' :=x.length - (k+1)) qg ⟨_,k+1,uE4,?_,rfl,H⟩
  · omega
 refine zx4 (zcr (sps [.slice (aa b1 0) x.length x.length,.slice (aa b1 0) x.length x.length] (zjr (ret1 (.slice (aa b1 0) x.length x.length) rfl rfl ⟨_,rfl,?_,H.base⟩))))
 rw [List.take_of_length_le (by omega:x.length≤k)] at H
 rw [fill_end1 qg] at H
 replace H:=H.boxRow 0 rfl 1 x.length (by (first | omega | (simp;done) | (simp;omega))) qw
 exact H.newBools 0 rfl qg

theorem toInt64SS_ok (w:World) (x:yLL) {ax:yOA} {Fx:yLN} (hx:qV.rep w Fx [.slice ax x.length cx] x) (p0:tot x≤2000000):Calls Tryz.prog 38 #[.slice ax x.length cx] w (Ret (fun v w' =>OwnNew w w' 22 v x) w):=by
 refine en func38 ntmps38 ?_
 have H:=(St.start w).arg hx
 have nhx:=qO hx
 clear hx
 have p1:=len_tot x
 refine zcr (sp yN (zjc (sp (.slice ax x.length cx) (oN rfl (sw (o_make1 H underlying27 ti22 rfl x.length rfl rfl qg qg fun b1 w2 H=>?_))))))
 replace H:St _ _ [.box b1 (List.replicate x.length yN) 22] _:=H
 refine sp (.slice (aa b1 0) x.length x.length) (zjcc (sp (yI 0) (zjn (xm ?_))))
 replace H:=H.jC (α:=yLI)
 refine zK (fun m' ρ w3=>∃ (zu:Env) (k:Nat) (xs3:List Value) (Fr3:yLN),ρ=upd (upd (upd (upd zu 0 (.slice ax x.length cx)) 2 yN) 3 (.slice (aa b1 0) x.length x.length)) 4 (yI k)∧(k≤x.length)∧(xs3.length=k * 1)∧(∀ b∈Fr3,w.heap.size≤b)∧(Fr3.Nodup)∧m' =x.length - k∧St w w3 [.box b1 (xs3++List.replicate (x.length - (k)) yN) 22] [xW true Fr3 xs3 (x.take k),sF false Fx ax cx x]) (x.length - 0) ⟨_,0,[],[],uE4,qg,(by rfl),qo,qo,rfl,H⟩ ?_
 clear H
 rintro m' ρ w4 ⟨zu,k,xs3,Fr3,rfl,i0,hl3,nf3,nd3,rfl,H⟩
 have p2:=fun h=>tot_get (l:=x) (k:=k) h
 refine zcc (sps [yI k,.slice ax x.length cx] (oN rfl (sp (.bool (decide ((k:Int) < x.length))) (zjn (cD rfl (fun h5=>?_) (fun h5=>?_))))))
 ·skip
  refine xf (t_n (xP (xm (xJ (sps [.slice (aa b1 0) x.length x.length,yI k,.slice ax x.length cx,yI k] ?_)))))
  obtain ⟨b6,o7,rfl⟩:=H.addr 1 rfl qg
  obtain ⟨ae8,ce8,Fe8,H⟩:=H.Qm 1 rfl k k qg qg qg
  refine oI rfl rfl (oL rfl (H.xU 1 rfl 0 rfl) ?_)
  have szx10:=H.base.size
  have lt11:=H.repsLt 2 rfl
  refine sw (oc (toInt64S_ok _ (x[k]!) (H.get 0 rfl).1 (by first | omega | (have:=p2 qg;omega))) ?_)
  rintro v12 w9 r12 x10
  obtain ⟨a12,c12,F12,rfl,f12,H⟩:=H.add_is x10 r12.isNew
  have d12:=f12.2
  have q12:=f12.1
  replace f12:∀ b∈F12,w.heap.size≤b:=fun b hb=>Nat.le_trans szx10 (f12.1 b hb)
  refine oI rfl rfl (sw (Qw H 0 rfl (.slice a12 ((x[k]!).length) c12) sizeOf22 rfl rfl rfl (by simp only [List.length_append,List.length_replicate];have:(xs3).length=k:=(by (omega));omega) fun w14 H=>?_))
  rw [fill_set (k:=k) (by (omega)) qo qg] at H
  replace H:St _ _ [.box b1 (xs3++[.slice a12 ((x[k]!).length) c12]++List.replicate (x.length - (k+1)) yN) 22] _:=H
  refine xN (b_n (t_n (xJ (sp (yI k) (sw (xX k 1 rfl rfl qg (sp (yI (k+1)) (xN ?_))))))))
  replace H:=H.jy 3 rfl 0 rfl
  rw [show (x.take k)++[(x[k]!)]=x.take (k+1) from by exact take_snoc qg] at H
  refine xg (m' :=x.length - (k+1)) qg ⟨_,k+1,(xs3++[.slice a12 ((x[k]!).length) c12]),(Fr3++F12),uE4,?_,?_,?_,?_,rfl,H.sel _ (.refl _) _ qo⟩
  · omega
  · first | (simp only [List.length_append,List.length_cons,List.length_nil];omega) | (simp [hl3];done) | (simp;omega)
  · exact fresh_snoc nf3 f12
  · exact nodup_snoc nd3 d12 lt11 q12
 refine zx4 (zcr (sps [.slice (aa b1 0) x.length x.length,.slice (aa b1 0) x.length x.length] (zjr (ret1 (.slice (aa b1 0) x.length x.length) rfl rfl ⟨_,rfl,?_,H.base⟩))))
 rw [List.take_of_length_le (by omega:x.length≤k)] at H
 rw [fill_end1 qg] at H
 replace H:=H.boxRow 0 rfl 1 x.length qg qw
 exact H.newRow 0 rfl 0 rfl qg qm qm

theorem toPassRule_ok (w:World) (x:xM) {axOut:yOA} {FxOut:yLN} {axIn:yOA} {FxIn:yLN} (hxOut:qV.rep w FxOut [.slice axOut x.qU.length cxOut] x.qU) (hxIn:qV.rep w FxIn [.slice axIn x.fIn.length cxIn] x.fIn) (p0:tot x≤2000000):Calls Tryz.prog 64 #[.agg #[yI x.qE,.slice axOut x.qU.length cxOut,.slice axIn x.fIn.length cxIn]] w (Ret (fun v w' =>New_PassRuleD w w' v x) w):=by
 refine en func64 ntmps64 ?_
 have H:=((St.start w).arg hxIn).arg hxOut
 have nhxOut:=qO hxOut
 have nhxIn:=qO hxIn
 clear hxOut hxIn
 have p1:=tot_PassRuleD x
 refine zcr (sw (o_box H (.agg #[yI x.qE,.slice axOut x.qU.length cxOut,.slice axIn x.fIn.length cxIn]) rfl fun b1 w2 H=>sw (o_alloc H ti93 fun b3 w4 H=>zjc (sw (o_alloc H ti93 fun b5 w6 H=>zjc (oF rfl (oL rfl (H.cell 2 rfl rfl) (oF rfl (sw (Qw H 0 rfl (yI x.qE) sizeOf2 rfl rfl rfl (Nat.le_of_ble_eq_true rfl) fun w7 H=>?_))))))))))
 replace H:St _ _ [.box b5 [yI x.qE,yN,yN] 93,.box b3 [yI 0,yN,yN] 93,.box b1 [yI x.qE,.slice axOut x.qU.length cxOut,.slice axIn x.fIn.length cxIn] 85] _:=H
 refine zjc (oF rfl (oL rfl (H.cell 2 rfl rfl) ?_))
 have szx9:=H.base.size
 refine sw (oc (toInt64S_ok _ x.qU (H.get 0 rfl).1 (by first | omega | (have:=p2 qg;omega))) ?_)
 rintro v10 w8 r10 x9
 obtain ⟨a10,c10,F10,rfl,f10,H⟩:=H.add_is x9 r10.isNew
 have d10:=f10.2
 have q10:=f10.1
 replace f10:∀ b∈F10,w.heap.size≤b:=fun b hb=>Nat.le_trans szx9 (f10.1 b hb)
 refine oF rfl (sw (Qw H 0 rfl (.slice a10 x.qU.length c10) sizeOf22 rfl rfl rfl (Nat.le_of_ble_eq_true rfl) fun w11 H=>?_))
 replace H:St _ _ [.box b5 [yI x.qE,.slice a10 x.qU.length c10,yN] 93,.box b3 [yI 0,yN,yN] 93,.box b1 [yI x.qE,.slice axOut x.qU.length cxOut,.slice axIn x.fIn.length cxIn] 85] _:=H
 refine zjc (oF rfl (oL rfl (H.cell 2 rfl rfl) ?_))
 have szx13:=H.base.size
 have lt14:=H.isLt 0 rfl
 refine sw (oc (toInt64S_ok _ x.fIn (H.get 2 rfl).1 (by first | omega | (have:=p2 qg;omega))) ?_)
 rintro v15 w12 r15 x13
 obtain ⟨a15,c15,F15,rfl,f15,H⟩:=H.add_is x13 r15.isNew
 have d15:=f15.2
 have q15:=f15.1
 replace f15:∀ b∈F15,w.heap.size≤b:=fun b hb=>Nat.le_trans szx13 (f15.1 b hb)
 refine oF rfl (sw (Qw H 0 rfl (.slice a15 x.fIn.length c15) sizeOf22 rfl rfl rfl (Nat.le_of_ble_eq_true rfl) fun w16 H=>?_))
 replace H:St _ _ [.box b5 [yI x.qE,.slice a10 x.qU.length c10,.slice a15 x.fIn.length c15] 93,.box b3 [yI 0,yN,yN] 93,.box b1 [yI x.qE,.slice axOut x.qU.length cxOut,.slice axIn x.fIn.length cxIn] 85] _:=H
 refine zjc (sw (xZ [yI x.qE,.slice a10 x.qU.length c10,.slice a15 x.fIn.length c15] isAgg93 sizeOf93 rfl (qN (H.cells 0 rfl) 0 3) (sw (o_store H 1 rfl (.agg #[yI x.qE,.slice a10 x.qU.length c10,.slice a15 x.fIn.length c15]) sizeOf93 rfl rfl qx (Nat.le_of_ble_eq_true rfl) fun w17 H=>?_))))
 replace H:St _ _ [.box b5 [yI x.qE,.slice a10 x.qU.length c10,.slice a15 x.fIn.length c15] 93,.box b3 [yI x.qE,.slice a10 x.qU.length c10,.slice a15 x.fIn.length c15] 93,.box b1 [yI x.qE,.slice axOut x.qU.length cxOut,.slice axIn x.fIn.length cxIn] 85] _:=H
 refine zjr (retC H 1 rfl rfl isAgg93 sizeOf93 rfl ⟨_,rfl,(⟨_,_,_,_,_,_,rfl,(H.get 1 rfl).1,(H.get 0 rfl).1,(fresh_snoc f10 f15),(nodup_snoc d10 d15 lt14 q15),(((H.get 1 rfl).2 rfl).app ((H.get 0 rfl).2 rfl))⟩),H.base⟩)

theorem toPassRuleS_ok (w:World) (x:List xM) {ax:yOA} {Fx:yLN} (hx:qV.rep w Fx [.slice ax x.length cx] x) (p0:tot x≤2000000):Calls Tryz.prog 37 #[.slice ax x.length cx] w (Ret (fun v w' =>OwnNew w w' 93 v x) w):=by
 refine en func37 ntmps37 ?_
 have H:=(St.start w).arg hx
 have nhx:=qO hx
 clear hx
 have p1:=len_tot x
 refine zcr (sp yN (zjc (sp (.slice ax x.length cx) (oN rfl (sw (o_makeN H underlying35 ti93 rfl qj x.length rfl rfl qg qg fun b1 w2 H=>?_))))))
 replace H:St _ _ [.box b1 ((List.replicate x.length [yI 0,yN,yN]).flatten) 93] _:=H
 refine sp (.slice (aa b1 0) x.length x.length) (zjcc (sp (yI 0) (zjn (xm ?_))))
 replace H:=H.jC (α:=xM)
 refine zK (fun m' ρ w3=>∃ (zu:Env) (k:Nat) (xs3:List Value) (Fr3:yLN),ρ=upd (upd (upd (upd zu 0 (.slice ax x.length cx)) 2 yN) 3 (.slice (aa b1 0) x.length x.length)) 4 (yI k)∧(k≤x.length)∧(xs3.length=k * 3)∧(∀ b∈Fr3,w.heap.size≤b)∧(Fr3.Nodup)∧m' =x.length - k∧St w w3 [.box b1 (xs3++(List.replicate (x.length - (k)) [yI 0,yN,yN]).flatten) 93] [xW true Fr3 xs3 (x.take k),sF false Fx ax cx x]) (x.length - 0) ⟨_,0,[],[],uE4,qg,(by rfl),qo,qo,rfl,H⟩ ?_
 clear H
 rintro m' ρ w4 ⟨zu,k,xs3,Fr3,rfl,i0,hl3,nf3,nd3,rfl,H⟩
 have p2:=fun h=>tot_get (l:=x) (k:=k) h
 refine zcc (sps [yI k,.slice ax x.length cx] (oN rfl (sp (.bool (decide ((k:Int) < x.length))) (zjn (cD rfl (fun h5=>?_) (fun h5=>?_))))))
 ·skip
  refine xf (t_n (xP (xm (xJ (sps [.slice (aa b1 0) x.length x.length,yI k,.slice ax x.length cx,yI k] ?_)))))
  obtain ⟨b6,o7,rfl⟩:=H.addr 1 rfl qg
  obtain ⟨ae8Out,ce8Out,Fe8Out,ae8In,ce8In,Fe8In,H⟩:=H.zW 1 rfl k k qg qg qg
  refine oI rfl rfl (sw (xZ [yI ((x[k]!).qE),.slice ae8Out (((x[k]!).qU).length) ce8Out,.slice ae8In (((x[k]!).fIn).length) ce8In] isAgg85 sizeOf85 rfl (qN (H.get 2 rfl) 0 3) ?_))
  have szx10:=H.base.size
  have lt11:=H.repsLt 3 rfl
  refine sw (oc (toPassRule_ok _ (x[k]!) (H.get 0 rfl).1 (H.get 1 rfl).1 qg) ?_)
  rintro v12 w9 r12 x10
  obtain ⟨a12Out,c12Out,F12Out,a12In,c12In,F12In,rfl,f12,H⟩:=H.add_PassRuleD x10 r12
  have d12:=f12.2
  have q12:=f12.1
  replace f12:∀ b∈(F12Out++F12In),w.heap.size≤b:=fun b hb=>Nat.le_trans szx10 (f12.1 b hb)
  refine oI rfl rfl (sw (o_store H 0 rfl (.agg #[yI ((x[k]!).qE),.slice a12Out (((x[k]!).qU).length) c12Out,.slice a12In (((x[k]!).fIn).length) c12In]) sizeOf93 rfl rfl qx (by have:(xs3).length=k * 3:=(by (exact hl3));simp [Value.cells];have:=fill_room (n:=x.length) (k:=k) (s:=3) qg;simp at this;omega) fun w14 H=>?_))
  replace H:St _ _ [.box b1 (xs3++[yI ((x[k]!).qE),.slice a12Out (((x[k]!).qU).length) c12Out,.slice a12In (((x[k]!).fIn).length) c12In]++(List.replicate (x.length - (k+1)) [yI 0,yN,yN]).flatten) 93] _:=(fill_put (vs:=[yI ((x[k]!).qE),.slice a12Out (((x[k]!).qU).length) c12Out,.slice a12In (((x[k]!).fIn).length) c12In]) (zs:=[yI 0,yN,yN]) (off:=0+(k:Int).toNat * 3) (xs:=xs3) (k:=k) (s:=3) (n:=x.length) (by (exact hl3)) qo rfl rfl qg)▸H
  replace H:St _ _ [.box b1 (xs3++[yI ((x[k]!).qE),.slice a12Out (((x[k]!).qU).length) c12Out,.slice a12In (((x[k]!).fIn).length) c12In]++(List.replicate (x.length - (k+1)) [yI 0,yN,yN]).flatten) 93] _:=H
  refine xN (b_n (t_n (xJ (sp (yI k) (sw (xX k 1 rfl rfl qg (sp (yI (k+1)) (xN ?_))))))))
  replace H:=H.snoc_PassRuleD 5 rfl ((x[k]!).qE) 0 rfl 1 rfl
  rw [show (x.take k)++[⟨(x[k]!).qE,(x[k]!).qU,(x[k]!).fIn⟩]=x.take (k+1) from by exact take_snoc qg] at H
  refine xg (m' :=x.length - (k+1)) qg ⟨_,k+1,(xs3++[yI ((x[k]!).qE),.slice a12Out (((x[k]!).qU).length) c12Out,.slice a12In (((x[k]!).fIn).length) c12In]),(Fr3++(F12Out++F12In)),uE4,?_,?_,?_,?_,rfl,H.sel _ (.refl _) _ qo⟩
  · omega
  · first | (simp only [List.length_append,List.length_cons,List.length_nil];omega) | (simp [hl3];done) | (simp;omega)
  · exact fresh_snoc nf3 f12
  · exact nodup_snoc nd3 d12 lt11 q12
 refine zx4 (zcr (sps [.slice (aa b1 0) x.length x.length,.slice (aa b1 0) x.length x.length] (zjr (ret1 (.slice (aa b1 0) x.length x.length) rfl rfl ⟨_,rfl,?_,H.base⟩))))
 rw [List.take_of_length_le (by omega:x.length≤k)] at H
 rw [fill_endN qg] at H
 replace H:=H.boxRow 0 rfl 3 x.length qg qw
 exact H.newRow 0 rfl 0 rfl qg qm qm

theorem toPassing_ok (w:World) (x:qW) {zV:yOA} {jr:yLN} {axFree:yOA} {FxFree:yLN} {jg:yOA} {yZ:yLN} (jU:qV.rep w jr [.slice zV x.qC.length zU] x.qC) (hxFree:qV.rep w FxFree [.slice axFree x.qL.length cxFree] x.qL) (QC:qV.rep w yZ [.slice jg x.qB.length je] x.qB) (p0:tot x≤2000000):Calls Tryz.prog 9 #[.agg #[yI x.qJ,.slice zV x.qC.length zU,.slice axFree x.qL.length cxFree,.slice jg x.qB.length je]] w (Ret (fun v w' =>New_PassingD w w' v x) w):=by
 refine en func9 ntmps9 ?_
 have H:=(((St.start w).arg QC).arg hxFree).arg jU
 have nhxParents:=qO jU
 have nhxFree:=qO hxFree
 have nhxRules:=qO QC
 clear jU hxFree QC
 have p1:=QI x
 refine zcr (sw (o_box H (.agg #[yI x.qJ,.slice zV x.qC.length zU,.slice axFree x.qL.length cxFree,.slice jg x.qB.length je]) rfl fun b1 w2 H=>sw (o_alloc H ti37 fun b3 w4 H=>zjc (sw (o_alloc H ti37 fun b5 w6 H=>zjc (oF rfl (oL rfl (H.cell 2 rfl rfl) (oF rfl (sw (Qw H 0 rfl (yI x.qJ) sizeOf2 rfl rfl rfl (Nat.le_of_ble_eq_true rfl) fun w7 H=>?_))))))))))
 replace H:St _ _ [.box b5 [yI x.qJ,yN,yN,yN] 37,.box b3 [yI 0,yN,yN,yN] 37,.box b1 [yI x.qJ,.slice zV x.qC.length zU,.slice axFree x.qL.length cxFree,.slice jg x.qB.length je] 26] _:=H
 refine zjc (oF rfl (oL rfl (H.cell 2 rfl rfl) ?_))
 have szx9:=H.base.size
 refine sw (oc (toInt64S_ok _ x.qC (H.get 0 rfl).1 (by first | omega | (have:=p2 qg;omega))) ?_)
 rintro v10 w8 r10 x9
 obtain ⟨a10,c10,F10,rfl,f10,H⟩:=H.add_is x9 r10.isNew
 have d10:=f10.2
 have q10:=f10.1
 replace f10:∀ b∈F10,w.heap.size≤b:=fun b hb=>Nat.le_trans szx9 (f10.1 b hb)
 refine oF rfl (sw (Qw H 0 rfl (.slice a10 x.qC.length c10) sizeOf22 rfl rfl rfl (Nat.le_of_ble_eq_true rfl) fun w11 H=>?_))
 replace H:St _ _ [.box b5 [yI x.qJ,.slice a10 x.qC.length c10,yN,yN] 37,.box b3 [yI 0,yN,yN,yN] 37,.box b1 [yI x.qJ,.slice zV x.qC.length zU,.slice axFree x.qL.length cxFree,.slice jg x.qB.length je] 26] _:=H
 refine zjc (oF rfl (oL rfl (H.cell 2 rfl rfl) ?_))
 have szx13:=H.base.size
 have lt14:=H.isLt 0 rfl
 refine sw (oc (toBoolS_ok _ x.qL (H.get 2 rfl).1 (by first | omega | (have:=p2 qg;omega))) ?_)
 rintro v15 w12 r15 x13
 obtain ⟨a15,c15,F15,rfl,f15,H⟩:=H.add_is x13 r15.isNew
 have d15:=f15.2
 have q15:=f15.1
 replace f15:∀ b∈F15,w.heap.size≤b:=fun b hb=>Nat.le_trans szx13 (f15.1 b hb)
 refine oF rfl (sw (Qw H 0 rfl (.slice a15 x.qL.length c15) sizeOf23 rfl rfl rfl (Nat.le_of_ble_eq_true rfl) fun w16 H=>?_))
 replace H:St _ _ [.box b5 [yI x.qJ,.slice a10 x.qC.length c10,.slice a15 x.qL.length c15,yN] 37,.box b3 [yI 0,yN,yN,yN] 37,.box b1 [yI x.qJ,.slice zV x.qC.length zU,.slice axFree x.qL.length cxFree,.slice jg x.qB.length je] 26] _:=H
 refine zjc (oF rfl (oL rfl (H.cell 2 rfl rfl) ?_))
 have szx18:=H.base.size
 have lt19:=H.isLt 0 rfl
 have lt20:=H.isLt 1 rfl
 refine sw (oc (toPassRuleS_ok _ x.qB (H.get 4 rfl).1 (by first | omega | (have:=p2 qg;omega))) ?_)
 rintro v21 w17 r21 x18
 obtain ⟨a21,c21,F21,rfl,f21,H⟩:=H.add_is x18 r21.isNew
 have d21:=f21.2
 have q21:=f21.1
 replace f21:∀ b∈F21,w.heap.size≤b:=fun b hb=>Nat.le_trans szx18 (f21.1 b hb)
 refine oF rfl (sw (Qw H 0 rfl (.slice a21 x.qB.length c21) sizeOf35 rfl rfl rfl (Nat.le_of_ble_eq_true rfl) fun w22 H=>?_))
 replace H:St _ _ [.box b5 [yI x.qJ,.slice a10 x.qC.length c10,.slice a15 x.qL.length c15,.slice a21 x.qB.length c21] 37,.box b3 [yI 0,yN,yN,yN] 37,.box b1 [yI x.qJ,.slice zV x.qC.length zU,.slice axFree x.qL.length cxFree,.slice jg x.qB.length je] 26] _:=H
 refine zjc (sw (xZ [yI x.qJ,.slice a10 x.qC.length c10,.slice a15 x.qL.length c15,.slice a21 x.qB.length c21] isAgg37 sizeOf37 rfl (qN (H.cells 0 rfl) 0 4) (sw (o_store H 1 rfl (.agg #[yI x.qJ,.slice a10 x.qC.length c10,.slice a15 x.qL.length c15,.slice a21 x.qB.length c21]) sizeOf37 rfl rfl qx (Nat.le_of_ble_eq_true rfl) fun w23 H=>?_))))
 replace H:St _ _ [.box b5 [yI x.qJ,.slice a10 x.qC.length c10,.slice a15 x.qL.length c15,.slice a21 x.qB.length c21] 37,.box b3 [yI x.qJ,.slice a10 x.qC.length c10,.slice a15 x.qL.length c15,.slice a21 x.qB.length c21] 37,.box b1 [yI x.qJ,.slice zV x.qC.length zU,.slice axFree x.qL.length cxFree,.slice jg x.qB.length je] 26] _:=H
 refine zjr (retC H 1 rfl rfl isAgg37 sizeOf37 rfl ⟨_,rfl,(⟨_,_,_,_,_,_,_,_,_,rfl,(H.get 2 rfl).1,(H.get 1 rfl).1,(H.get 0 rfl).1,(fresh_snoc (fresh_snoc f10 f15) f21),(nodup_snoc (nodup_snoc d10 d15 lt14 q15) d21 (all_app lt20 lt19) q21),((((H.get 2 rfl).2 rfl).app ((H.get 1 rfl).2 rfl)).app ((H.get 0 rfl).2 rfl))⟩),H.base⟩)

theorem toStock_ok (w:World) (x:qZ) {axCells:yOA} {FxCells:yLN} {vJ:yOA} {yf:yLN} (hxCells:qV.rep w FxCells [.slice axCells x.qG.length cxCells] x.qG) (yS:qV.rep w yf [.slice vJ x.qF.length vI] x.qF) (p0:tot x≤2000000):Calls Tryz.prog 10 #[.agg #[.slice axCells x.qG.length cxCells,.slice vJ x.qF.length vI]] w (Ret (fun v w' =>New_StockD w w' v x) w):=by
 refine en func10 ntmps10 ?_
 have H:=((St.start w).arg yS).arg hxCells
 have nhxCells:=qO hxCells
 have nhxAround:=qO yS
 clear hxCells yS
 have p1:=tot_StockD x
 refine zcr (sw (o_box H (.agg #[.slice axCells x.qG.length cxCells,.slice vJ x.qF.length vI]) rfl fun b1 w2 H=>sw (o_alloc H ti39 fun b3 w4 H=>zjc (sw (o_alloc H ti39 fun b5 w6 H=>?_)))))
 replace H:St _ _ [.box b5 [yN,yN] 39,.box b3 [yN,yN] 39,.box b1 [.slice axCells x.qG.length cxCells,.slice vJ x.qF.length vI] 29] _:=H
 refine zjc (oF rfl (oL rfl (H.cell 2 rfl rfl) ?_))
 have szx8:=H.base.size
 refine sw (oc (toInt64SS_ok _ x.qG (H.get 0 rfl).1 (by first | omega | (have:=p2 qg;omega))) ?_)
 rintro v9 w7 r9 x8
 obtain ⟨a9,c9,F9,rfl,f9,H⟩:=H.add_is x8 r9.isNew
 have d9:=f9.2
 have q9:=f9.1
 replace f9:∀ b∈F9,w.heap.size≤b:=fun b hb=>Nat.le_trans szx8 (f9.1 b hb)
 refine oF rfl (sw (Qw H 0 rfl (.slice a9 x.qG.length c9) sizeOf27 rfl rfl rfl (Nat.le_of_ble_eq_true rfl) fun w10 H=>?_))
 replace H:St _ _ [.box b5 [.slice a9 x.qG.length c9,yN] 39,.box b3 [yN,yN] 39,.box b1 [.slice axCells x.qG.length cxCells,.slice vJ x.qF.length vI] 29] _:=H
 refine zjc (oF rfl (oL rfl (H.cell 2 rfl rfl) ?_))
 have szx12:=H.base.size
 have lt13:=H.isLt 0 rfl
 refine sw (oc (toInt64S_ok _ x.qF (H.get 2 rfl).1 (by first | omega | (have:=p2 qg;omega))) ?_)
 rintro v14 w11 r14 x12
 obtain ⟨a14,c14,F14,rfl,f14,H⟩:=H.add_is x12 r14.isNew
 have d14:=f14.2
 have q14:=f14.1
 replace f14:∀ b∈F14,w.heap.size≤b:=fun b hb=>Nat.le_trans szx12 (f14.1 b hb)
 refine oF rfl (sw (Qw H 0 rfl (.slice a14 x.qF.length c14) sizeOf22 rfl rfl rfl (Nat.le_of_ble_eq_true rfl) fun w15 H=>?_))
 replace H:St _ _ [.box b5 [.slice a9 x.qG.length c9,.slice a14 x.qF.length c14] 39,.box b3 [yN,yN] 39,.box b1 [.slice axCells x.qG.length cxCells,.slice vJ x.qF.length vI] 29] _:=H
 refine zjc (sw (xZ [.slice a9 x.qG.length c9,.slice a14 x.qF.length c14] isAgg39 sizeOf39 rfl (qN (H.cells 0 rfl) 0 2) (sw (o_store H 1 rfl (.agg #[.slice a9 x.qG.length c9,.slice a14 x.qF.length c14]) sizeOf39 rfl rfl qx (Nat.le_of_ble_eq_true rfl) fun w16 H=>?_))))
 replace H:St _ _ [.box b5 [.slice a9 x.qG.length c9,.slice a14 x.qF.length c14] 39,.box b3 [.slice a9 x.qG.length c9,.slice a14 x.qF.length c14] 39,.box b1 [.slice axCells x.qG.length cxCells,.slice vJ x.qF.length vI] 29] _:=H
 refine zjr (retC H 1 rfl rfl isAgg39 sizeOf39 rfl ⟨_,rfl,(⟨_,_,_,_,_,_,rfl,(H.get 1 rfl).1,(H.get 0 rfl).1,(fresh_snoc f9 f14),(nodup_snoc d9 d14 lt13 q14),(((H.get 1 rfl).2 rfl).app ((H.get 0 rfl).2 rfl))⟩),H.base⟩)

theorem Qh (w:World) (x:yLI) (y:yLI) {ax:yOA} {Fx:yLN} {ay:yOA} {Fy:yLN} (hx:qV.rep w Fx [.slice ax x.length cx] x) (hy:qV.rep w Fy [.slice ay y.length cy] y):Calls Tryz.prog 24 #[.slice ax x.length cx,.slice ay y.length cy] w (Ret (fun v w' =>v=.bool (decide (x=y))) w):=by
 refine en func24 ntmps24 ?_
 have H:=((St.start w).arg hy).arg hx
 have nhx:=qO hx
 have nhy:=qO hy
 clear hx hy
 refine zcr (sp (.bool false) (zjcc (sp (.slice ax x.length cx) (oN rfl (sp (.slice ay y.length cy) (oN rfl (sp (.bool ((x.length:Int) != y.length)) (zjn (xC ((x.length:Int) != y.length) rfl (fun h1=>?_) (fun h1=>?_))))))))))
 ·skip
  replace h1:=bne_iff_ne.1 h1
  refine zcr (sp (.bool false) (zjr (t_r (ret1 (.bool false) rfl rfl ⟨_,rfl,?_,H.base⟩))))
  first | rw [decide_eq_false (fun e=>by subst e;omega)] | rw [decide_eq_false (vX (k:=k) ‹_›)] | rw [decide_eq_true (vN (k:=k) qg qg ‹_›)]
 replace h1:=xA h1
 refine xf (t_n (zcc (sp (yI 0) (zjn (xm ?_)))))
 refine zK (fun m' ρ w2=>∃ (zu:Env) (k:Nat),ρ=upd (upd (upd zu 0 (.slice ax x.length cx)) 1 (.slice ay y.length cy)) 5 (yI k)∧(k≤x.length)∧(x.take k=y.take k)∧m' =x.length - k∧St w w2 [] [sF false Fx ax cx x,sF false Fy ay cy y]) (x.length - 0) ⟨_,0,uE3,qg,(by rfl),rfl,H⟩ ?_
 clear H
 rintro m' ρ w3 ⟨zu,k,rfl,i0,i1,rfl,H⟩
 refine zcc (sps [yI k,.slice ax x.length cx] (oN rfl (sp (.bool (decide ((k:Int) < x.length))) (zjn (cD rfl (fun h4=>?_) (fun h4=>?_))))))
 ·skip
  refine xf (t_n (xP (xm (xP ?_))))
  refine vK rfl H fun H=>rtp 0 (.slice ax x.length cx) H ?_
  refine rtp 1 (yI k) H ?_
  obtain ⟨b6,o7,rfl⟩:=H.addr 0 rfl qg
  refine tI 2 rfl rfl rfl H ?_
  refine tL 3 rfl rfl (fun _ h=>h.vT 0 rfl k qg) H ?_
  refine rtp 4 (.slice ay y.length cy) H ?_
  refine rtp 5 (yI k) H ?_
  obtain ⟨b8,o9,rfl⟩:=H.addr 1 rfl qg
  refine tI 6 rfl rfl rfl H ?_
  refine tL 7 rfl rfl (fun _ h=>h.vT 1 rfl k qg) H ?_
  refine rtp 8 (.bool ((x[k]! :Int) != (y[k]!))) H ?_
  refine xI qi (t_n (xC ((x[k]! :Int) != (y[k]!)) rfl (fun h10=>?_) (fun h10=>?_)))
  ·skip
   replace h10:=bne_iff_ne.1 h10
   refine zcr (sp (.bool false) (zjr (zr5 (ret1 (.bool false) rfl rfl ⟨_,rfl,?_,H.base⟩))))
   first | rw [decide_eq_false (fun e=>by subst e;omega)] | rw [decide_eq_false (vX (k:=k) ‹_›)] | rw [decide_eq_true (vN (k:=k) qg qg ‹_›)]
  replace h10:=xA h10
  refine xf (b_n (t_n (xJ (sp (yI k) (sw (xX k 1 rfl rfl qg (sp (yI (k+1)) (xN (xg (m' :=x.length - (k+1)) qg ⟨_,k+1,uE3,?_,?_,rfl,H⟩)))))))))
  · omega
  · exact QD qg qg ‹_› qh
 refine zx4 (zcr (sp (.bool true) (zjr (ret1 (.bool true) rfl rfl ⟨_,rfl,?_,H.base⟩))))
 first | rw [decide_eq_false (fun e=>by subst e;omega)] | rw [decide_eq_false (vX (k:=k) ‹_›)] | rw [decide_eq_true (vN (k:=k) qg qg ‹_›)]

theorem eqBoolS_ok (w:World) (x:List Bool) (y:List Bool) {ax:yOA} {Fx:yLN} {ay:yOA} {Fy:yLN} (hx:qV.rep w Fx [.slice ax x.length cx] x) (hy:qV.rep w Fy [.slice ay y.length cy] y):Calls Tryz.prog 46 #[.slice ax x.length cx,.slice ay y.length cy] w (Ret (fun v w' =>v=.bool (decide (x=y))) w):=by
 refine en func46 ntmps46 ?_
 have H:=((St.start w).arg hy).arg hx
 have nhx:=qO hx
 have nhy:=qO hy
 clear hx hy
 refine zcr (sp (.bool false) (zjcc (sp (.slice ax x.length cx) (oN rfl (sp (.slice ay y.length cy) (oN rfl (sp (.bool ((x.length:Int) != y.length)) (zjn (xC ((x.length:Int) != y.length) rfl (fun h1=>?_) (fun h1=>?_))))))))))
 ·skip
  replace h1:=bne_iff_ne.1 h1
  refine zcr (sp (.bool false) (zjr (t_r (ret1 (.bool false) rfl rfl ⟨_,rfl,?_,H.base⟩))))
  first | rw [decide_eq_false (fun e=>by subst e;omega)] | rw [decide_eq_false (vX (k:=k) ‹_›)] | rw [decide_eq_true (vN (k:=k) qg qg ‹_›)]
 replace h1:=xA h1
 refine xf (t_n (zcc (sp (yI 0) (zjn (xm ?_)))))
 refine zK (fun m' ρ w2=>∃ (zu:Env) (k:Nat),ρ=upd (upd (upd zu 0 (.slice ax x.length cx)) 1 (.slice ay y.length cy)) 5 (yI k)∧(k≤x.length)∧(x.take k=y.take k)∧m' =x.length - k∧St w w2 [] [sF false Fx ax cx x,sF false Fy ay cy y]) (x.length - 0) ⟨_,0,uE3,qg,(by rfl),rfl,H⟩ ?_
 clear H
 rintro m' ρ w3 ⟨zu,k,rfl,i0,i1,rfl,H⟩
 refine zcc (sps [yI k,.slice ax x.length cx] (oN rfl (sp (.bool (decide ((k:Int) < x.length))) (zjn (cD rfl (fun h4=>?_) (fun h4=>?_))))))
 ·skip
  refine xf (t_n (xP (xm (xP ?_))))
  refine vK rfl H fun H=>rtp 0 (.slice ax x.length cx) H ?_
  refine rtp 1 (yI k) H ?_
  obtain ⟨b6,o7,rfl⟩:=H.addr 0 rfl qg
  refine tI 2 rfl rfl rfl H ?_
  refine tL 3 rfl rfl (fun _ h=>h.elemBoolN 0 rfl k qg) H ?_
  refine rtp 4 (.slice ay y.length cy) H ?_
  refine rtp 5 (yI k) H ?_
  obtain ⟨b8,o9,rfl⟩:=H.addr 1 rfl qg
  refine tI 6 rfl rfl rfl H ?_
  refine tL 7 rfl rfl (fun _ h=>h.elemBoolN 1 rfl k qg) H ?_
  refine rt 8 (.bool ((x[k]!) != (y[k]!))) (y_neB underlying4 (x[k]!) (y[k]!) rfl rfl) H ?_
  refine xI qi (t_n (xC ((x[k]!) != (y[k]!)) rfl (fun h10=>?_) (fun h10=>?_)))
  ·skip
   replace h10:=bne_iff_ne.1 h10
   refine zcr (sp (.bool false) (zjr (zr5 (ret1 (.bool false) rfl rfl ⟨_,rfl,?_,H.base⟩))))
   first | rw [decide_eq_false (fun e=>by subst e;omega)] | rw [decide_eq_false (vX (k:=k) ‹_›)] | rw [decide_eq_true (vN (k:=k) qg qg ‹_›)]
  replace h10:=xA h10
  refine xf (b_n (t_n (xJ (sp (yI k) (sw (xX k 1 rfl rfl qg (sp (yI (k+1)) (xN (xg (m' :=x.length - (k+1)) qg ⟨_,k+1,uE3,?_,?_,rfl,H⟩)))))))))
  · omega
  · exact QD qg qg ‹_› qh
 refine zx4 (zcr (sp (.bool true) (zjr (ret1 (.bool true) rfl rfl ⟨_,rfl,?_,H.base⟩))))
 first | rw [decide_eq_false (fun e=>by subst e;omega)] | rw [decide_eq_false (vX (k:=k) ‹_›)] | rw [decide_eq_true (vN (k:=k) qg qg ‹_›)]

theorem eqInt64SS_ok (w:World) (x:yLL) (y:yLL) {ax:yOA} {Fx:yLN} {ay:yOA} {Fy:yLN} (hx:qV.rep w Fx [.slice ax x.length cx] x) (hy:qV.rep w Fy [.slice ay y.length cy] y):Calls Tryz.prog 13 #[.slice ax x.length cx,.slice ay y.length cy] w (Ret (fun v w' =>v=.bool (decide (x=y))) w):=by
 refine en func13 ntmps13 ?_
 have H:=((St.start w).arg hy).arg hx
 have nhx:=qO hx
 have nhy:=qO hy
 clear hx hy
 refine zcr (sp (.bool false) (zjcc (sp (.slice ax x.length cx) (oN rfl (sp (.slice ay y.length cy) (oN rfl (sp (.bool ((x.length:Int) != y.length)) (zjn (xC ((x.length:Int) != y.length) rfl (fun h1=>?_) (fun h1=>?_))))))))))
 ·skip
  replace h1:=bne_iff_ne.1 h1
  refine zcr (sp (.bool false) (zjr (t_r (ret1 (.bool false) rfl rfl ⟨_,rfl,?_,H.base⟩))))
  first | rw [decide_eq_false (fun e=>by subst e;omega)] | rw [decide_eq_false (vX (k:=k) ‹_›)] | rw [decide_eq_true (vN (k:=k) qg qg ‹_›)]
 replace h1:=xA h1
 refine xf (t_n (zcc (sp (yI 0) (zjn (xm ?_)))))
 refine zK (fun m' ρ w2=>∃ (zu:Env) (k:Nat),ρ=upd (upd (upd zu 0 (.slice ax x.length cx)) 1 (.slice ay y.length cy)) 5 (yI k)∧(k≤x.length)∧(x.take k=y.take k)∧m' =x.length - k∧St w w2 [] [sF false Fx ax cx x,sF false Fy ay cy y]) (x.length - 0) ⟨_,0,uE3,qg,(by rfl),rfl,H⟩ ?_
 clear H
 rintro m' ρ w3 ⟨zu,k,rfl,i0,i1,rfl,H⟩
 refine zcc (sps [yI k,.slice ax x.length cx] (oN rfl (sp (.bool (decide ((k:Int) < x.length))) (zjn (cD rfl (fun h4=>?_) (fun h4=>?_))))))
 ·skip
  refine xf (t_n (xP (xm (xP ?_))))
  refine vK rfl H fun H=>rtp 0 (.slice ax x.length cx) H ?_
  refine rtp 1 (yI k) H ?_
  obtain ⟨b6,o7,rfl⟩:=H.addr 0 rfl qg
  obtain ⟨ae8,ce8,Fe8,H⟩:=H.Qm 0 rfl k k qg qg qg
  refine tI 2 rfl rfl rfl (H.sel _ (.refl _) _ (fun _ h=>List.mem_cons_of_mem _ (List.mem_cons_of_mem _ (h)))) ?_
  refine rtp 4 (.slice ay y.length cy) (H.sel _ (.refl _) _ (fun _ h=>List.mem_cons_of_mem _ (List.mem_cons_of_mem _ (h)))) ?_
  refine rtp 5 (yI k) (H.sel _ (.refl _) _ (fun _ h=>List.mem_cons_of_mem _ (List.mem_cons_of_mem _ (h)))) ?_
  obtain ⟨b9,o10,rfl⟩:=H.addr 3 rfl qg
  obtain ⟨ae11,ce11,Fe11,H⟩:=H.Qm 3 rfl k k qg qg qg
  refine tI 6 rfl rfl rfl (H.sel _ (.refl _) _ (fun _ h=>List.mem_cons_of_mem _ (List.mem_cons_of_mem _ (List.mem_cons_of_mem _ (List.mem_cons_of_mem _ (h)))))) ?_
  refine yz [3,7] qi qo (r_op rfl ?_ (r_op rfl ?_ yA))
  ·skip
   refine xY (.slice ae8 ((x[k]!).length) ce8) isAgg22 rfl (H.xU 3 rfl 0 rfl) (⟨H.dF 4,(ro 7 rfl (xY (.slice ae11 ((y[k]!).length) ce11) isAgg22 rfl (H.xU 1 rfl 0 rfl) (⟨H.dF 4,(ro 8 rfl (oq (Qh _ (x[k]!) (y[k]!) (H.get 2 rfl).1 (H.get 0 rfl).1) H fun w12 H=>⟨H.dF 4,(rtp 9 (.bool (!(decide ((x[k]!)=(y[k]!))))) (H.sel _ (.refl _) _ (fun _ h=>List.mem_cons_of_mem _ (List.mem_cons_of_mem _ (List.mem_cons_of_mem _ (List.mem_cons_of_mem _ (h)))))) ?_)⟩))⟩)))⟩)
   refine xI qi (t_n (xC (!(decide ((x[k]!)=(y[k]!)))) rfl (fun h14=>?_) (fun h14=>?_)))
   ·skip
    replace h14:=xB h14
    replace h14:=of_decide_eq_false h14
    refine zcr (sp (.bool false) (zjr (zr5 (ret1 (.bool false) rfl rfl ⟨_,rfl,?_,H.base⟩))))
    first | rw [decide_eq_false (fun e=>by subst e;omega)] | rw [decide_eq_false (vX (k:=k) ‹_›)] | rw [decide_eq_true (vN (k:=k) qg qg ‹_›)]
   replace h14:=xq h14
   replace h14:=of_decide_eq_true h14
   refine xf (b_n (t_n (xJ (sp (yI k) (sw (xX k 1 rfl rfl qg (sp (yI (k+1)) (xN (xg (m' :=x.length - (k+1)) qg ⟨_,k+1,uE3,?_,?_,rfl,H.sel _ (.refl _) _ qo⟩)))))))))
   · omega
   · exact QD qg qg ‹_› qh
  refine xY (.slice ae11 ((y[k]!).length) ce11) isAgg22 rfl (H.xU 1 rfl 0 rfl) (⟨H.dF 4,(ro 3 rfl (xY (.slice ae8 ((x[k]!).length) ce8) isAgg22 rfl (H.xU 3 rfl 0 rfl) (⟨H.dF 4,(ro 8 rfl (oq (Qh _ (x[k]!) (y[k]!) (H.get 2 rfl).1 (H.get 0 rfl).1) H fun w15 H=>⟨H.dF 4,(rtp 9 (.bool (!(decide ((x[k]!)=(y[k]!))))) (H.sel _ (.refl _) _ (fun _ h=>List.mem_cons_of_mem _ (List.mem_cons_of_mem _ (List.mem_cons_of_mem _ (List.mem_cons_of_mem _ (h)))))) ?_)⟩))⟩)))⟩)
  refine xI qi (t_n (xC (!(decide ((x[k]!)=(y[k]!)))) rfl (fun h17=>?_) (fun h17=>?_)))
  ·skip
   replace h17:=xB h17
   replace h17:=of_decide_eq_false h17
   refine zcr (sp (.bool false) (zjr (zr5 (ret1 (.bool false) rfl rfl ⟨_,rfl,?_,H.base⟩))))
   first | rw [decide_eq_false (fun e=>by subst e;omega)] | rw [decide_eq_false (vX (k:=k) ‹_›)] | rw [decide_eq_true (vN (k:=k) qg qg ‹_›)]
  replace h17:=xq h17
  replace h17:=of_decide_eq_true h17
  refine xf (b_n (t_n (xJ (sp (yI k) (sw (xX k 1 rfl rfl qg (sp (yI (k+1)) (xN (xg (m' :=x.length - (k+1)) qg ⟨_,k+1,uE3,?_,?_,rfl,H.sel _ (.refl _) _ qo⟩)))))))))
  · omega
  · exact QD qg qg ‹_› qh
 refine zx4 (zcr (sp (.bool true) (zjr (ret1 (.bool true) rfl rfl ⟨_,rfl,?_,H.base⟩))))
 first | rw [decide_eq_false (fun e=>by subst e;omega)] | rw [decide_eq_false (vX (k:=k) ‹_›)] | rw [decide_eq_true (vN (k:=k) qg qg ‹_›)]

theorem eqPassRule_ok (w:World) (x:xM) (y:xM) {axOut:yOA} {FxOut:yLN} {axIn:yOA} {FxIn:yLN} {ayOut:yOA} {cyOut:Nat} {FyOut:yLN} {ayIn:yOA} {cyIn:Nat} {FyIn:yLN} (hxOut:qV.rep w FxOut [.slice axOut x.qU.length cxOut] x.qU) (hxIn:qV.rep w FxIn [.slice axIn x.fIn.length cxIn] x.fIn) (hyOut:qV.rep w FyOut [.slice ayOut y.qU.length cyOut] y.qU) (hyIn:qV.rep w FyIn [.slice ayIn y.fIn.length cyIn] y.fIn):Calls Tryz.prog 79 #[.agg #[yI x.qE,.slice axOut x.qU.length cxOut,.slice axIn x.fIn.length cxIn],.agg #[yI y.qE,.slice ayOut y.qU.length cyOut,.slice ayIn y.fIn.length cyIn]] w (Ret (fun v w' =>v=.bool (decide (x=y))) w):=by
 refine en func79 ntmps79 ?_
 have H:=((((St.start w).arg hyIn).arg hyOut).arg hxIn).arg hxOut
 have nhxOut:=qO hxOut
 have nhxIn:=qO hxIn
 have nhyOut:=qO hyOut
 have nhyIn:=qO hyIn
 clear hxOut hxIn hyOut hyIn
 refine zcr (sw (o_box H (.agg #[yI x.qE,.slice axOut x.qU.length cxOut,.slice axIn x.fIn.length cxIn]) rfl fun b1 w2 H=>sw (o_box H (.agg #[yI y.qE,.slice ayOut y.qU.length cyOut,.slice ayIn y.fIn.length cyIn]) rfl fun b3 w4 H=>?_)))
 replace H:St _ _ [.box b3 [yI y.qE,.slice ayOut y.qU.length cyOut,.slice ayIn y.fIn.length cyIn] 93,.box b1 [yI x.qE,.slice axOut x.qU.length cxOut,.slice axIn x.fIn.length cxIn] 93] _:=H
 refine sp (.bool false) (zjcc (oF rfl (oL rfl (H.cell 1 rfl rfl) (oF rfl (oL rfl (H.cell 0 rfl rfl) (sp (.bool ((x.qE:Int) != y.qE)) (zjn (xC ((x.qE:Int) != y.qE) rfl (fun h5=>?_) (fun h5=>?_)))))))))
 ·skip
  replace h5:=bne_iff_ne.1 h5
  refine zcr (sp (.bool false) (zjr (t_r (ret1 (.bool false) rfl rfl ⟨_,rfl,?_,H.base⟩))))
  rw [decide_eq_false (fun e=>by subst e;simp_all)]
 replace h5:=xA h5
 refine xf (t_n (zcc (oF rfl (oL rfl (H.cell 1 rfl rfl) (oF rfl (oL rfl (H.cell 0 rfl rfl) (sw (oq (Qh _ x.qU y.qU (H.get 0 rfl).1 (H.get 2 rfl).1) H fun w6 H=>sp (.bool (!(decide (x.qU=y.qU)))) (zjn (xC (!(decide (x.qU=y.qU))) rfl (fun h8=>?_) (fun h8=>?_)))))))))))
 ·skip
  replace h8:=xB h8
  replace h8:=of_decide_eq_false h8
  refine zcr (sp (.bool false) (zjr (t_r (ret1 (.bool false) rfl rfl ⟨_,rfl,?_,H.base⟩))))
  rw [decide_eq_false (fun e=>by subst e;simp_all)]
 replace h8:=xq h8
 replace h8:=of_decide_eq_true h8
 refine xf (t_n (zcc (oF rfl (oL rfl (H.cell 1 rfl rfl) (oF rfl (oL rfl (H.cell 0 rfl rfl) (sw (oq (Qh _ x.fIn y.fIn (H.get 1 rfl).1 (H.get 3 rfl).1) H fun w9 H=>sp (.bool (!(decide (x.fIn=y.fIn)))) (zjn (xC (!(decide (x.fIn=y.fIn))) rfl (fun h11=>?_) (fun h11=>?_)))))))))))
 ·skip
  replace h11:=xB h11
  replace h11:=of_decide_eq_false h11
  refine zcr (sp (.bool false) (zjr (t_r (ret1 (.bool false) rfl rfl ⟨_,rfl,?_,H.base⟩))))
  rw [decide_eq_false (fun e=>by subst e;simp_all)]
 replace h11:=xq h11
 replace h11:=of_decide_eq_true h11
 refine xf (t_n (zcr (sp (.bool true) (zjr (ret1 (.bool true) rfl rfl ⟨_,rfl,?_,H.base⟩)))))
 rw [decide_eq_true (by cases x;cases y;simp_all)]

theorem eqPassRuleS_ok (w:World) (x:List xM) (y:List xM) {ax:yOA} {Fx:yLN} {ay:yOA} {Fy:yLN} (hx:qV.rep w Fx [.slice ax x.length cx] x) (hy:qV.rep w Fy [.slice ay y.length cy] y):Calls Tryz.prog 47 #[.slice ax x.length cx,.slice ay y.length cy] w (Ret (fun v w' =>v=.bool (decide (x=y))) w):=by
 refine en func47 ntmps47 ?_
 have H:=((St.start w).arg hy).arg hx
 have nhx:=qO hx
 have nhy:=qO hy
 clear hx hy
 refine zcr (sp (.bool false) (zjcc (sp (.slice ax x.length cx) (oN rfl (sp (.slice ay y.length cy) (oN rfl (sp (.bool ((x.length:Int) != y.length)) (zjn (xC ((x.length:Int) != y.length) rfl (fun h1=>?_) (fun h1=>?_))))))))))
 ·skip
  replace h1:=bne_iff_ne.1 h1
  refine zcr (sp (.bool false) (zjr (t_r (ret1 (.bool false) rfl rfl ⟨_,rfl,?_,H.base⟩))))
  first | rw [decide_eq_false (fun e=>by subst e;omega)] | rw [decide_eq_false (vX (k:=k) ‹_›)] | rw [decide_eq_true (vN (k:=k) qg qg ‹_›)]
 replace h1:=xA h1
 refine xf (t_n (zcc (sp (yI 0) (zjn (xm ?_)))))
 refine zK (fun m' ρ w2=>∃ (zu:Env) (k:Nat),ρ=upd (upd (upd zu 0 (.slice ax x.length cx)) 1 (.slice ay y.length cy)) 5 (yI k)∧(k≤x.length)∧(x.take k=y.take k)∧m' =x.length - k∧St w w2 [] [sF false Fx ax cx x,sF false Fy ay cy y]) (x.length - 0) ⟨_,0,uE3,qg,(by rfl),rfl,H⟩ ?_
 clear H
 rintro m' ρ w3 ⟨zu,k,rfl,i0,i1,rfl,H⟩
 refine zcc (sps [yI k,.slice ax x.length cx] (oN rfl (sp (.bool (decide ((k:Int) < x.length))) (zjn (cD rfl (fun h4=>?_) (fun h4=>?_))))))
 ·skip
  refine xf (t_n (xP (xm (xP ?_))))
  refine vK rfl H fun H=>rtp 0 (.slice ax x.length cx) H ?_
  refine rtp 1 (yI k) H ?_
  obtain ⟨b6,o7,rfl⟩:=H.addr 0 rfl qg
  obtain ⟨ae8Out,ce8Out,Fe8Out,ae8In,ce8In,Fe8In,H⟩:=H.zW 0 rfl k k qg qg qg
  refine tI 2 rfl rfl rfl (H.sel _ (.refl _) _ (fun _ h=>List.mem_cons_of_mem _ (List.mem_cons_of_mem _ (List.mem_cons_of_mem _ (h))))) ?_
  refine rtp 4 (.slice ay y.length cy) (H.sel _ (.refl _) _ (fun _ h=>List.mem_cons_of_mem _ (List.mem_cons_of_mem _ (List.mem_cons_of_mem _ (h))))) ?_
  refine rtp 5 (yI k) (H.sel _ (.refl _) _ (fun _ h=>List.mem_cons_of_mem _ (List.mem_cons_of_mem _ (List.mem_cons_of_mem _ (h))))) ?_
  obtain ⟨b9,o10,rfl⟩:=H.addr 4 rfl qg
  obtain ⟨ae11Out,ce11Out,Fe11Out,ae11In,ce11In,Fe11In,H⟩:=H.zW 4 rfl k k qg qg qg
  refine tI 6 rfl rfl rfl (H.sel _ (.refl _) _ (fun _ h=>List.mem_cons_of_mem _ (List.mem_cons_of_mem _ (List.mem_cons_of_mem _ (List.mem_cons_of_mem _ (List.mem_cons_of_mem _ (List.mem_cons_of_mem _ (h)))))))) ?_
  refine yz [3,7] qi qo (r_op rfl ?_ (r_op rfl ?_ yA))
  ·skip
   refine xZ [yI ((x[k]!).qE),.slice ae8Out (((x[k]!).qU).length) ce8Out,.slice ae8In (((x[k]!).fIn).length) ce8In] isAgg93 sizeOf93 rfl (qN (H.get 5 rfl) 0 3) (⟨H.dF 6,(ro 7 rfl (xZ [yI ((y[k]!).qE),.slice ae11Out (((y[k]!).qU).length) ce11Out,.slice ae11In (((y[k]!).fIn).length) ce11In] isAgg93 sizeOf93 rfl (qN (H.get 2 rfl) 0 3) (⟨H.dF 6,(ro 8 rfl (oq (eqPassRule_ok _ (x[k]!) (y[k]!) (H.get 3 rfl).1 (H.get 4 rfl).1 (H.get 0 rfl).1 (H.get 1 rfl).1) H fun w12 H=>⟨H.dF 6,?_⟩))⟩)))⟩)
   refine rtp 9 (.bool (!(decide ((x[k]!)=(y[k]!))))) (H.sel _ (.refl _) _ (fun _ h=>List.mem_cons_of_mem _ (List.mem_cons_of_mem _ (List.mem_cons_of_mem _ (List.mem_cons_of_mem _ (List.mem_cons_of_mem _ (List.mem_cons_of_mem _ (h)))))))) ?_
   refine xI qi (t_n (xC (!(decide ((x[k]!)=(y[k]!)))) rfl (fun h14=>?_) (fun h14=>?_)))
   ·skip
    replace h14:=xB h14
    replace h14:=of_decide_eq_false h14
    refine zcr (sp (.bool false) (zjr (zr5 (ret1 (.bool false) rfl rfl ⟨_,rfl,?_,H.base⟩))))
    first | rw [decide_eq_false (fun e=>by subst e;omega)] | rw [decide_eq_false (vX (k:=k) ‹_›)] | rw [decide_eq_true (vN (k:=k) qg qg ‹_›)]
   replace h14:=xq h14
   replace h14:=of_decide_eq_true h14
   refine xf (b_n (t_n (xJ (sp (yI k) (sw (xX k 1 rfl rfl qg (sp (yI (k+1)) (xN (xg (m' :=x.length - (k+1)) qg ⟨_,k+1,uE3,?_,?_,rfl,H.sel _ (.refl _) _ qo⟩)))))))))
   · omega
   · exact QD qg qg ‹_› qh
  refine xZ [yI ((y[k]!).qE),.slice ae11Out (((y[k]!).qU).length) ce11Out,.slice ae11In (((y[k]!).fIn).length) ce11In] isAgg93 sizeOf93 rfl (qN (H.get 2 rfl) 0 3) (⟨H.dF 6,(ro 3 rfl (xZ [yI ((x[k]!).qE),.slice ae8Out (((x[k]!).qU).length) ce8Out,.slice ae8In (((x[k]!).fIn).length) ce8In] isAgg93 sizeOf93 rfl (qN (H.get 5 rfl) 0 3) (⟨H.dF 6,(ro 8 rfl (oq (eqPassRule_ok _ (x[k]!) (y[k]!) (H.get 3 rfl).1 (H.get 4 rfl).1 (H.get 0 rfl).1 (H.get 1 rfl).1) H fun w15 H=>⟨H.dF 6,?_⟩))⟩)))⟩)
  refine rtp 9 (.bool (!(decide ((x[k]!)=(y[k]!))))) (H.sel _ (.refl _) _ (fun _ h=>List.mem_cons_of_mem _ (List.mem_cons_of_mem _ (List.mem_cons_of_mem _ (List.mem_cons_of_mem _ (List.mem_cons_of_mem _ (List.mem_cons_of_mem _ (h)))))))) ?_
  refine xI qi (t_n (xC (!(decide ((x[k]!)=(y[k]!)))) rfl (fun h17=>?_) (fun h17=>?_)))
  ·skip
   replace h17:=xB h17
   replace h17:=of_decide_eq_false h17
   refine zcr (sp (.bool false) (zjr (zr5 (ret1 (.bool false) rfl rfl ⟨_,rfl,?_,H.base⟩))))
   first | rw [decide_eq_false (fun e=>by subst e;omega)] | rw [decide_eq_false (vX (k:=k) ‹_›)] | rw [decide_eq_true (vN (k:=k) qg qg ‹_›)]
  replace h17:=xq h17
  replace h17:=of_decide_eq_true h17
  refine xf (b_n (t_n (xJ (sp (yI k) (sw (xX k 1 rfl rfl qg (sp (yI (k+1)) (xN (xg (m' :=x.length - (k+1)) qg ⟨_,k+1,uE3,?_,?_,rfl,H.sel _ (.refl _) _ qo⟩)))))))))
  · omega
  · exact QD qg qg ‹_› qh
 refine zx4 (zcr (sp (.bool true) (zjr (ret1 (.bool true) rfl rfl ⟨_,rfl,?_,H.base⟩))))
 first | rw [decide_eq_false (fun e=>by subst e;omega)] | rw [decide_eq_false (vX (k:=k) ‹_›)] | rw [decide_eq_true (vN (k:=k) qg qg ‹_›)]

theorem eqPassing_ok (w:World) (x:qW) (y:qW) {zV:yOA} {jr:yLN} {axFree:yOA} {FxFree:yLN} {jg:yOA} {yZ:yLN} {ayParents:yOA} {cyParents:Nat} {FyParents:yLN} {ayFree:yOA} {cyFree:Nat} {FyFree:yLN} {ayRules:yOA} {cyRules:Nat} {FyRules:yLN} (jU:qV.rep w jr [.slice zV x.qC.length zU] x.qC) (hxFree:qV.rep w FxFree [.slice axFree x.qL.length cxFree] x.qL) (QC:qV.rep w yZ [.slice jg x.qB.length je] x.qB) (hyParents:qV.rep w FyParents [.slice ayParents y.qC.length cyParents] y.qC) (hyFree:qV.rep w FyFree [.slice ayFree y.qL.length cyFree] y.qL) (hyRules:qV.rep w FyRules [.slice ayRules y.qB.length cyRules] y.qB):Calls Tryz.prog 14 #[.agg #[yI x.qJ,.slice zV x.qC.length zU,.slice axFree x.qL.length cxFree,.slice jg x.qB.length je],.agg #[yI y.qJ,.slice ayParents y.qC.length cyParents,.slice ayFree y.qL.length cyFree,.slice ayRules y.qB.length cyRules]] w (Ret (fun v w' =>v=.bool (decide (x=y))) w):=by
 refine en func14 ntmps14 ?_
 have H:=((((((St.start w).arg hyRules).arg hyFree).arg hyParents).arg QC).arg hxFree).arg jU
 have nhxParents:=qO jU
 have nhxFree:=qO hxFree
 have nhxRules:=qO QC
 have nhyParents:=qO hyParents
 have nhyFree:=qO hyFree
 have nhyRules:=qO hyRules
 clear jU hxFree QC hyParents hyFree hyRules
 refine zcr (sw (o_box H (.agg #[yI x.qJ,.slice zV x.qC.length zU,.slice axFree x.qL.length cxFree,.slice jg x.qB.length je]) rfl fun b1 w2 H=>sw (o_box H (.agg #[yI y.qJ,.slice ayParents y.qC.length cyParents,.slice ayFree y.qL.length cyFree,.slice ayRules y.qB.length cyRules]) rfl fun b3 w4 H=>?_)))
 replace H:St _ _ [.box b3 [yI y.qJ,.slice ayParents y.qC.length cyParents,.slice ayFree y.qL.length cyFree,.slice ayRules y.qB.length cyRules] 37,.box b1 [yI x.qJ,.slice zV x.qC.length zU,.slice axFree x.qL.length cxFree,.slice jg x.qB.length je] 37] _:=H
 refine sp (.bool false) (zjcc (oF rfl (oL rfl (H.cell 1 rfl rfl) (oF rfl (oL rfl (H.cell 0 rfl rfl) (sp (.bool ((x.qJ:Int) != y.qJ)) (zjn (xC ((x.qJ:Int) != y.qJ) rfl (fun h5=>?_) (fun h5=>?_)))))))))
 ·skip
  replace h5:=bne_iff_ne.1 h5
  refine zcr (sp (.bool false) (zjr (t_r (ret1 (.bool false) rfl rfl ⟨_,rfl,?_,H.base⟩))))
  rw [decide_eq_false (fun e=>by subst e;simp_all)]
 replace h5:=xA h5
 refine xf (t_n (zcc (oF rfl (oL rfl (H.cell 1 rfl rfl) (oF rfl (oL rfl (H.cell 0 rfl rfl) (sw (oq (Qh _ x.qC y.qC (H.get 0 rfl).1 (H.get 3 rfl).1) H fun w6 H=>sp (.bool (!(decide (x.qC=y.qC)))) (zjn (xC (!(decide (x.qC=y.qC))) rfl (fun h8=>?_) (fun h8=>?_)))))))))))
 ·skip
  replace h8:=xB h8
  replace h8:=of_decide_eq_false h8
  refine zcr (sp (.bool false) (zjr (t_r (ret1 (.bool false) rfl rfl ⟨_,rfl,?_,H.base⟩))))
  rw [decide_eq_false (fun e=>by subst e;simp_all)]
 replace h8:=xq h8
 replace h8:=of_decide_eq_true h8
 refine xf (t_n (zcc (oF rfl (oL rfl (H.cell 1 rfl rfl) (oF rfl (oL rfl (H.cell 0 rfl rfl) (sw (oq (eqBoolS_ok _ x.qL y.qL (H.get 1 rfl).1 (H.get 4 rfl).1) H fun w9 H=>sp (.bool (!(decide (x.qL=y.qL)))) (zjn (xC (!(decide (x.qL=y.qL))) rfl (fun h11=>?_) (fun h11=>?_)))))))))))
 ·skip
  replace h11:=xB h11
  replace h11:=of_decide_eq_false h11
  refine zcr (sp (.bool false) (zjr (t_r (ret1 (.bool false) rfl rfl ⟨_,rfl,?_,H.base⟩))))
  rw [decide_eq_false (fun e=>by subst e;simp_all)]
 replace h11:=xq h11
 replace h11:=of_decide_eq_true h11
 refine xf (t_n (zcc (oF rfl (oL rfl (H.cell 1 rfl rfl) (oF rfl (oL rfl (H.cell 0 rfl rfl) (sw (oq (eqPassRuleS_ok _ x.qB y.qB (H.get 2 rfl).1 (H.get 5 rfl).1) H fun w12 H=>sp (.bool (!(decide (x.qB=y.qB)))) (zjn (xC (!(decide (x.qB=y.qB))) rfl (fun h14=>?_) (fun h14=>?_)))))))))))
 ·skip
  replace h14:=xB h14
  replace h14:=of_decide_eq_false h14
  refine zcr (sp (.bool false) (zjr (t_r (ret1 (.bool false) rfl rfl ⟨_,rfl,?_,H.base⟩))))
  rw [decide_eq_false (fun e=>by subst e;simp_all)]
 replace h14:=xq h14
 replace h14:=of_decide_eq_true h14
 refine xf (t_n (zcr (sp (.bool true) (zjr (ret1 (.bool true) rfl rfl ⟨_,rfl,?_,H.base⟩)))))
 rw [decide_eq_true (by cases x;cases y;simp_all)]

theorem eqStock_ok (w:World) (x:qZ) (y:qZ) {axCells:yOA} {FxCells:yLN} {vJ:yOA} {yf:yLN} {ayCells:yOA} {cyCells:Nat} {FyCells:yLN} {ayAround:yOA} {cyAround:Nat} {FyAround:yLN} (hxCells:qV.rep w FxCells [.slice axCells x.qG.length cxCells] x.qG) (yS:qV.rep w yf [.slice vJ x.qF.length vI] x.qF) (hyCells:qV.rep w FyCells [.slice ayCells y.qG.length cyCells] y.qG) (hyAround:qV.rep w FyAround [.slice ayAround y.qF.length cyAround] y.qF):Calls Tryz.prog 15 #[.agg #[.slice axCells x.qG.length cxCells,.slice vJ x.qF.length vI],.agg #[.slice ayCells y.qG.length cyCells,.slice ayAround y.qF.length cyAround]] w (Ret (fun v w' =>v=.bool (decide (x=y))) w):=by
 refine en func15 ntmps15 ?_
 have H:=((((St.start w).arg hyAround).arg hyCells).arg yS).arg hxCells
 have nhxCells:=qO hxCells
 have nhxAround:=qO yS
 have nhyCells:=qO hyCells
 have nhyAround:=qO hyAround
 clear hxCells yS hyCells hyAround
 refine zcr (sw (o_box H (.agg #[.slice axCells x.qG.length cxCells,.slice vJ x.qF.length vI]) rfl fun b1 w2 H=>sw (o_box H (.agg #[.slice ayCells y.qG.length cyCells,.slice ayAround y.qF.length cyAround]) rfl fun b3 w4 H=>?_)))
 replace H:St _ _ [.box b3 [.slice ayCells y.qG.length cyCells,.slice ayAround y.qF.length cyAround] 39,.box b1 [.slice axCells x.qG.length cxCells,.slice vJ x.qF.length vI] 39] _:=H
 refine sp (.bool false) (zjcc (oF rfl (oL rfl (H.cell 1 rfl rfl) (oF rfl (oL rfl (H.cell 0 rfl rfl) (sw (oq (eqInt64SS_ok _ x.qG y.qG (H.get 0 rfl).1 (H.get 2 rfl).1) H fun w5 H=>sp (.bool (!(decide (x.qG=y.qG)))) (zjn (xC (!(decide (x.qG=y.qG))) rfl (fun h7=>?_) (fun h7=>?_))))))))))
 ·skip
  replace h7:=xB h7
  replace h7:=of_decide_eq_false h7
  refine zcr (sp (.bool false) (zjr (t_r (ret1 (.bool false) rfl rfl ⟨_,rfl,?_,H.base⟩))))
  rw [decide_eq_false (fun e=>by subst e;simp_all)]
 replace h7:=xq h7
 replace h7:=of_decide_eq_true h7
 refine xf (t_n (zcc (oF rfl (oL rfl (H.cell 1 rfl rfl) (oF rfl (oL rfl (H.cell 0 rfl rfl) (sw (oq (Qh _ x.qF y.qF (H.get 1 rfl).1 (H.get 3 rfl).1) H fun w8 H=>sp (.bool (!(decide (x.qF=y.qF)))) (zjn (xC (!(decide (x.qF=y.qF))) rfl (fun h10=>?_) (fun h10=>?_)))))))))))
 ·skip
  replace h10:=xB h10
  replace h10:=of_decide_eq_false h10
  refine zcr (sp (.bool false) (zjr (t_r (ret1 (.bool false) rfl rfl ⟨_,rfl,?_,H.base⟩))))
  rw [decide_eq_false (fun e=>by subst e;simp_all)]
 replace h10:=xq h10
 replace h10:=of_decide_eq_true h10
 refine xf (t_n (zcr (sp (.bool true) (zjr (ret1 (.bool true) rfl rfl ⟨_,rfl,?_,H.base⟩)))))
 rw [decide_eq_true (by cases x;cases y;simp_all)]
end
section
open Go.RowKit
set_option linter.unusedVariables false
set_option linter.unusedSimpArgs false
set_option maxRecDepth 100000
set_option maxHeartbeats 4000000
theorem St.open_Int {W w:World} {ps:List Prv} {F:yLN} {b o m c:Nat} {l:yLI} (H:St W w ps [isF true F (.slice (some ⟨b,o,none⟩) m c) l]) (N:F.Nodup) (k:Nat) (hk:k < l.length) {y:Int} (hy:l[k]! =y):
    ∃ (xs1 xs2:List Value) (F1 F2:yLN),F=b :: (F1++[]++F2)∧xs1.length=k * 1∧St W w ps [holeF b o xs1 [.int .i64 y] xs2 F1 F2 (l.take k) (l.drop (k+1))]∧
      ([b :: (F1++F2)]:List yLN).flatten.Nodup:=by
  obtain ⟨cs,xs1,xs2,F1,Fk,F2,rfl,hx,hr,hfr,hlt,H⟩:=H.openAt k hk
  rw [hy] at hr
  obtain ⟨hFF,rfl⟩:=hr
  exact ⟨xs1,xs2,F1,F2,by rw [hFF],hx,H,by have N' :=nodup_hole N;rw [hFF] at N';simpa using N'⟩

theorem St.open_Bool {W w:World} {ps:List Prv} {F:yLN} {b o m c:Nat} {l:List Bool} (H:St W w ps [isF true F (.slice (some ⟨b,o,none⟩) m c) l]) (N:F.Nodup) (k:Nat) (hk:k < l.length) {y:Bool} (hy:l[k]! =y):
    ∃ (xs1 xs2:List Value) (F1 F2:yLN),F=b :: (F1++[]++F2)∧xs1.length=k * 1∧St W w ps [holeF b o xs1 [.bool y] xs2 F1 F2 (l.take k) (l.drop (k+1))]∧
      ([b :: (F1++F2)]:List yLN).flatten.Nodup:=by
  obtain ⟨cs,xs1,xs2,F1,Fk,F2,rfl,hx,hr,hfr,hlt,H⟩:=H.openAt k hk
  rw [hy] at hr
  obtain ⟨hFF,rfl⟩:=hr
  exact ⟨xs1,xs2,F1,F2,by rw [hFF],hx,H,by have N' :=nodup_hole N;rw [hFF] at N';simpa using N'⟩

theorem St.open_List {α:Type} [qV α] {W w:World} {ps:List Prv} {F:yLN} {b o m c:Nat} {l:List (List α)} (H:St W w ps [isF true F (.slice (some ⟨b,o,none⟩) m c) l]) (N:F.Nodup) (k:Nat) (hk:k < l.length) {y:List α} (hy:l[k]! =y):
    ∃ (xs1 xs2:List Value) (F1 F2:yLN) (a:yOA) (c' :Nat) (Fk:yLN),F=b :: (F1++Fk++F2)∧xs1.length=k * 1∧St W w ps [holeF b o xs1 [.slice a y.length c'] xs2 F1 F2 (l.take k) (l.drop (k+1)),isF true Fk (.slice a y.length c') y]∧
      ([b :: (F1++F2),Fk]:List yLN).flatten.Nodup:=by
  obtain ⟨cs,xs1,xs2,F1,Fk,F2,rfl,hx,hr,hfr,hlt,H⟩:=H.openAt k hk
  rw [hy] at hr
  obtain ⟨a,c',rfl,_⟩:=id hr
  exact ⟨xs1,xs2,F1,F2,a,c',Fk,rfl,hx,(H.add (isF true Fk (.slice a y.length c') y) ⟨hr,fun _=>hfr⟩ hlt).sel _ (.refl _) _ (all_of ⟨.tail _ (.head _),⟨.head _,trivial⟩⟩),by simpa using nodup_hole N⟩

instance:Mark xM where
  cnt x:=1+cnt x.qU+cnt x.fIn
  mrk x k:=⟨mrk x.qE (k),mrk x.qU (k+1),mrk x.fIn (k+1+(cnt x.qU:Nat))⟩
  mkd x k:=mkd x.qE (k)∧mkd x.qU (k+1)∧mkd x.fIn (k+1+(cnt x.qU:Nat))
  mkd_mark x k:=by
    simp only [cnt_mark]
    exact ⟨mkd_mark _ _,mkd_mark _ _,mkd_mark _ _⟩
  cnt_mark x k:=by simp only [cnt_mark]
theorem yF (x:xM):cnt x=1+cnt x.qU+cnt x.fIn:=rfl

theorem St.open_PassRuleD {W w:World} {ps:List Prv} {F:yLN} {b o m c:Nat} {l:List xM} (H:St W w ps [isF true F (.slice (some ⟨b,o,none⟩) m c) l]) (N:F.Nodup) (k:Nat) (hk:k < l.length) {y:xM} (hy:l[k]! =y):
    ∃ (xs1 xs2:List Value) (F1 F2:yLN) (aOut:yOA) (cOut:Nat) (FOut:yLN) (aIn:yOA) (cIn:Nat) (FIn:yLN),F=b :: (F1++(FOut++FIn)++F2)∧xs1.length=k * 3∧St W w ps [holeF b o xs1 [.int .i64 y.qE,.slice aOut y.qU.length cOut,.slice aIn y.fIn.length cIn] xs2 F1 F2 (l.take k) (l.drop (k+1)),isF true FOut (.slice aOut y.qU.length cOut) y.qU,isF true FIn (.slice aIn y.fIn.length cIn) y.fIn]∧
      ([b :: (F1++F2),FOut,FIn]:List yLN).flatten.Nodup:=by
  obtain ⟨cs,xs1,xs2,F1,Fk,F2,rfl,hx,hr,hfr,hlt,H⟩:=H.openAt k hk
  rw [hy] at hr
  obtain ⟨vOut,vIn,FOut,FIn,rfl,hFF,hOut,hIn⟩:=hr
  obtain ⟨aOut,cOut,rfl⟩:=slice_form hOut
  obtain ⟨aIn,cIn,rfl⟩:=slice_form hIn
  exact ⟨xs1,xs2,F1,F2,_,_,_,_,_,_,by rw [hFF],hx,((H.add (isF true FIn (.slice aIn y.fIn.length cIn) y.fIn) ⟨hIn,fun _=>hfr.sub (by rw [hFF];intro z hz;simp [hz])⟩ (fun z hz=>hlt z (by rw [hFF];have hz:z∈FIn:=hz;simp [hz]))).add (isF true FOut (.slice aOut y.qU.length cOut) y.qU) ⟨hOut,fun _=>hfr.sub (by rw [hFF];intro z hz;simp [hz])⟩ (fun z hz=>hlt z (by rw [hFF];have hz:z∈FOut:=hz;simp [hz]))).sel _ (.refl _) _ (all_of ⟨.tail _ (.tail _ (.head _)),⟨.head _,⟨.tail _ (.head _),trivial⟩⟩⟩),by have N' :=nodup_hole N;rw [hFF] at N';simpa using N'⟩

instance:Mark qZ where
  cnt x:=cnt x.qG+cnt x.qF
  mrk x k:=⟨mrk x.qG (k),mrk x.qF (k+(cnt x.qG:Nat))⟩
  mkd x k:=mkd x.qG (k)∧mkd x.qF (k+(cnt x.qG:Nat))
  mkd_mark x k:=by
    simp only [cnt_mark]
    exact ⟨mkd_mark _ _,mkd_mark _ _⟩
  cnt_mark x k:=by simp only [cnt_mark]
end
section
open Go.Proofs.Tryz
open Go.RowKit
set_option linter.unusedVariables false
set_option linter.unusedSimpArgs false
set_option maxRecDepth 100000
set_option maxHeartbeats 4000000
theorem Qx (w:World) (x:yLI) (kk:Int) (ax:yOA) (cx:Nat) (Fx:yLN) (hx:qV.rep w Fx [.slice ax x.length cx] x) (nd:Fx.Nodup) (fr:zx w Fx) (p0:0≤kk) (p1:kk+(cnt x:Nat)≤4611686018427387904):Calls Tryz.prog 25 #[.slice ax x.length cx,yI kk] w (RetM (fun v w' =>v=yI (kk+(cnt x:Nat))∧(isF true Fx (.slice ax x.length cx) (mrk x kk)).φ w') Fx w):=by
 refine en func25 ntmps25 ?_
 have H:=St.start w
 replace H:=H.add (sF true Fx ax cx x) ⟨hx,fun _=>fr.sub (by intro z hz;simp [hz])⟩ (start_lt hx)
 have nhx:=qO hx
 clear hx
 have C:Chg Fx w w:=Chg.refl _ _
 have N:([Fx]:List yLN).flatten.Nodup:=by simpa using nd
 refine zcr (sp (yI 0) (zjcc (sp (yI 0) (zjn (xm ?_)))))
 replace H:St w w [] [isF true Fx (.slice ax x.length cx) (ji x kk 0)]:=by rw [markTo_zero];exact H
 refine zK (fun m' ρ w1=>∃ (zu:Env) (k:Nat) (r:Int) (W:World),ρ=upd (upd (upd (upd zu 0 (.slice ax x.length cx)) 1 (yI r)) 4 (yI 0)) 5 (yI k)∧(k≤x.length)∧(r=kk+(cntTo x k:Nat))∧(Chg Fx w W)∧m' =x.length - k∧St W w1 [] [isF true Fx (.slice ax x.length cx) (ji x kk k)]) (x.length - 0) ⟨_,0,kk,w,uE4,qg,(by exact (Int.add_zero _).symm),(by exact C),rfl,H⟩ ?_
 clear H
 rintro m' ρ w2 ⟨zu,k,r,W,rfl,i0,i1,C,rfl,H⟩
 have hc:=fun h=>cnt_get (l:=x) (k:=k) h
 refine zcc (sps [yI k,.slice ax x.length cx] (oN rfl (sp (.bool (decide ((k:Int) < x.length))) (zjn (cD rfl (fun h3=>?_) (fun h3=>?_))))))
 ·skip
  refine xf (t_n (xP (xm (zcr (sps [.slice ax x.length cx,yI k,yI r] ?_)))))
  obtain ⟨b4,o5,rfl⟩:=H.addr 0 rfl (by rw [vS _ _ qg];omega)
  obtain ⟨xs1,xs2,G1,G2,rfl,hx,H,N⟩:=H.open_Int nd k (by rw [vS _ _ qg];omega) (markTo_get _ _ qg)
  refine oI rfl rfl (sw (o_storeHole H N _ 0 hx (yI r) sizeOf2 rfl rfl rfl (Nat.le_of_ble_eq_true rfl) fun w6 W7 C8 H=>?_))
  replace C:=C.trans (C8.mono (hole_sub _ _ _ _))
  replace H:St _ _ _ [holeF b4 o5 xs1 [yI r] xs2 G1 G2 ((ji x kk k).take k) ((ji x kk k).drop (k+1))]:=H
  refine zjn (xJ (sp (yI r) (sw (xX r 1 rfl rfl (by (have:=hc qg;have e:cnt (x[k]!)=1:=rfl;omega)) (sp (yI (r+1)) (xN (b_n (t_n (xJ (sp (yI k) (sw (xX k 1 rfl rfl (by (have:=hc qg;have e:cnt (x[k]!)=1:=rfl;omega)) (sp (yI (k+1)) (xN ?_))))))))))))))
  replace H:=H.closeAt (y:=mrk (x[k]!) r) (m:=x.length) (c:=cx) ⟨rfl,rfl⟩ (zx.nil _) (by intro z hz;simp at hz) (ji x kk (k+1)) (by subst i1;exact markTo_step _ _ qg) (vS _ _ qg) (by rw [vS _ _ qg];exact nhx)
  refine xg (m' :=x.length - (k+1)) qg ⟨_,k+1,r+1,W7,uE4,?_,?_,?_,rfl,H⟩
  · omega
  · rw [Qi];have e:cnt (x[k]!)=1:=rfl;omega
  · exact C
 refine zx4 (zcr (sps [yI r,yI r] (zjr ?_)))
 obtain rfl:k=x.length:=by omega
 refine ret1 (yI r) rfl rfl ⟨_,rfl,⟨?_,H.get 0 rfl⟩,C.trans (Chg.ofExt H.base)⟩
 first | rfl | (refine congrArg (Value.int .i64) ?_;rw [cnt_list];omega)

theorem markBoolS_ok (w:World) (x:List Bool) (kk:Int) (ax:yOA) (cx:Nat) (Fx:yLN) (hx:qV.rep w Fx [.slice ax x.length cx] x) (nd:Fx.Nodup) (fr:zx w Fx) (p0:0≤kk) (p1:kk+(cnt x:Nat)≤4611686018427387904):Calls Tryz.prog 48 #[.slice ax x.length cx,yI kk] w (RetM (fun v w' =>v=yI (kk+(cnt x:Nat))∧(isF true Fx (.slice ax x.length cx) (mrk x kk)).φ w') Fx w):=by
 refine en func48 ntmps48 ?_
 have H:=St.start w
 replace H:=H.add (sF true Fx ax cx x) ⟨hx,fun _=>fr.sub (by intro z hz;simp [hz])⟩ (start_lt hx)
 have nhx:=qO hx
 clear hx
 have C:Chg Fx w w:=Chg.refl _ _
 have N:([Fx]:List yLN).flatten.Nodup:=by simpa using nd
 refine zcr (sp (yI 0) (zjcc (sp (yI 0) (zjn (xm ?_)))))
 replace H:St w w [] [isF true Fx (.slice ax x.length cx) (ji x kk 0)]:=by rw [markTo_zero];exact H
 refine zK (fun m' ρ w1=>∃ (zu:Env) (k:Nat) (r:Int) (W:World),ρ=upd (upd (upd (upd zu 0 (.slice ax x.length cx)) 1 (yI r)) 4 (yI 0)) 5 (yI k)∧(k≤x.length)∧(r=kk+(cntTo x k:Nat))∧(Chg Fx w W)∧m' =x.length - k∧St W w1 [] [isF true Fx (.slice ax x.length cx) (ji x kk k)]) (x.length - 0) ⟨_,0,kk,w,uE4,qg,(by exact (Int.add_zero _).symm),(by exact C),rfl,H⟩ ?_
 clear H
 rintro m' ρ w2 ⟨zu,k,r,W,rfl,i0,i1,C,rfl,H⟩
 have hc:=fun h=>cnt_get (l:=x) (k:=k) h
 refine zcc (sps [yI k,.slice ax x.length cx] (oN rfl (sp (.bool (decide ((k:Int) < x.length))) (zjn (cD rfl (fun h3=>?_) (fun h3=>?_))))))
 ·skip
  refine xf (t_n (xP (xm (zcr (sps [.slice ax x.length cx,yI k,yI r] (sw (o_rem r 3 rfl rfl (by (have:=hc qg;have e:cnt (x[k]!)=1:=rfl;omega)) qg (by (have:=hc qg;have e:cnt (x[k]!)=1:=rfl;omega)) (sp (.bool ((r % 3:Int) == 0)) ?_))))))))
  obtain ⟨b4,o5,rfl⟩:=H.addr 0 rfl (by rw [vS _ _ qg];omega)
  obtain ⟨xs1,xs2,G1,G2,rfl,hx,H,N⟩:=H.open_Bool nd k (by rw [vS _ _ qg];omega) (markTo_get _ _ qg)
  refine oI rfl rfl (sw (o_storeHole H N _ 0 hx (.bool ((r % 3:Int) == 0)) sizeOf4 rfl rfl rfl (Nat.le_of_ble_eq_true rfl) fun w6 W7 C8 H=>?_))
  replace C:=C.trans (C8.mono (hole_sub _ _ _ _))
  replace H:St _ _ _ [holeF b4 o5 xs1 [.bool ((r % 3:Int) == 0)] xs2 G1 G2 ((ji x kk k).take k) ((ji x kk k).drop (k+1))]:=H
  refine zjn (xJ (sp (yI r) (sw (xX r 1 rfl rfl (by (have:=hc qg;have e:cnt (x[k]!)=1:=rfl;omega)) (sp (yI (r+1)) (xN (b_n (t_n (xJ (sp (yI k) (sw (xX k 1 rfl rfl (by (have:=hc qg;have e:cnt (x[k]!)=1:=rfl;omega)) (sp (yI (k+1)) (xN ?_))))))))))))))
  replace H:=H.closeAt (y:=mrk (x[k]!) r) (m:=x.length) (c:=cx) ⟨rfl,rfl⟩ (zx.nil _) (by intro z hz;simp at hz) (ji x kk (k+1)) (by subst i1;exact markTo_step _ _ qg) (vS _ _ qg) (by rw [vS _ _ qg];exact nhx)
  refine xg (m' :=x.length - (k+1)) qg ⟨_,k+1,r+1,W7,uE4,?_,?_,?_,rfl,H⟩
  · omega
  · rw [Qi];have e:cnt (x[k]!)=1:=rfl;omega
  · exact C
 refine zx4 (zcr (sps [yI r,yI r] (zjr ?_)))
 obtain rfl:k=x.length:=by omega
 refine ret1 (yI r) rfl rfl ⟨_,rfl,⟨?_,H.get 0 rfl⟩,C.trans (Chg.ofExt H.base)⟩
 first | rfl | (refine congrArg (Value.int .i64) ?_;rw [cnt_list];omega)

theorem markInt64SS_ok (w:World) (x:yLL) (kk:Int) (ax:yOA) (cx:Nat) (Fx:yLN) (hx:qV.rep w Fx [.slice ax x.length cx] x) (nd:Fx.Nodup) (fr:zx w Fx) (p0:0≤kk) (p1:kk+(cnt x:Nat)≤4611686018427387904):Calls Tryz.prog 19 #[.slice ax x.length cx,yI kk] w (RetM (fun v w' =>v=yI (kk+(cnt x:Nat))∧(isF true Fx (.slice ax x.length cx) (mrk x kk)).φ w') Fx w):=by
 refine en func19 ntmps19 ?_
 have H:=St.start w
 replace H:=H.add (sF true Fx ax cx x) ⟨hx,fun _=>fr.sub (by intro z hz;simp [hz])⟩ (start_lt hx)
 have nhx:=qO hx
 clear hx
 have C:Chg Fx w w:=Chg.refl _ _
 have N:([Fx]:List yLN).flatten.Nodup:=by simpa using nd
 refine zcr (sp (yI 0) (zjcc (sp (yI 0) (zjn (xm ?_)))))
 replace H:St w w [] [isF true Fx (.slice ax x.length cx) (ji x kk 0)]:=by rw [markTo_zero];exact H
 refine zK (fun m' ρ w1=>∃ (zu:Env) (k:Nat) (r:Int) (W:World),ρ=upd (upd (upd (upd zu 0 (.slice ax x.length cx)) 1 (yI r)) 4 (yI 0)) 5 (yI k)∧(k≤x.length)∧(r=kk+(cntTo x k:Nat))∧(Chg Fx w W)∧m' =x.length - k∧St W w1 [] [isF true Fx (.slice ax x.length cx) (ji x kk k)]) (x.length - 0) ⟨_,0,kk,w,uE4,qg,(by exact (Int.add_zero _).symm),(by exact C),rfl,H⟩ ?_
 clear H
 rintro m' ρ w2 ⟨zu,k,r,W,rfl,i0,i1,C,rfl,H⟩
 have hc:=fun h=>cnt_get (l:=x) (k:=k) h
 refine zcc (sps [yI k,.slice ax x.length cx] (oN rfl (sp (.bool (decide ((k:Int) < x.length))) (zjn (cD rfl (fun h3=>?_) (fun h3=>?_))))))
 ·skip
  refine xf (t_n (xP (xm (xJ (sps [.slice ax x.length cx,yI k] ?_)))))
  obtain ⟨b4,o5,rfl⟩:=H.addr 0 rfl (by rw [vS _ _ qg];omega)
  obtain ⟨xs1,xs2,G1,G2,aq,cq,Fq,rfl,hx,H,N⟩:=H.open_List nd k (by rw [vS _ _ qg];omega) (markTo_get _ _ qg)
  refine oI rfl rfl (oL rfl (H.holeCell _ 0 hx rfl) (sp (yI r) (sw (o_callM #[.slice aq ((x[k]!).length) cq,yI r] rfl rfl call25 (Qx w2 (x[k]!) r aq cq Fq (H.get 1 rfl).1 (QK N 1 rfl) ((H.get 1 rfl).2 rfl) (by (have:=hc qg;skip;omega)) (by (have:=hc qg;skip;omega))) ?_))))
  rintro _ w6 ⟨rfl,m10⟩ x8
  obtain ⟨W7,C9,H⟩:=H.chgAt N 1 rfl (isF true Fq (.slice aq ((x[k]!).length) cq) (mrk (x[k]!) r)) rfl x8 m10
  replace C:=C.trans (C9.mono (by intro z hz;have hz:z∈Fq:=hz;simp [hz]))
  replace H:St _ _ _ [holeF b4 o5 xs1 [.slice aq ((x[k]!).length) cq] xs2 G1 G2 ((ji x kk k).take k) ((ji x kk k).drop (k+1)),isF true Fq (.slice aq ((x[k]!).length) cq) (mrk (x[k]!) r)]:=H
  refine sp (yI (r+(cnt (x[k]!):Nat))) (xN (b_n (t_n (xJ (sp (yI k) (sw (xX k 1 rfl rfl (by (have:=hc qg;skip;omega)) (sp (yI (k+1)) (xN ?_)))))))))
  replace H:=H.closeAt (y:=mrk (x[k]!) r) (m:=x.length) (c:=cx) (H.get 1 rfl).1 ((H.get 1 rfl).2 rfl) (H.ltOwn 1 rfl) (ji x kk (k+1)) (by subst i1;exact markTo_step _ _ qg) (vS _ _ qg) (by rw [vS _ _ qg];exact nhx)
  refine xg (m' :=x.length - (k+1)) qg ⟨_,k+1,r+(cnt (x[k]!):Nat),W7,uE4,?_,?_,?_,rfl,H⟩
  · omega
  · rw [Qi];skip;omega
  · exact C
 refine zx4 (zcr (sps [yI r,yI r] (zjr ?_)))
 obtain rfl:k=x.length:=by omega
 refine ret1 (yI r) rfl rfl ⟨_,rfl,⟨?_,H.get 0 rfl⟩,C.trans (Chg.ofExt H.base)⟩
 first | rfl | (refine congrArg (Value.int .i64) ?_;rw [cnt_list];omega)

theorem markPassRuleS_ok (w:World) (x:List xM) (kk:Int) (ax:yOA) (cx:Nat) (Fx:yLN) (hx:qV.rep w Fx [.slice ax x.length cx] x) (nd:Fx.Nodup) (fr:zx w Fx) (p0:0≤kk) (p1:kk+(cnt x:Nat)≤4611686018427387904):Calls Tryz.prog 49 #[.slice ax x.length cx,yI kk] w (RetM (fun v w' =>v=yI (kk+(cnt x:Nat))∧(isF true Fx (.slice ax x.length cx) (mrk x kk)).φ w') Fx w):=by
 refine en func49 ntmps49 ?_
 have H:=St.start w
 replace H:=H.add (sF true Fx ax cx x) ⟨hx,fun _=>fr.sub (by intro z hz;simp [hz])⟩ (start_lt hx)
 have nhx:=qO hx
 clear hx
 have C:Chg Fx w w:=Chg.refl _ _
 have N:([Fx]:List yLN).flatten.Nodup:=by simpa using nd
 refine zcr (sp (yI 0) (zjcc (sp (yI 0) (zjn (xm ?_)))))
 replace H:St w w [] [isF true Fx (.slice ax x.length cx) (ji x kk 0)]:=by rw [markTo_zero];exact H
 refine zK (fun m' ρ w1=>∃ (zu:Env) (k:Nat) (r:Int) (W:World),ρ=upd (upd (upd (upd zu 0 (.slice ax x.length cx)) 1 (yI r)) 4 (yI 0)) 5 (yI k)∧(k≤x.length)∧(r=kk+(cntTo x k:Nat))∧(Chg Fx w W)∧m' =x.length - k∧St W w1 [] [isF true Fx (.slice ax x.length cx) (ji x kk k)]) (x.length - 0) ⟨_,0,kk,w,uE4,qg,(by exact (Int.add_zero _).symm),(by exact C),rfl,H⟩ ?_
 clear H
 rintro m' ρ w2 ⟨zu,k,r,W,rfl,i0,i1,C,rfl,H⟩
 have hc:=fun h=>cnt_get (l:=x) (k:=k) h
 refine zcc (sps [yI k,.slice ax x.length cx] (oN rfl (sp (.bool (decide ((k:Int) < x.length))) (zjn (cD rfl (fun h3=>?_) (fun h3=>?_))))))
 ·skip
  refine xf (t_n (xP (xm (zcr (sps [.slice ax x.length cx,yI k,yI r] ?_)))))
  obtain ⟨b4,o5,rfl⟩:=H.addr 0 rfl (by rw [vS _ _ qg];omega)
  obtain ⟨xs1,xs2,G1,G2,aqOut,cqOut,FqOut,aqIn,cqIn,FqIn,rfl,hx,H,N⟩:=H.open_PassRuleD nd k (by rw [vS _ _ qg];omega) (markTo_get _ _ qg)
  refine oI rfl rfl (oF rfl (sw (o_storeHole H N _ 0 hx (yI r) sizeOf2 rfl rfl rfl (Nat.le_of_ble_eq_true rfl) fun w6 W7 C8 H=>?_)))
  replace C:=C.trans (C8.mono (hole_sub _ _ _ _))
  replace H:St _ _ _ [holeF b4 o5 xs1 [yI r,.slice aqOut (((x[k]!).qU).length) cqOut,.slice aqIn (((x[k]!).fIn).length) cqIn] xs2 G1 G2 ((ji x kk k).take k) ((ji x kk k).drop (k+1)),sF true FqOut aqOut cqOut ((x[k]!).qU),sF true FqIn aqIn cqIn ((x[k]!).fIn)]:=H
  refine zjc (sp (yI r) (sw (xX r 1 rfl rfl (by (have:=hc qg;have e:=yF (x[k]!);omega)) (sp (yI (r+1)) (zjc (sps [.slice (aa b4 o5) x.length cx,yI k] (oI rfl rfl (oF rfl (oL rfl (H.holeCell _ 1 hx rfl) (sp (yI (r+1)) ?_))))))))))
  refine sw (o_callM #[.slice aqOut (((x[k]!).qU).length) cqOut,yI (r+1)] rfl rfl call25 (Qx w6 ((x[k]!).qU) (r+1) aqOut cqOut FqOut (H.get 1 rfl).1 (QK N 1 rfl) ((H.get 1 rfl).2 rfl) (by (have:=hc qg;have e:=yF (x[k]!);omega)) (by (have:=hc qg;have e:=yF (x[k]!);omega))) ?_)
  rintro _ w9 ⟨rfl,m13⟩ x11
  obtain ⟨W10,C12,H⟩:=H.chgAt N 1 rfl (isF true FqOut (.slice aqOut (((x[k]!).qU).length) cqOut) (mrk ((x[k]!).qU) (r+1))) rfl x11 m13
  replace C:=C.trans (C12.mono (by intro z hz;have hz:z∈FqOut:=hz;simp [hz]))
  replace H:St _ _ _ [holeF b4 o5 xs1 [yI r,.slice aqOut (((x[k]!).qU).length) cqOut,.slice aqIn (((x[k]!).fIn).length) cqIn] xs2 G1 G2 ((ji x kk k).take k) ((ji x kk k).drop (k+1)),isF true FqOut (.slice aqOut (((x[k]!).qU).length) cqOut) (mrk ((x[k]!).qU) (r+1)),sF true FqIn aqIn cqIn ((x[k]!).fIn)]:=H
  refine sp (yI (r+1+(cnt ((x[k]!).qU):Nat))) (zjn (xJ (sps [.slice (aa b4 o5) x.length cx,yI k] (oI rfl rfl (oF rfl (oL rfl (H.holeCell _ 2 hx rfl) (sp (yI (r+1+(cnt ((x[k]!).qU):Nat))) (sw (o_callM #[.slice aqIn (((x[k]!).fIn).length) cqIn,yI (r+1+(cnt ((x[k]!).qU):Nat))] rfl rfl call25 (Qx w9 ((x[k]!).fIn) (r+1+(cnt ((x[k]!).qU):Nat)) aqIn cqIn FqIn (H.get 2 rfl).1 (QK N 2 rfl) ((H.get 2 rfl).2 rfl) (by (have:=hc qg;have e:=yF (x[k]!);omega)) (by (have:=hc qg;have e:=yF (x[k]!);omega))) ?_)))))))))
  rintro _ w14 ⟨rfl,m18⟩ x16
  obtain ⟨W15,C17,H⟩:=H.chgAt N 2 rfl (isF true FqIn (.slice aqIn (((x[k]!).fIn).length) cqIn) (mrk ((x[k]!).fIn) (r+1+(cnt ((x[k]!).qU):Nat)))) rfl x16 m18
  replace C:=C.trans (C17.mono (by intro z hz;have hz:z∈FqIn:=hz;simp [hz]))
  replace H:St _ _ _ [holeF b4 o5 xs1 [yI r,.slice aqOut (((x[k]!).qU).length) cqOut,.slice aqIn (((x[k]!).fIn).length) cqIn] xs2 G1 G2 ((ji x kk k).take k) ((ji x kk k).drop (k+1)),isF true FqOut (.slice aqOut (((x[k]!).qU).length) cqOut) (mrk ((x[k]!).qU) (r+1)),isF true FqIn (.slice aqIn (((x[k]!).fIn).length) cqIn) (mrk ((x[k]!).fIn) (r+1+(cnt ((x[k]!).qU):Nat)))]:=H
  refine sp (yI (r+1+(cnt ((x[k]!).qU):Nat)+(cnt ((x[k]!).fIn):Nat))) (xN (b_n (t_n (xJ (sp (yI k) (sw (xX k 1 rfl rfl (by (have:=hc qg;have e:=yF (x[k]!);omega)) (sp (yI (k+1)) (xN ?_)))))))))
  replace H:=H.closeAt (y:=mrk (x[k]!) r) (m:=x.length) (c:=cx) ⟨_,_,_,_,rfl,rfl,(H.get 1 rfl).1,(H.get 2 rfl).1⟩ (((H.get 1 rfl).2 rfl).app ((H.get 2 rfl).2 rfl)) (all_app (H.ltOwn 1 rfl) (H.ltOwn 2 rfl)) (ji x kk (k+1)) (by subst i1;exact markTo_step _ _ qg) (vS _ _ qg) (by rw [vS _ _ qg];exact nhx)
  refine xg (m' :=x.length - (k+1)) qg ⟨_,k+1,r+1+(cnt ((x[k]!).qU):Nat)+(cnt ((x[k]!).fIn):Nat),W15,uE4,?_,?_,?_,rfl,H⟩
  · omega
  · rw [Qi];have e:=yF (x[k]!);omega
  · exact C
 refine zx4 (zcr (sps [yI r,yI r] (zjr ?_)))
 obtain rfl:k=x.length:=by omega
 refine ret1 (yI r) rfl rfl ⟨_,rfl,⟨?_,H.get 0 rfl⟩,C.trans (Chg.ofExt H.base)⟩
 first | rfl | (refine congrArg (Value.int .i64) ?_;rw [cnt_list];omega)

theorem markPassing_ok (w:World) (x:qW) (kk:Int) (zV:yOA) (zU:Nat) (jr:yLN) (axFree:yOA) (cxFree:Nat) (FxFree:yLN) (jg:yOA) (je:Nat) (yZ:yLN) (jU:qV.rep w jr [.slice zV x.qC.length zU] x.qC) (hxFree:qV.rep w FxFree [.slice axFree x.qL.length cxFree] x.qL) (QC:qV.rep w yZ [.slice jg x.qB.length je] x.qB) (nd:(jr++FxFree++yZ).Nodup) (fr:zx w (jr++FxFree++yZ)) (p0:0≤kk) (p1:kk+(cnt x.qC:Nat)+(cnt x.qL:Nat)+(cnt x.qB:Nat)≤4611686018427387904):Calls Tryz.prog 16 #[.agg #[yI x.qJ,.slice zV x.qC.length zU,.slice axFree x.qL.length cxFree,.slice jg x.qB.length je],yI kk] w (RetM (fun v w' =>v=yI (kk+(cnt x.qC:Nat)+(cnt x.qL:Nat)+(cnt x.qB:Nat))∧(isF true jr (.slice zV x.qC.length zU) (mrk x.qC kk)).φ w' ∧(isF true FxFree (.slice axFree x.qL.length cxFree) (mrk x.qL (kk+(cnt x.qC:Nat)))).φ w' ∧(isF true yZ (.slice jg x.qB.length je) (mrk x.qB (kk+(cnt x.qC:Nat)+(cnt x.qL:Nat)))).φ w') (jr++FxFree++yZ) w):=by
 refine en func16 ntmps16 ?_
 have H:=St.start w
 replace H:=H.add (sF true yZ jg je x.qB) ⟨QC,fun _=>fr.sub (by intro z hz;simp [hz])⟩ (start_lt QC)
 replace H:=H.add (sF true FxFree axFree cxFree x.qL) ⟨hxFree,fun _=>fr.sub (by intro z hz;simp [hz])⟩ (start_lt hxFree)
 replace H:=H.add (sF true jr zV zU x.qC) ⟨jU,fun _=>fr.sub (by intro z hz;simp [hz])⟩ (start_lt jU)
 have nhxParents:=qO jU
 have nhxFree:=qO hxFree
 have nhxRules:=qO QC
 clear jU hxFree QC
 have C:Chg (jr++FxFree++yZ) w w:=Chg.refl _ _
 have N:([jr,FxFree,yZ]:List yLN).flatten.Nodup:=by simpa using nd
 refine zcr (sw (o_box H (.agg #[yI x.qJ,.slice zV x.qC.length zU,.slice axFree x.qL.length cxFree,.slice jg x.qB.length je]) rfl fun b1 w2 H=>?_))
 replace H:St _ _ [.box b1 [yI x.qJ,.slice zV x.qC.length zU,.slice axFree x.qL.length cxFree,.slice jg x.qB.length je] 37] _:=H
 refine sp (yI 0) (zjc (oF rfl (oL rfl (H.cell 0 rfl rfl) (sp (yI kk) (sw (o_callM #[.slice zV x.qC.length zU,yI kk] rfl rfl call25 (Qx w2 x.qC kk zV zU jr (H.get 0 rfl).1 (QK N 0 rfl) ((H.get 0 rfl).2 rfl) qg qg) ?_))))))
 rintro _ w3 ⟨rfl,m7⟩ x5
 obtain ⟨W4,C6,H⟩:=H.chgAt N 0 rfl (isF true jr (.slice zV x.qC.length zU) (mrk x.qC kk)) rfl x5 m7
 replace C:=C.trans (C6.mono (by intro z hz;have hz:z∈jr:=hz;simp [hz]))
 replace H:St _ _ _ [isF true jr (.slice zV x.qC.length zU) (mrk x.qC kk),sF true FxFree axFree cxFree x.qL,sF true yZ jg je x.qB]:=H
 refine sp (yI (kk+(cnt x.qC:Nat))) (zjc (oF rfl (oL rfl (H.cell 0 rfl rfl) (sp (yI (kk+(cnt x.qC:Nat))) (sw (o_callM #[.slice axFree x.qL.length cxFree,yI (kk+(cnt x.qC:Nat))] rfl rfl call48 (markBoolS_ok w3 x.qL (kk+(cnt x.qC:Nat)) axFree cxFree FxFree (H.get 1 rfl).1 (QK N 1 rfl) ((H.get 1 rfl).2 rfl) qg qg) ?_))))))
 rintro _ w8 ⟨rfl,m12⟩ x10
 obtain ⟨W9,C11,H⟩:=H.chgAt N 1 rfl (isF true FxFree (.slice axFree x.qL.length cxFree) (mrk x.qL (kk+(cnt x.qC:Nat)))) rfl x10 m12
 replace C:=C.trans (C11.mono (by intro z hz;have hz:z∈FxFree:=hz;simp [hz]))
 replace H:St _ _ _ [isF true jr (.slice zV x.qC.length zU) (mrk x.qC kk),isF true FxFree (.slice axFree x.qL.length cxFree) (mrk x.qL (kk+(cnt x.qC:Nat))),sF true yZ jg je x.qB]:=H
 refine sp (yI (kk+(cnt x.qC:Nat)+(cnt x.qL:Nat))) (zjc (oF rfl (oL rfl (H.cell 0 rfl rfl) (sp (yI (kk+(cnt x.qC:Nat)+(cnt x.qL:Nat))) (sw (o_callM #[.slice jg x.qB.length je,yI (kk+(cnt x.qC:Nat)+(cnt x.qL:Nat))] rfl rfl call49 (markPassRuleS_ok w8 x.qB (kk+(cnt x.qC:Nat)+(cnt x.qL:Nat)) jg je yZ (H.get 2 rfl).1 (QK N 2 rfl) ((H.get 2 rfl).2 rfl) qg qg) ?_))))))
 rintro _ w13 ⟨rfl,m17⟩ x15
 obtain ⟨W14,C16,H⟩:=H.chgAt N 2 rfl (isF true yZ (.slice jg x.qB.length je) (mrk x.qB (kk+(cnt x.qC:Nat)+(cnt x.qL:Nat)))) rfl x15 m17
 replace C:=C.trans (C16.mono (by intro z hz;have hz:z∈yZ:=hz;simp [hz]))
 replace H:St _ _ _ [isF true jr (.slice zV x.qC.length zU) (mrk x.qC kk),isF true FxFree (.slice axFree x.qL.length cxFree) (mrk x.qL (kk+(cnt x.qC:Nat))),isF true yZ (.slice jg x.qB.length je) (mrk x.qB (kk+(cnt x.qC:Nat)+(cnt x.qL:Nat)))]:=H
 refine sp (yI (kk+(cnt x.qC:Nat)+(cnt x.qL:Nat)+(cnt x.qB:Nat))) (zjc (sps [yI (kk+(cnt x.qC:Nat)+(cnt x.qL:Nat)+(cnt x.qB:Nat)),yI (kk+(cnt x.qC:Nat)+(cnt x.qL:Nat)+(cnt x.qB:Nat))] (zjr ?_)))
 simp_all
 refine ret1 (yI (kk+(cnt x.qC:Nat)+(cnt x.qL:Nat)+(cnt x.qB:Nat))) rfl rfl ⟨_,rfl,⟨?_,H.get 0 rfl,H.get 1 rfl,H.get 2 rfl⟩,C.trans (Chg.ofExt H.base)⟩
 first | rfl | (refine congrArg (Value.int .i64) ?_;rw [cnt_list];omega)

theorem markStock_ok (w:World) (x:qZ) (kk:Int) (axCells:yOA) (cxCells:Nat) (FxCells:yLN) (vJ:yOA) (vI:Nat) (yf:yLN) (hxCells:qV.rep w FxCells [.slice axCells x.qG.length cxCells] x.qG) (yS:qV.rep w yf [.slice vJ x.qF.length vI] x.qF) (nd:(FxCells++yf).Nodup) (fr:zx w (FxCells++yf)) (p0:0≤kk) (p1:kk+(cnt x.qG:Nat)+(cnt x.qF:Nat)≤4611686018427387904):Calls Tryz.prog 17 #[.agg #[.slice axCells x.qG.length cxCells,.slice vJ x.qF.length vI],yI kk] w (RetM (fun v w' =>v=yI (kk+(cnt x.qG:Nat)+(cnt x.qF:Nat))∧(isF true FxCells (.slice axCells x.qG.length cxCells) (mrk x.qG kk)).φ w' ∧(isF true yf (.slice vJ x.qF.length vI) (mrk x.qF (kk+(cnt x.qG:Nat)))).φ w') (FxCells++yf) w):=by
 refine en func17 ntmps17 ?_
 have H:=St.start w
 replace H:=H.add (sF true yf vJ vI x.qF) ⟨yS,fun _=>fr.sub (by intro z hz;simp [hz])⟩ (start_lt yS)
 replace H:=H.add (sF true FxCells axCells cxCells x.qG) ⟨hxCells,fun _=>fr.sub (by intro z hz;simp [hz])⟩ (start_lt hxCells)
 have nhxCells:=qO hxCells
 have nhxAround:=qO yS
 clear hxCells yS
 have C:Chg (FxCells++yf) w w:=Chg.refl _ _
 have N:([FxCells,yf]:List yLN).flatten.Nodup:=by simpa using nd
 refine zcr (sw (o_box H (.agg #[.slice axCells x.qG.length cxCells,.slice vJ x.qF.length vI]) rfl fun b1 w2 H=>?_))
 replace H:St _ _ [.box b1 [.slice axCells x.qG.length cxCells,.slice vJ x.qF.length vI] 39] _:=H
 refine sp (yI 0) (zjc (oF rfl (oL rfl (H.cell 0 rfl rfl) (sp (yI kk) (sw (o_callM #[.slice axCells x.qG.length cxCells,yI kk] rfl rfl call19 (markInt64SS_ok w2 x.qG kk axCells cxCells FxCells (H.get 0 rfl).1 (QK N 0 rfl) ((H.get 0 rfl).2 rfl) qg qg) ?_))))))
 rintro _ w3 ⟨rfl,m7⟩ x5
 obtain ⟨W4,C6,H⟩:=H.chgAt N 0 rfl (isF true FxCells (.slice axCells x.qG.length cxCells) (mrk x.qG kk)) rfl x5 m7
 replace C:=C.trans (C6.mono (by intro z hz;have hz:z∈FxCells:=hz;simp [hz]))
 replace H:St _ _ _ [isF true FxCells (.slice axCells x.qG.length cxCells) (mrk x.qG kk),sF true yf vJ vI x.qF]:=H
 refine sp (yI (kk+(cnt x.qG:Nat))) (zjc (oF rfl (oL rfl (H.cell 0 rfl rfl) (sp (yI (kk+(cnt x.qG:Nat))) (sw (o_callM #[.slice vJ x.qF.length vI,yI (kk+(cnt x.qG:Nat))] rfl rfl call25 (Qx w3 x.qF (kk+(cnt x.qG:Nat)) vJ vI yf (H.get 1 rfl).1 (QK N 1 rfl) ((H.get 1 rfl).2 rfl) qg qg) ?_))))))
 rintro _ w8 ⟨rfl,m12⟩ x10
 obtain ⟨W9,C11,H⟩:=H.chgAt N 1 rfl (isF true yf (.slice vJ x.qF.length vI) (mrk x.qF (kk+(cnt x.qG:Nat)))) rfl x10 m12
 replace C:=C.trans (C11.mono (by intro z hz;have hz:z∈yf:=hz;simp [hz]))
 replace H:St _ _ _ [isF true FxCells (.slice axCells x.qG.length cxCells) (mrk x.qG kk),isF true yf (.slice vJ x.qF.length vI) (mrk x.qF (kk+(cnt x.qG:Nat)))]:=H
 refine sp (yI (kk+(cnt x.qG:Nat)+(cnt x.qF:Nat))) (zjc (sps [yI (kk+(cnt x.qG:Nat)+(cnt x.qF:Nat)),yI (kk+(cnt x.qG:Nat)+(cnt x.qF:Nat))] (zjr ?_)))
 simp_all
 refine ret1 (yI (kk+(cnt x.qG:Nat)+(cnt x.qF:Nat))) rfl rfl ⟨_,rfl,⟨?_,H.get 0 rfl,H.get 1 rfl⟩,C.trans (Chg.ofExt H.base)⟩
 first | rfl | (refine congrArg (Value.int .i64) ?_;rw [cnt_list];omega)

theorem heldInt64S_ok (w:World) (x:yLI) (kk:Int) {ax:yOA} {cx:Nat} {Fx:yLN} (hx:qV.rep w Fx [.slice ax x.length cx] x) (m:mkd x kk) (p0:0≤kk) (p1:kk+(cnt x:Nat)≤4611686018427387904):Calls Tryz.prog 26 #[.slice ax x.length cx,yI kk] w (Ret (fun v w' =>v=yI (kk+(cnt x:Nat))) w):=by
 refine en func26 ntmps26 ?_
 have H:=(St.start w).arg hx
 have nhx:=qO hx
 clear hx
 refine zcr (sp (yI 0) (zjcc (sp (yI 0) (zjn (xm ?_)))))
 refine zK (fun m' ρ w1=>∃ (zu:Env) (k:Nat) (r:Int),ρ=upd (upd (upd zu 0 (.slice ax x.length cx)) 1 (yI r)) 5 (yI k)∧(k≤x.length)∧(r=kk+(cntTo x k:Nat))∧m' =x.length - k∧St w w1 [] [sF false Fx ax cx x]) (x.length - 0) ⟨_,0,kk,uE3,qg,(by exact (Int.add_zero _).symm),rfl,H⟩ ?_
 clear H
 rintro m' ρ w2 ⟨zu,k,r,rfl,i0,i1,rfl,H⟩
 have hc:=fun h=>cnt_get (l:=x) (k:=k) h
 refine zcc (sps [yI k,.slice ax x.length cx] (oN rfl (sp (.bool (decide ((k:Int) < x.length))) (zjn (cD rfl (fun h3=>?_) (fun h3=>?_))))))
 ·skip
  have m0:=m k qg
  rw [← i1] at m0
  replace m0:x[k]! =r:=m0
  refine xf (t_n (xP (xm (zcc (sps [.slice ax x.length cx,yI k] ?_)))))
  obtain ⟨b4,o5,rfl⟩:=H.addr 0 rfl qg
  refine oI rfl rfl (oL rfl (H.vY 0 rfl k qg qg) (sps [yI r,.bool ((x[k]! :Int) != r)] (zjn (xC ((x[k]! :Int) != r) rfl (fun h6=>?_) (fun h6=>?_)))))
  ·skip
   replace h6:=bne_iff_ne.1 h6
   refine zcr (sp (yI (-1)) (zjr (t_r (zr5 (ret1 (yI (-1)) rfl rfl ⟨_,rfl,?_,H.base⟩)))))
   exfalso;first | omega | (exact absurd ‹_› ‹¬ _›) | simp_all
  replace h6:=xA h6
  refine xf (t_n (xJ (sp (yI r) (sw (xX r 1 rfl rfl (by (have:=hc qg;have e:cnt (x[k]!)=1:=rfl;omega)) (sp (yI (r+1)) (xN (b_n (t_n (xJ (sp (yI k) (sw (xX k 1 rfl rfl (by (have:=hc qg;have e:cnt (x[k]!)=1:=rfl;omega)) (sp (yI (k+1)) (xN (xg (m' :=x.length - (k+1)) qg ⟨_,k+1,r+1,uE3,?_,?_,rfl,H⟩))))))))))))))))
  · omega
  · rw [Qi];have e:cnt (x[k]!)=1:=rfl;omega
 refine zx4 (zcr (sps [yI r,yI r] (zjr (ret1 (yI r) rfl rfl ⟨_,rfl,?_,H.base⟩))))
 first | rfl | (refine congrArg (Value.int .i64) ?_;obtain rfl:k=x.length:=qg;exact i1)
end
section

theorem pdrop {l:yLI} {k:Nat} (h:k+1 < l.length):(l.drop 1)[k]! =l[k+1]! :=by
  rw [getElem!_pos (l.drop 1) k (by rw [List.length_drop];omega),getElem!_pos l (k+1) h]
  simp [Nat.add_comm]
def PFrameTo (p:qW) (k:Nat):Prop:=∀ c,1≤c→c < k→0≤p.qC[c]! ∧p.qC[c]! ≤(c:Int) - 1
theorem PFrameTo.one (p:qW):PFrameTo p 1:=fun c h1 h2=>by omega
theorem PFrameTo.succ {p:qW} {k:Nat} (h:PFrameTo p k) (h1:0≤p.qC[k]! ∧p.qC[k]! ≤(k:Int) - 1):PFrameTo p (k+1):=fun c hc hk=>by
  by_cases e:c=k
  · subst e;exact h1
  · exact h c hc qg
def PFrame (p:qW):Prop:=(1≤p.qJ∧p.qJ≤8)∧(1≤p.qC.length∧p.qC.length≤4)∧(p.qL.length:Int)=p.qJ∧p.qB.length≤8∧p.qC[0]! = -1∧PFrameTo p p.qC.length
def NoBoundTo (p:qW) (b:yLI) (k:Nat):Prop:=∀ j,j < k→¬ (b[j]! > 0∧p.qL[j]! =false)
theorem NoBoundTo.succ {p:qW} {b:yLI} {k:Nat} (h:NoBoundTo p b k) (h1:¬ (b[k]! > 0∧p.qL[k]! =false)):NoBoundTo p b (k+1):=fun j hj=>by
  by_cases e:j=k
  · subst e;exact h1
  · exact h j qg
def Bound (p:qW) (b:yLI):Prop:=¬ NoBoundTo p b b.length
theorem Bound.at {p:qW} {b:yLI} {k:Nat} (hk:k < b.length) (h1:b[k]! > 0) (h2:p.qL[k]! =false):Bound p b:=fun h=>h k hk ⟨h1,h2⟩
def yQ (p:qW) (r:xM):Prop:=
  (0≤r.qE∧r.qE≤(p.qC.length:Int) - 1)∧jI p.qJ r.qU∧jI p.qJ r.fIn∧yM r.qU+yM r.fIn≠0∧(0 < r.qE∨0 < yM r.qU∨Bound p r.fIn)
def PRulesTo (p:qW) (k:Nat):Prop:=∀ j,j < k→yQ p (p.qB[j]!)
theorem PRulesTo.succ {p:qW} {k:Nat} (h:PRulesTo p k) (h1:yQ p (p.qB[k]!)):PRulesTo p (k+1):=fun j hj=>by
  by_cases e:j=k
  · subst e;exact h1
  · exact h j qg
def zi (p:qW):Prop:=PFrame p∧PRulesTo p p.qB.length
def NoFreeTo (p:qW) (b:yLI) (k:Nat):Prop:=∀ j,j < k→¬ (p.qL[j]! =true∧b[j]! > 0)
theorem NoFreeTo.succ {p:qW} {b:yLI} {k:Nat} (h:NoFreeTo p b k) (h1:¬ (p.qL[k]! =true∧b[k]! > 0)):NoFreeTo p b (k+1):=fun j hj=>by
  by_cases e:j=k
  · subst e;exact h1
  · exact h j qg
def PBagsTo (p:qW) (s:qZ) (k:Nat):Prop:=∀ c,c < k→jI p.qJ (s.qG[c]!)
theorem PBagsTo.succ {p:qW} {s:qZ} {k:Nat} (h:PBagsTo p s k) (h1:jI p.qJ (s.qG[k]!)):PBagsTo p s (k+1):=fun j hj=>by
  by_cases e:j=k
  · subst e;exact h1
  · exact h j qg
def xG (p:qW) (s:qZ):Prop:=
  s.qG.length=p.qC.length∧jI p.qJ s.qF∧PBagsTo p s s.qG.length∧NoFreeTo p s.qF s.qF.length
open Classical in
noncomputable def Qr (p:qW) (s:qZ):Int:=if zi p then (if xG p s then 0 else 2) else 1
def ModeOk (m:Int):Prop:=1≤m∧m≤3
open Classical in
noncomputable def jc (p:qW) (s:qZ) (m:Int):Int:=if zi p∧xG p s∧¬ ModeOk m then 2 else Qr p s
theorem pcode_1 {p:qW} {s:qZ} (h:¬ zi p):Qr p s=1:=by unfold Qr;rw [if_neg h]
theorem pcode_2 {p:qW} {s:qZ} (h:zi p) (h2:¬ xG p s):Qr p s=2:=by unfold Qr;rw [if_pos h,if_neg h2]
theorem pcode_0 {p:qW} {s:qZ} (h:zi p) (h2:xG p s):Qr p s=0:=by unfold Qr;rw [if_pos h,if_pos h2]
theorem pcode_ok {p:qW} {s:qZ} (h:Qr p s=0):zi p∧xG p s:=by
  unfold Qr at h
  split at h
  · split at h
    · exact ⟨by assumption,by assumption⟩
    · cases h
  · cases h
theorem mcode_no {p:qW} {s:qZ} {m:Int} (h:Qr p s≠0):jc p s m=Qr p s:=by
  unfold jc
  rw [if_neg fun h' =>h (pcode_0 h'.1 h'.2.1)]
theorem mcode_2 {p:qW} {s:qZ} {m:Int} (h:Qr p s=0) (hm:¬ ModeOk m):jc p s m=2:=by
  unfold jc
  rw [if_pos ⟨(pcode_ok h).1,(pcode_ok h).2,hm⟩]
theorem mcode_0 {p:qW} {s:qZ} {m:Int} (h:Qr p s=0) (hm:ModeOk m):jc p s m=0:=by
  unfold jc
  rw [if_neg fun h' =>h'.2.2 hm,h]
theorem mcode_ok {p:qW} {s:qZ} {m:Int} (h:jc p s m=0):zi p∧xG p s∧ModeOk m:=by
  unfold jc at h
  split at h
  · cases h
  · rename_i hn
    obtain ⟨h1,h2⟩:=pcode_ok h
    exact ⟨h1,h2,Classical.byContradiction fun hm=>hn ⟨h1,h2,hm⟩⟩
theorem psum {n:Int} {l:yLI} (h:jI n l):0≤yM l∧yM l≤8000:=by
  have key:∀ k,k≤l.length→0≤sumTo l k∧sumTo l k≤1000 * k:=by
    intro k
    induction k with
    | zero=>exact fun _=>⟨Int.le_refl _,Int.le_refl _⟩
    | succ k ih=>
      intro hk
      have h1:=h.1.1 k qg
      have h2:=ih qg
      rw [sumTo];push_cast;omega
  have h1:=key l.length (Nat.le_refl _)
  have h2:=h.1.2.2
  unfold yM;omega
theorem pset {α:Type} [Inhabited α] (l:List α) (i j:Nat) (v:α) (hi:i < l.length):(l.set i v)[j]! =if i=j then v else l[j]! :=by
  by_cases h:i=j
  · subst h;simp [hi]
  · rw [if_neg h]
    simp only [List.getElem!_eq_getElem?_getD,List.getElem?_set_ne h]
def pK (p:qW):Nat:=p.qJ.toNat
def pUp (p:qW) (c:Int):Nat:=if p.qC[c.toNat]! < 0 then p.qC.length else (p.qC[c.toNat]!).toNat
abbrev Opens (p:qW) (c:Int) (k:Nat):Prop:=0 < c∨p.qL[k]! =false
def jT (s:qZ):yLI:=s.qG.flatten++s.qF

def seg (o:Nat→Prop) [DecidablePred o] (x:yLI) (u k j:Nat):Int:=if (u≤j∧j < u+k)∧o (j - u) then x[j - u]! else 0
theorem seg_zero (o:Nat→Prop) [DecidablePred o] (x:yLI) (u j:Nat):seg o x u 0 j=0:=if_neg qg
theorem seg_succ (o:Nat→Prop) [DecidablePred o] (x:yLI) (u k j:Nat):seg o x u (k+1) j=if j=u+k then (if o k then x[k]! else 0) else seg o x u k j:=by
  unfold seg
  by_cases e:j=u+k
  · subst e
    rw [if_pos rfl,show u+k - u=k by omega]
    by_cases ho:o k
    · rw [if_pos ⟨by omega,ho⟩,if_pos ho]
    · rw [if_neg (fun h=>ho h.2),if_neg ho]
  · rw [if_neg e]
    by_cases h:(u≤j∧j < u+k)∧o (j - u)
    · rw [if_pos h,if_pos ⟨by omega,h.2⟩]
    · rw [if_neg h,if_neg (fun h' =>h ⟨by omega,h'.2⟩)]
theorem yU (o:Nat→Prop) [DecidablePred o] (x:yLI) (u k j:Nat) (h:¬ (u≤j∧j < u+k)):seg o x u k j=0:=if_neg (fun h' =>h h'.1)
abbrev Every:Nat→Prop:=fun _=>True
section
variable (u v : Nat) (o : Nat → Prop) [DecidablePred o] (a b : yLI) (t : Int)
def mvStep (f:yLI) (k:Nat):yLI:=
  if o k then (f.set (u+k) (f[u+k]! +a[k]! * t)).set (v+k) ((f.set (u+k) (f[u+k]! +a[k]! * t))[v+k]! +b[k]! * t) else f.set (u+k) (f[u+k]! +a[k]! * t)
def mvTo (f:yLI):Nat→yLI
  | 0=>f
  | k+1=>mvStep u v o a b t (mvTo f k) k
def mvJ (k j:Nat):Int:=seg Every a u k j+seg o b v k j
theorem mvTo_len (f:yLI):∀ k,(mvTo u v o a b t f k).length=f.length
  | 0=>rfl
  | k+1=>by
    rw [mvTo,mvStep]
    split <;> simp [mvTo_len f k]
theorem mvTo_get {f:yLI} {K:Nat} (h1:u+K≤f.length) (h2:v+K≤f.length) (h3:u+K≤v∨v+K≤u) (j:Nat):
    ∀ k,k≤K→(mvTo u v o a b t f k)[j]! =f[j]! +mvJ u v o a b k j * t
  | 0,_=>by
    rw [mvTo,mvJ,seg_zero,seg_zero];simp
  | k+1,hk=>by
    have ih:=fun j=>mvTo_get h1 h2 h3 j k qg
    have hl:=mvTo_len u v o a b t f k
    rw [mvTo,mvStep]
    generalize hf:mvTo u v o a b t f k=g at ih hl
    have e0:g[u+k]! =f[u+k]! :=by
      rw [ih,mvJ,yU _ _ _ _ _ qg,yU _ _ _ _ _ qg];simp
    have e1:g[v+k]! =f[v+k]! :=by
      rw [ih,mvJ,yU _ _ _ _ _ qg,yU _ _ _ _ _ qg];simp
    unfold mvJ at ih ⊢
    rw [seg_succ,seg_succ,if_pos trivial]
    by_cases ho:o k
    · rw [if_pos ho,if_pos ho,pset _ _ _ _ qA,pset _ _ _ _ qg,pset _ _ _ _ qg,if_neg (by omega:¬ u+k=v+k)]
      by_cases c1:v+k=j
      · subst c1
        rw [if_pos rfl,if_neg qg,if_pos rfl,yU _ _ _ _ _ qg,e1];simp
      · rw [if_neg c1,if_neg (Ne.symm c1)]
        by_cases c2:u+k=j
        · subst c2
          rw [if_pos rfl,if_pos rfl,yU _ _ _ _ _ qg,e0];simp
        · rw [if_neg c2,if_neg (Ne.symm c2),ih]
    · rw [if_neg ho,if_neg ho,pset _ _ _ _ qg]
      by_cases c2:u+k=j
      · subst c2
        rw [if_pos rfl,if_pos rfl,if_neg qg,yU _ _ _ _ _ qg,e0];simp
      · rw [if_neg c2,if_neg (Ne.symm c2)]
        by_cases c1:j=v+k
        · subst c1
          rw [if_pos rfl,e1,yU _ _ _ _ _ qg];simp
        · rw [if_neg c1,ih]
def tkStep (f:yLI) (k:Nat):yLI:=
  if o k then (f.set (u+k) (f[u+k]! - a[k]! * t)).set (v+k) ((f.set (u+k) (f[u+k]! - a[k]! * t))[v+k]! - b[k]! * t) else f.set (u+k) (f[u+k]! - a[k]! * t)
def xH (f:yLI):Nat→yLI
  | 0=>f
  | k+1=>tkStep u v o a b t (xH f k) k
theorem tkStep_eq (f:yLI) (k:Nat):tkStep u v o a b t f k=mvStep u v o a b (-t) f k:=by
  unfold tkStep mvStep
  simp only [Int.mul_neg,← Int.sub_eq_add_neg]
theorem tkTo_eq (f:yLI):∀ k,xH u v o a b t f k=mvTo u v o a b (-t) f k
  | 0=>rfl
  | k+1=>by rw [xH,mvTo,tkStep_eq,tkTo_eq f k]
theorem tkTo_len (f:yLI) (k:Nat):(xH u v o a b t f k).length=f.length:=by rw [tkTo_eq,mvTo_len]
theorem tkTo_get {f:yLI} {K:Nat} (h1:u+K≤f.length) (h2:v+K≤f.length) (h3:u+K≤v∨v+K≤u) (j k:Nat) (hk:k≤K):
    (xH u v o a b t f k)[j]! =f[j]! - mvJ u v o a b k j * t:=by
  rw [tkTo_eq,mvTo_get u v o a b (-t) h1 h2 h3 j k hk,Int.mul_neg,Int.sub_eq_add_neg]
def TkOk (f:yLI) (k:Nat):Prop:=∀ j,j < k→0≤f[u+j]! - a[j]! * t∧(o j→0≤f[v+j]! - b[j]! * t)
theorem TkOk.zero (f:yLI):TkOk u v o a b t f 0:=fun j hj=>by omega
variable {u v o a b t}
omit [DecidablePred o] in
theorem TkOk.succ {f:yLI} {k:Nat}:TkOk u v o a b t f (k+1)↔TkOk u v o a b t f k∧0≤f[u+k]! - a[k]! * t∧(o k→0≤f[v+k]! - b[k]! * t):=by
  constructor
  · exact fun h=>⟨fun j hj=>h j qg,h k qg⟩
  · rintro ⟨h,h1⟩ j hj
    by_cases e:j=k
    · subst e;exact h1
    · exact h j qg
theorem tk_old {f:yLI} {K k:Nat} (h1:u+K≤f.length) (h2:v+K≤f.length) (h3:u+K≤v∨v+K≤u) (hk:k < K):
    (xH u v o a b t f k)[u+k]! =f[u+k]! ∧(xH u v o a b t f k)[v+k]! =f[v+k]! :=by
  rw [tkTo_get u v o a b t h1 h2 h3 _ k qg,tkTo_get u v o a b t h1 h2 h3 _ k qg,mvJ,mvJ]
  rw [yU _ _ _ _ _ qg,yU _ _ _ _ _ qg,yU _ _ _ _ _ qg,yU _ _ _ _ _ qg]
  simp
theorem tkOk_iff {f:yLI} {K:Nat} (h1:u+K≤f.length) (h2:v+K≤f.length) (h3:u+K≤v∨v+K≤u) (hf:∀ j,j < f.length→0≤f[j]!):
    TkOk u v o a b t f K↔∀ j,j < f.length→0≤(xH u v o a b t f K)[j]! :=by
  constructor
  · intro h j hj
    rw [tkTo_get u v o a b t h1 h2 h3 j K qg,mvJ]
    by_cases c1:u≤j∧j < u+K
    · have:=(h (j - u) qg).1
      rw [show u+(j - u)=j by omega] at this
      rw [yU o b v K j qg,seg,if_pos ⟨c1,trivial⟩]
      simpa using this
    · rw [yU Every a u K j c1]
      by_cases c2:(v≤j∧j < v+K)∧o (j - v)
      · have:=(h (j - v) qg).2 c2.2
        rw [show v+(j - v)=j by omega] at this
        rw [seg,if_pos c2]
        simpa using this
      · rw [seg,if_neg c2]
        simpa using hf j hj
  · intro h j hj
    have e1:=h (u+j) qg
    have e2:=h (v+j) qg
    rw [tkTo_get u v o a b t h1 h2 h3 _ K qg,mvJ] at e1 e2
    rw [yU o b v K (u+j) qg,seg,if_pos ⟨⟨by omega,by omega⟩,trivial⟩,show u+j - u=j by omega] at e1
    rw [yU Every a u K (v+j) qg,seg] at e2
    refine ⟨by simpa using e1,fun ho=>?_⟩
    rw [if_pos ⟨⟨by omega,by omega⟩,by rw [show v+j - v=j by omega];exact ho⟩,show v+j - v=j by omega] at e2
    simpa using e2
end
theorem pext {α:Type} [Inhabited α] {l m:List α} (h:l.length=m.length) (hg:∀ j,j < l.length→l[j]! =m[j]!):l=m:=by
  refine List.ext_getElem h fun j h1 h2=>?_
  have:=hg j h1
  rwa [getElem!_pos l j h1,getElem!_pos m j h2] at this
def sigma (f:Nat→Int):Nat→Int
  | 0=>0
  | n+1=>sigma f n+f n
theorem sigma_congr {f g:Nat→Int}:∀ {n:Nat},(∀ m,m < n→f m=g m)→sigma f n=sigma g n
  | 0,_=>rfl
  | n+1,h=>by rw [sigma,sigma,sigma_congr fun m hm=>h m qg,h n qg]
theorem sigma_nonneg {f:Nat→Int}:∀ {n:Nat},(∀ m,m < n→0≤f m)→0≤sigma f n
  | 0,_=>Int.le_refl _
  | n+1,h=>by have:=sigma_nonneg (n:=n) fun m hm=>h m qg;have:=h n qg;rw [sigma];omega
theorem sigma_ge {f:Nat→Int} {n i:Nat} (h:∀ m,m < n→0≤f m) (hi:i < n):f i≤sigma f n:=by
  induction n with
  | zero=>omega
  | succ n ih=>
    rw [sigma]
    by_cases e:i=n
    · subst e;have:=sigma_nonneg (n:=i) fun m hm=>h m qg;omega
    · have:=ih (fun m hm=>h m qg) qg;have:=h n qg;omega
theorem sigma_le {f:Nat→Int} {B:Int}:∀ {n:Nat},(∀ m,m < n→f m≤B)→sigma f n≤n * B
  | 0,_=>by simp [sigma]
  | n+1,h=>by
    have h1:=sigma_le (n:=n) fun m hm=>h m qg
    have h2:=h n qg
    rw [sigma];push_cast;rw [Int.add_mul];omega
theorem sigma_add (f g:Nat→Int):∀ n,sigma (fun m=>f m+g m) n=sigma f n+sigma g n
  | 0=>rfl
  | n+1=>by rw [sigma,sigma,sigma,sigma_add f g n];omega

section
variable (p : qW)
abbrev pOwn (r:xM):Nat:=r.qE.toNat * pK p
abbrev pHigh (r:xM):Nat:=pUp p r.qE * pK p
def need (r:xM) (j:Nat):Int:=mvJ (pOwn p r) (pHigh p r) (Opens p r.qE) r.qU r.fIn (pK p) j
def gain (r:xM) (j:Nat):Int:=mvJ (pOwn p r) (pHigh p r) (Opens p r.qE) r.fIn r.qU (pK p) j
abbrev tkL (r:xM) (t:Int) (f:yLI):yLI:=xH (pOwn p r) (pHigh p r) (Opens p r.qE) r.qU r.fIn t f (pK p)
abbrev gvL (r:xM) (t:Int) (f:yLI):yLI:=mvTo (pOwn p r) (pHigh p r) (Opens p r.qE) r.fIn r.qU t f (pK p)
def xF (s:qZ) (cs:yLI):Nat→yLI
  | 0=>jT s
  | i+1=>tkL p (p.qB[i]!) (cs[i]!) (xF s cs i)
def lfN (s:qZ) (cs:yLI) (i j:Nat):Int:=(jT s)[j]! - sigma (fun m=>need p (p.qB[m]!) j * cs[m]!) i
def zh (f:yLI) (cs:yLI):Nat→yLI
  | 0=>f
  | i+1=>gvL p (p.qB[i]!) (cs[i]!) (zh f cs i)
end

variable {p : qW} {s : qZ} {cs : yLI}
structure Geo (p:qW) (r:xM):Prop where
  own:pOwn p r+pK p≤(p.qC.length+1) * pK p
  high:pHigh p r+pK p≤(p.qC.length+1) * pK p
  apart:pOwn p r+pK p≤pHigh p r∨pHigh p r+pK p≤pOwn p r
  up:pUp p r.qE≤p.qC.length
  ne:pUp p r.qE≠r.qE.toNat
  cell:r.qE.toNat < p.qC.length
theorem mul_step {a b K:Nat} (h:a < b):a * K+K≤b * K:=by
  have:=Nat.mul_le_mul_right K (show a+1≤b by omega)
  rwa [Nat.add_mul,Nat.one_mul] at this
theorem up_root (hp:PFrame p):pUp p 0=p.qC.length:=by
  unfold pUp
  rw [show (0:Int).toNat=0 from rfl,hp.2.2.2.2.1,if_pos qg]
theorem up_other (hp:PFrame p) {c:Int} (h0:0 < c) (h1:c≤(p.qC.length:Int) - 1):pUp p c=(p.qC[c.toNat]!).toNat∧0≤p.qC[c.toNat]! ∧p.qC[c.toNat]! < c:=by
  have:=hp.2.2.2.2.2 c.toNat qg qg
  unfold pUp
  rw [if_neg qg]
  exact ⟨rfl,by omega,by omega⟩
theorem geo (hp:PFrame p) {r:xM} (hr:yQ p r):Geo p r:=by
  have hc:=hr.1
  clear hr
  have hN:1≤p.qC.length:=hp.2.1.1
  have hup:pUp p r.qE≤p.qC.length∧pUp p r.qE≠r.qE.toNat:=by
    rcases Int.lt_or_eq_of_le hc.1 with h | h
    · obtain ⟨e,h2,h3⟩:=up_other hp h hc.2
      rw [e];exact ⟨by omega,by omega⟩
    · rw [← h,up_root hp];exact ⟨Nat.le_refl _,by show p.qC.length≠0;omega⟩
  exact ⟨mul_step qg,mul_step qg,by
    rcases Nat.lt_or_gt_of_ne hup.2 with h | h
    · exact .inr (mul_step h)
    · exact .inl (mul_step h),hup.1,hup.2,by omega⟩
theorem pK_eq (hp:PFrame p):(pK p:Int)=p.qJ:=by have:=hp.1.1;unfold pK;omega
theorem pK_le (hp:PFrame p):1≤pK p∧pK p≤8:=by have:=hp.1;unfold pK;omega
theorem jF (hp:PFrame p) {b:yLI} (h:jI p.qJ b):b.length=pK p:=by have:=pK_eq hp;have:=h.2;omega
theorem flatten_len {K:Nat}:∀ {l:yLL},(∀ c,c < l.length→(l[c]!).length=K)→l.flatten.length=l.length * K
  | [],_=>by simp
  | b :: l,h=>by
    have h0:=h 0 qo
    have:=flatten_len (l:=l) fun c hc=>by have:=h (c+1) qA;simpa using this
    simp only [List.flatten_cons,List.length_append,this,List.length_cons,Nat.add_mul,Nat.one_mul]
    simp at h0;omega
theorem flatten_get {K:Nat}:∀ {l:yLL},(∀ c,c < l.length→(l[c]!).length=K)→∀ (m:yLI) (c k:Nat),c < l.length→k < K→(l.flatten++m)[c * K+k]! =(l[c]!)[k]!
  | [],_,_,c,k,hc,_=>by simp at hc
  | b :: l,h,m,c,k,hc,hk=>by
    have h0:b.length=K:=by have:=h 0 qo;simpa using this
    rw [List.flatten_cons,List.append_assoc]
    cases c with
    | zero=>
      rw [Nat.zero_mul,Nat.zero_add]
      simp only [List.getElem!_eq_getElem?_getD]
      rw [List.getElem?_append_left qg]
      simp
    | succ c=>
      have ih:=flatten_get (l:=l) (fun c hc=>by have:=h (c+1) qA;simpa using this) m c k (by simpa using hc) hk
      simp only [List.getElem!_eq_getElem?_getD] at ih ⊢
      rw [List.getElem?_append_right (by rw [Nat.add_mul,Nat.one_mul];omega),show (c+1) * K+k - b.length=c * K+k by rw [Nat.add_mul,Nat.one_mul];omega,ih]
      simp
theorem yu (hp:PFrame p) (hs:xG p s):(jT s).length=(p.qC.length+1) * pK p:=by
  rw [jT,List.length_append,flatten_len (K:=pK p) fun c hc=>jF hp (hs.2.2.1 c hc),jF hp hs.2.1,hs.1,Nat.add_mul,Nat.one_mul]
theorem flat_cell (hp:PFrame p) (hs:xG p s) {c k:Nat} (hc:c < p.qC.length) (hk:k < pK p):(jT s)[c * pK p+k]! =(s.qG[c]!)[k]! :=
  flatten_get (fun c hc=>jF hp (hs.2.2.1 c hc)) _ c k (by rw [hs.1];exact hc) hk
theorem flat_around (hp:PFrame p) (hs:xG p s) {k:Nat}:(jT s)[p.qC.length * pK p+k]! =(s.qF)[k]! :=by
  have hl:s.qG.flatten.length=p.qC.length * pK p:=by rw [flatten_len (K:=pK p) fun c hc=>jF hp (hs.2.2.1 c hc),hs.1]
  rw [jT]
  simp only [List.getElem!_eq_getElem?_getD]
  rw [List.getElem?_append_right qg,hl,Nat.add_sub_cancel_left]
theorem place_of {K j n:Nat} (hK:1≤K) (h:j < n * K):∃ c k,j=c * K+k∧c < n∧k < K:=
  ⟨j / K,j % K,by rw [Nat.mul_comm];exact (Nat.div_add_mod j K).symm,Nat.div_lt_of_lt_mul (by rwa [Nat.mul_comm]),Nat.mod_lt _ hK⟩
theorem flat_bd (hp:PFrame p) (hs:xG p s) {j:Nat} (h:j < (jT s).length):0≤(jT s)[j]! ∧(jT s)[j]! ≤1000:=by
  rw [yu hp hs] at h
  obtain ⟨c,k,rfl,hc,hk⟩:=place_of (pK_le hp).1 h
  rcases Nat.lt_or_ge c p.qC.length with h1 | h1
  · rw [flat_cell hp hs h1 hk]
    have hb:=hs.2.2.1 c (by rw [hs.1];exact h1)
    exact hb.1.1 k (by rw [jF hp hb];exact hk)
  · obtain rfl:c=p.qC.length:=by omega
    rw [flat_around hp hs]
    exact hs.2.1.1.1 k (by rw [jF hp hs.2.1];exact hk)
theorem jB:∀ i,(xF p s cs i).length=(jT s).length
  | 0=>rfl
  | i+1=>by rw [xF,tkL,tkTo_len,jB i]
theorem lfTo_get (hp:zi p) (hs:xG p s) (j:Nat):∀ i,i≤p.qB.length→(xF p s cs i)[j]! =lfN p s cs i j
  | 0,_=>by rw [xF,lfN,sigma];omega
  | i+1,hi=>by
    have g:=geo hp.1 (hp.2 i qg)
    have hl:(xF p s cs i).length=(p.qC.length+1) * pK p:=by rw [jB,yu hp.1 hs]
    rw [xF,tkL,tkTo_get _ _ _ _ _ _ (by rw [hl];exact g.own) (by rw [hl];exact g.high) g.apart j _ (Nat.le_refl _),lfTo_get hp hs j i qg,lfN,lfN,sigma,need]
    omega
theorem seg_nonneg {o:Nat→Prop} [DecidablePred o] {x:yLI} {u k j:Nat} (h:∀ i,i < k→0≤x[i]!):0≤seg o x u k j:=by
  unfold seg;split
  · exact h _ qg
  · exact Int.le_refl _
theorem seg_le {o:Nat→Prop} [DecidablePred o] {x:yLI} {u k j:Nat} (h:∀ i,i < k→x[i]! ≤1000):seg o x u k j≤1000:=by
  unfold seg;split
  · exact h _ qg
  · omega
theorem need_nonneg (hp:PFrame p) {r:xM} (hr:yQ p r) (j:Nat):0≤need p r j∧need p r j≤2000:=by
  have h1:=fun i (hi:i < pK p)=>hr.2.1.1.1 i (by rw [jF hp hr.2.1];exact hi)
  have h2:=fun i (hi:i < pK p)=>hr.2.2.1.1.1 i (by rw [jF hp hr.2.2.1];exact hi)
  have a1:=seg_nonneg (o:=Every) (u:=pOwn p r) (j:=j) fun i hi=>(h1 i hi).1
  have a2:=seg_nonneg (o:=Opens p r.qE) (u:=pHigh p r) (j:=j) fun i hi=>(h2 i hi).1
  have a3:=seg_le (o:=Every) (u:=pOwn p r) (j:=j) fun i hi=>(h1 i hi).2
  have a4:=seg_le (o:=Opens p r.qE) (u:=pHigh p r) (j:=j) fun i hi=>(h2 i hi).2
  rw [need,mvJ];omega
theorem gain_nonneg (hp:PFrame p) {r:xM} (hr:yQ p r) (j:Nat):0≤gain p r j∧gain p r j≤2000:=by
  have h1:=fun i (hi:i < pK p)=>hr.2.1.1.1 i (by rw [jF hp hr.2.1];exact hi)
  have h2:=fun i (hi:i < pK p)=>hr.2.2.1.1.1 i (by rw [jF hp hr.2.2.1];exact hi)
  have a1:=seg_nonneg (o:=Every) (u:=pOwn p r) (j:=j) fun i hi=>(h2 i hi).1
  have a2:=seg_nonneg (o:=Opens p r.qE) (u:=pHigh p r) (j:=j) fun i hi=>(h1 i hi).1
  have a3:=seg_le (o:=Every) (u:=pOwn p r) (j:=j) fun i hi=>(h2 i hi).2
  have a4:=seg_le (o:=Opens p r.qE) (u:=pHigh p r) (j:=j) fun i hi=>(h1 i hi).2
  rw [gain,mvJ];omega
def Cnts (p:qW) (cs:yLI):Prop:=cs.length≤p.qB.length∧∀ i,i < cs.length→0≤cs[i]!
def Fits (p:qW) (s:qZ) (cs:yLI):Prop:=∀ j,j < (jT s).length→0≤lfN p s cs cs.length j
theorem lfN_mono (hp:zi p) (hc:∀ i,i < cs.length→0≤cs[i]!) (hl:cs.length≤p.qB.length) {i i' :Nat} (h:i≤i') (h' :i' ≤cs.length) (j:Nat):lfN p s cs i' j≤lfN p s cs i j:=by
  induction i' with
  | zero => obtain rfl : i = 0 := by omega
            exact Int.le_refl _
  | succ m ih=>
    by_cases e:i=m+1
    · subst e;exact Int.le_refl _
    · have:=ih qg qg
      have h1:=Int.mul_nonneg (need_nonneg hp.1 (hp.2 m qg) j).1 (hc m qg)
      rw [lfN,lfN] at *
      rw [sigma];omega
theorem Fits.bd (hp:zi p) (hs:xG p s) (hc:Cnts p cs) (hf:Fits p s cs) {i:Nat} (hi:i≤cs.length) {j:Nat} (hj:j < (jT s).length):0≤(xF p s cs i)[j]! ∧(xF p s cs i)[j]! ≤1000:=by
  have hl:=hc.1
  rw [lfTo_get hp hs j i qg]
  have h1:=lfN_mono (s:=s) hp hc.2 hc.1 hi (Nat.le_refl _) j
  have h2:=lfN_mono (s:=s) hp hc.2 hc.1 (Nat.zero_le i) hi j
  have h3:=hf j hj
  have h4:=flat_bd hp.1 hs hj
  have h5:lfN p s cs 0 j=(jT s)[j]! :=by rw [lfN,sigma];omega
  omega
theorem need_some (hp:zi p) {r:xM} (hr:yQ p r):∃ j,j < (p.qC.length+1) * pK p∧1≤need p r j:=by
  have g:=geo hp.1 hr
  have l1:=jF hp.1 hr.2.1
  have l2:=jF hp.1 hr.2.2.1
  have h1:=fun i (hi:i < pK p)=>hr.2.1.1.1 i (by rw [l1];exact hi)
  have h2:=fun i (hi:i < pK p)=>hr.2.2.1.1.1 i (by rw [l2];exact hi)
  have key:(∃ k,k < pK p∧r.qU[k]! > 0)∨(∃ k,k < pK p∧r.fIn[k]! > 0∧Opens p r.qE k):=by
    have pos:∀ {b:yLI},b.length=pK p→(∀ i,i < pK p→0≤b[i]! ∧b[i]! ≤1000)→yM b≠0→∃ k,k < pK p∧b[k]! > 0:=by
      intro b hl hb hne
      refine Classical.byContradiction fun hno=>hne ?_
      have hz:∀ k,k≤b.length→sumTo b k=0:=by
        intro k
        induction k with
        | zero=>exact fun _=>rfl
        | succ k ih=>
          intro hk
          have e:¬ b[k]! > 0:=fun h=>hno ⟨k,by omega,h⟩
          have:=hb k qg
          rw [sumTo,ih qg];omega
      exact hz _ (Nat.le_refl _)
    have nn:∀ {b:yLI},b.length=pK p→(∀ i,i < pK p→0≤b[i]! ∧b[i]! ≤1000)→0≤yM b:=by
      intro b hl hb
      have hz:∀ k,k≤b.length→0≤sumTo b k:=by
        intro k
        induction k with
        | zero=>exact fun _=>Int.le_refl _
        | succ k ih=>
          intro hk
          have:=hb k qg
          have:=ih qg
          rw [sumTo];omega
      exact hz _ (Nat.le_refl _)
    by_cases ho:yM r.qU=0
    · have hi:yM r.fIn≠0:=fun e=>hr.2.2.2.1 (by rw [ho,e];rfl)
      rcases hr.2.2.2.2 with h | h | h
      · obtain ⟨k,hk,h3⟩:=pos l2 h2 hi
        exact .inr ⟨k,hk,h3,.inl h⟩
      · omega
      · refine Classical.byContradiction fun hno=>h fun k hk hb=>hno (.inr ⟨k,by omega,hb.1,.inr hb.2⟩)
    · exact .inl (pos l1 h1 ho)
  rcases key with ⟨k,hk,h3⟩ | ⟨k,hk,h3,ho⟩
  · refine ⟨pOwn p r+k,by have:=g.own;omega,?_⟩
    have a2:=seg_nonneg (o:=Opens p r.qE) (u:=pHigh p r) (j:=pOwn p r+k) fun i hi=>(h2 i hi).1
    rw [need,mvJ,seg,if_pos ⟨⟨by omega,by omega⟩,trivial⟩,show pOwn p r+k - pOwn p r=k by omega]
    omega
  · refine ⟨pHigh p r+k,by have:=g.high;omega,?_⟩
    have a2:=seg_nonneg (o:=Every) (u:=pOwn p r) (j:=pHigh p r+k) fun i hi=>(h1 i hi).1
    rw [need,mvJ,seg.eq_1 (Opens p r.qE),if_pos ⟨⟨by omega,by omega⟩,by rw [show pHigh p r+k - pHigh p r=k by omega];exact ho⟩,show pHigh p r+k - pHigh p r=k by omega]
    omega
theorem Fits.le (hp:zi p) (hs:xG p s) (hc:Cnts p cs) (hf:Fits p s cs) {i:Nat} (hi:i < cs.length):cs[i]! ≤1000:=by
  have hl:=hc.1
  obtain ⟨j,hj,h1⟩:=need_some hp (hp.2 i qg)
  rw [← yu hp.1 hs] at hj
  have h2:=hf j hj
  rw [lfN] at h2
  have h3:=sigma_ge (f:=fun m=>need p (p.qB[m]!) j * cs[m]!) (n:=cs.length) (i:=i) (fun m hm=>Int.mul_nonneg (need_nonneg hp.1 (hp.2 m qg) j).1 (hc.2 m hm)) hi
  have h4:=(flat_bd hp.1 hs hj).2
  have h5:=hc.2 i hi
  have h6:1 * cs[i]! ≤need p (p.qB[i]!) j * cs[i]! :=Int.mul_le_mul_of_nonneg_right h1 h5
  omega
theorem pown_eq (hp:PFrame p) {r:xM} (h:0≤r.qE):r.qE * p.qJ=(pOwn p r:Int):=by
  have h1:=pK_eq hp
  have h2:(r.qE.toNat:Int)=r.qE:=by omega
  unfold pOwn
  push_cast
  rw [h1,h2]
theorem mul_bd8 {a b:Int} (h:0≤a∧a≤8) (h1:0≤b∧b≤8):0≤a * b∧a * b≤64:=by
  refine ⟨Int.mul_nonneg h.1 h1.1,?_⟩
  have:=Int.mul_le_mul h.2 h1.2 h1.1 (by omega:(0:Int)≤8)
  omega
theorem pat_bd (hp:PFrame p) {c:Int} (h:0≤c∧c≤(p.qC.length:Int) - 1): -1≤p.qC[c.toNat]! ∧p.qC[c.toNat]! ≤3:=by
  have h2:=hp.2.1
  rcases Int.lt_or_eq_of_le h.1 with h1 | h1
  · have:=up_other hp h1 h.2;omega
  · have e:c.toNat=0:=by omega
    rw [e,hp.2.2.2.2.1];omega
def pAt (p:qW) (c:Int):Nat:=pUp p c * pK p
theorem pat_top (hp:PFrame p) {c:Int} (h:0≤c∧c≤(p.qC.length:Int) - 1) (h1:p.qC[c.toNat]! < 0):(pAt p c:Int)=(p.qC.length:Int) * p.qJ:=by
  unfold pAt pUp
  rw [if_pos h1];push_cast;rw [pK_eq hp]
theorem pat_in (hp:PFrame p) {c:Int} (h:0≤c∧c≤(p.qC.length:Int) - 1) (h1:¬ p.qC[c.toNat]! < 0):(pAt p c:Int)=p.qC[c.toNat]! * p.qJ:=by
  unfold pAt pUp
  rw [if_neg h1];push_cast;rw [pK_eq hp,show ((p.qC[c.toNat]!).toNat:Int)=p.qC[c.toNat]! by omega]
theorem flatten_snoc {l:yLL} {i:Nat} (h:i < l.length):(l.take i).flatten++l[i]! =(l.take (i+1)).flatten:=by
  rw [← take_snoc h,List.flatten_append];simp
theorem flat_small (hp:PFrame p) (hs:xG p s) {i:Nat}:((s.qG.take i).flatten).length≤64:=by
  have h1:((s.qG.take i).flatten).length≤s.qG.flatten.length:=by
    have e:s.qG.flatten=(s.qG.take i).flatten++(s.qG.drop i).flatten:=by rw [← List.flatten_append,List.take_append_drop]
    rw [e,List.length_append];omega
  have h2:=yu hp hs
  rw [jT,List.length_append] at h2
  have h3:=pK_le hp
  have h4:=hp.2.1.2
  have:(p.qC.length+1) * pK p≤5 * 8:=Nat.mul_le_mul qg h3.2
  omega
theorem flat_le (hp:PFrame p) {f:yLI} (h:f.length=(p.qC.length+1) * pK p):f.length≤64:=by
  have h3:=pK_le hp
  have h4:=hp.2.1.2
  have:(p.qC.length+1) * pK p≤5 * 8:=Nat.mul_le_mul qg h3.2
  omega
structure TkGeo (p:qW) (r:xM) (own:Nat) (f:yLI):Prop where
  low:own+pK p≤f.length
  high:pAt p r.qE+pK p≤f.length
  apart:own+pK p≤pAt p r.qE∨pAt p r.qE+pK p≤own
theorem TkGeo.of (hp:PFrame p) {r:xM} (hr:yQ p r) {own:Nat} (ho:own=pOwn p r) {f:yLI} (hl:f.length=(p.qC.length+1) * pK p):TkGeo p r own f:=by
  have g:=geo hp hr
  subst ho
  exact ⟨by rw [hl];exact g.own,by rw [hl];exact g.high,g.apart⟩
theorem prod_bd {a t:Int} (h:0≤a∧a≤1000) (ht:0≤t∧t≤1000):0≤a * t∧a * t≤1000000:=by
  refine ⟨Int.mul_nonneg h.1 ht.1,?_⟩
  have:=Int.mul_le_mul h.2 ht.2 ht.1 (by omega:(0:Int)≤1000)
  omega
section
variable {r : xM} {own k : Nat} {f : yLI} {o : Nat → Prop} [DecidablePred o] {t : Int}
structure TkAt (p:qW) (r:xM) (own:Nat) (f g:yLI) (t:Int) (k:Nat):Prop where
  len:g.length=f.length
  low:g[own+k]! =f[own+k]!
  high:g[pAt p r.qE+k]! =f[pAt p r.qE+k]!
  ne:own+k≠pAt p r.qE+k
  lt1:own+k < f.length
  lt2:pAt p r.qE+k < f.length
  m1:0≤r.qU[k]! * t∧r.qU[k]! * t≤1000000
  m2:0≤r.fIn[k]! * t∧r.fIn[k]! * t≤1000000
theorem TkAt.of (hp:PFrame p) (hr:yQ p r) (G:TkGeo p r own f) (ht:0≤t∧t≤1000) (hk:k < pK p):TkAt p r own f (xH own (pAt p r.qE) o r.qU r.fIn t f k) t k:=by
  obtain ⟨e1,e2⟩:=tk_old (o:=o) (a:=r.qU) (b:=r.fIn) (t:=t) G.low G.high G.apart hk
  have h1:=G.low
  have h2:=G.high
  have h3:=G.apart
  exact ⟨tkTo_len _ _ _ _ _ _ _ _,e1,e2,by omega,by omega,by omega,prod_bd (hr.2.1.1.1 k (by rw [jF hp hr.2.1];exact hk)) ht,prod_bd (hr.2.2.1.1.1 k (by rw [jF hp hr.2.2.1];exact hk)) ht⟩
theorem TkAt.read (h:TkAt p r own f (xH own (pAt p r.qE) o r.qU r.fIn t f k) t k):
    ((xH own (pAt p r.qE) o r.qU r.fIn t f k).set (own+k) ((xH own (pAt p r.qE) o r.qU r.fIn t f k)[own+k]! - r.qU[k]! * t))[own+k]! =f[own+k]! - r.qU[k]! * t∧
    ((xH own (pAt p r.qE) o r.qU r.fIn t f k).set (own+k) ((xH own (pAt p r.qE) o r.qU r.fIn t f k)[own+k]! - r.qU[k]! * t))[pAt p r.qE+k]! =f[pAt p r.qE+k]! ∧
    (((xH own (pAt p r.qE) o r.qU r.fIn t f k).set (own+k) ((xH own (pAt p r.qE) o r.qU r.fIn t f k)[own+k]! - r.qU[k]! * t)).set (pAt p r.qE+k) (((xH own (pAt p r.qE) o r.qU r.fIn t f k).set (own+k) ((xH own (pAt p r.qE) o r.qU r.fIn t f k)[own+k]! - r.qU[k]! * t))[pAt p r.qE+k]! - r.fIn[k]! * t))[pAt p r.qE+k]! =f[pAt p r.qE+k]! - r.fIn[k]! * t:=by
  obtain ⟨h1,h2,h3,h4,h5,h6,_,_⟩:=h
  have e:∀ v,((xH own (pAt p r.qE) o r.qU r.fIn t f k).set (own+k) v)[pAt p r.qE+k]! =f[pAt p r.qE+k]! :=fun v=>by rw [pset _ _ _ _ qg,if_neg h4,h3]
  refine ⟨by rw [pset _ _ _ _ qg,if_pos rfl,h2],e _,by rw [pset _ _ _ _ qA,if_pos rfl,e]⟩
theorem vG (h:¬ o k):(xH own (pAt p r.qE) o r.qU r.fIn t f k).set (own+k) ((xH own (pAt p r.qE) o r.qU r.fIn t f k)[own+k]! - r.qU[k]! * t)=xH own (pAt p r.qE) o r.qU r.fIn t f (k+1):=by
  rw [xH,tkStep,if_neg h]
theorem jW (h:o k):((xH own (pAt p r.qE) o r.qU r.fIn t f k).set (own+k) ((xH own (pAt p r.qE) o r.qU r.fIn t f k)[own+k]! - r.qU[k]! * t)).set (pAt p r.qE+k)
    (((xH own (pAt p r.qE) o r.qU r.fIn t f k).set (own+k) ((xH own (pAt p r.qE) o r.qU r.fIn t f k)[own+k]! - r.qU[k]! * t))[pAt p r.qE+k]! - r.fIn[k]! * t)=xH own (pAt p r.qE) o r.qU r.fIn t f (k+1):=by
  rw [xH,tkStep,if_pos h]
omit [DecidablePred o] in
theorem jZ {a b:yLI} {u v:Nat} (h:¬ TkOk u v o a b t f k):false=dec (TkOk u v o a b t f (k+1)):=(zf fun h' =>h (TkOk.succ.1 h').1).symm
omit [DecidablePred o] in
theorem Ql {a b:yLI} {u v:Nat} (h:¬ 0≤f[u+k]! - a[k]! * t):false=dec (TkOk u v o a b t f (k+1)):=(zf fun h' =>h (TkOk.succ.1 h').2.1).symm
omit [DecidablePred o] in
theorem jY {a b:yLI} {u v:Nat} {x:Int} (h:TkOk u v o a b t f k) (ho:¬ o k) (e:x=f[u+k]! - a[k]! * t):decide (x≥0)=dec (TkOk u v o a b t f (k+1)):=by
  refine dec_eq ?_
  rw [decide_eq_true_iff,TkOk.succ,e]
  exact ⟨fun hx=>⟨h,hx,fun h' =>absurd h' ho⟩,fun hx=>hx.2.1⟩
omit [DecidablePred o] in
theorem yc {a b:yLI} {u v:Nat} {x:Int} (h:TkOk u v o a b t f k) (h1:0≤f[u+k]! - a[k]! * t) (ho:o k) (e:x=f[v+k]! - b[k]! * t):decide (x≥0)=dec (TkOk u v o a b t f (k+1)):=by
  refine dec_eq ?_
  rw [decide_eq_true_iff,TkOk.succ,e]
  exact ⟨fun hx=>⟨h,h1,fun _=>hx⟩,fun hx=>hx.2.2 ho⟩
end
theorem fits_tk (hp:zi p) (hs:xG p s) (hc:Cnts p cs) (hf:Fits p s cs) {i own:Nat} (hi:i < cs.length) (ho:own=pOwn p (p.qB[i]!)):
    TkOk own (pAt p (p.qB[i]!).qE) (Opens p (p.qB[i]!).qE) (p.qB[i]!).qU (p.qB[i]!).fIn (cs[i]!) (xF p s cs i) (pK p):=by
  have hl:=hc.1
  have hr:=hp.2 i qg
  have fl:(xF p s cs i).length=(p.qC.length+1) * pK p:=by rw [jB,yu hp.1 hs]
  have G:=TkGeo.of hp.1 hr ho fl
  refine (tkOk_iff G.low G.high G.apart fun j hj=>(hf.bd hp hs hc qg (by rwa [jB] at hj)).1).2 fun j hj=>?_
  subst ho
  have e:xH (pOwn p (p.qB[i]!)) (pAt p (p.qB[i]!).qE) (Opens p (p.qB[i]!).qE) (p.qB[i]!).qU (p.qB[i]!).fIn (cs[i]!) (xF p s cs i) (pK p)=xF p s cs (i+1):=rfl
  rw [e]
  exact (hf.bd hp hs hc (i:=i+1) qg (by rwa [jB] at hj)).1
variable {p : qW} {s : qZ} {cs : yLI}
def bump (cs:yLI) (k:Nat):yLI:=cs.set k (cs[k]! +1)
theorem bump_len (cs:yLI) (k:Nat):(bump cs k).length=cs.length:=List.length_set
theorem bump_get {k i:Nat} (hk:k < cs.length):(bump cs k)[i]! =cs[i]! +if i=k then 1 else 0:=by
  rw [bump,pset _ _ _ _ hk]
  by_cases e:k=i
  · subst e;rw [if_pos rfl,if_pos rfl]
  · rw [if_neg e,if_neg (Ne.symm e)];omega
theorem sigma_one (g:Nat→Int) {k:Nat}:∀ n,sigma (fun m=>g m * if m=k then 1 else 0) n=if k < n then g k else 0
  | 0=>by simp [sigma]
  | n+1=>by
    rw [sigma,sigma_one g n]
    by_cases e:n=k
    · subst e;rw [if_neg qg,if_pos rfl,if_pos qg];simp
    · rw [if_neg e]
      by_cases h:k < n
      · rw [if_pos h,if_pos qg];simp
      · rw [if_neg h,if_neg qg];simp
theorem lfN_bump {k:Nat} (hk:k < cs.length) (j:Nat):lfN p s (bump cs k) cs.length j=lfN p s cs cs.length j - need p (p.qB[k]!) j:=by
  unfold lfN
  have e:∀ m,need p (p.qB[m]!) j * (bump cs k)[m]! =need p (p.qB[m]!) j * cs[m]! +need p (p.qB[m]!) j * (if m=k then 1 else 0):=fun m=>by
    rw [bump_get hk,Int.mul_add]
  rw [sigma_congr (n:=cs.length) fun m _=>e m,sigma_add,sigma_one (fun m=>need p (p.qB[m]!) j),if_pos hk]
  omega
def CanAdd (p:qW) (s:qZ) (cs:yLI) (k:Nat):Prop:=Fits p s (bump cs k)
theorem Cnts.bump {k:Nat} (h:Cnts p cs) (hk:k < cs.length):Cnts p (bump cs k):=by
  refine ⟨by rw [bump_len];exact h.1,fun i hi=>?_⟩
  rw [bump_len] at hi
  have:=h.2 i hi
  rw [bump_get hk]
  split <;> omega
theorem tk_one (hp:zi p) (hs:xG p s) (hc:Cnts p cs) (hf:Fits p s cs) {k own:Nat} (hk:k < p.qB.length) (ho:own=pOwn p (p.qB[k]!)):
    TkOk own (pAt p (p.qB[k]!).qE) (Opens p (p.qB[k]!).qE) (p.qB[k]!).qU (p.qB[k]!).fIn 1 (xF p s cs cs.length) (pK p)↔∀ j,j < (jT s).length→0≤lfN p s cs cs.length j - need p (p.qB[k]!) j:=by
  have hl:=hc.1
  have hr:=hp.2 k hk
  have fl:(xF p s cs cs.length).length=(p.qC.length+1) * pK p:=by rw [jB,yu hp.1 hs]
  have G:=TkGeo.of hp.1 hr ho fl
  rw [tkOk_iff G.low G.high G.apart fun j hj=>(hf.bd hp hs hc (Nat.le_refl _) (by rwa [jB] at hj)).1,jB]
  have e:∀ j,(xH own (pAt p (p.qB[k]!).qE) (Opens p (p.qB[k]!).qE) (p.qB[k]!).qU (p.qB[k]!).fIn 1 (xF p s cs cs.length) (pK p))[j]! =lfN p s cs cs.length j - need p (p.qB[k]!) j:=fun j=>by
    rw [tkTo_get _ _ _ _ _ _ G.low G.high G.apart j _ (Nat.le_refl _),lfTo_get hp hs j _ hl,need,ho,Int.mul_one]
    rfl
  simp only [e]
theorem room_iff (hp:zi p) (hs:xG p s) (hc:Cnts p cs) (hf:Fits p s cs) {k own:Nat} (hk:k < cs.length) (ho:own=pOwn p (p.qB[k]!)):
    CanAdd p s cs k↔TkOk own (pAt p (p.qB[k]!).qE) (Opens p (p.qB[k]!).qE) (p.qB[k]!).qU (p.qB[k]!).fIn 1 (xF p s cs cs.length) (pK p):=by
  have hl:=hc.1
  rw [tk_one hp hs hc hf qg ho]
  unfold CanAdd Fits
  rw [bump_len]
  simp only [lfN_bump hk]
theorem room_few (hp:zi p) (hs:xG p s) (hc:Cnts p cs) {k:Nat} (hk:k < cs.length) (h:CanAdd p s cs k):cs[k]! < 1000:=by
  have:=Fits.le hp hs (hc.bump hk) h (i:=k) (by rw [bump_len];exact hk)
  rw [bump_get hk,if_pos rfl] at this
  omega
def NoBusyTo (p:qW) (cs:yLI) (k i:Nat):Prop:=∀ m,m < i→¬ (cs[m]! > 0∧(p.qB[m]!).qE=(p.qB[k]!).qE)
theorem NoBusyTo.succ {k i:Nat} (h:NoBusyTo p cs k i) (h1:¬ (cs[i]! > 0∧(p.qB[i]!).qE=(p.qB[k]!).qE)):NoBusyTo p cs k (i+1):=fun m hm=>by
  by_cases e:m=i
  · subst e;exact h1
  · exact h m qg
def Busy (p:qW) (cs:yLI) (k:Nat):Prop:=¬ NoBusyTo p cs k cs.length
theorem Busy.at {k i:Nat} (hi:i < cs.length) (h1:cs[i]! > 0) (h2:(p.qB[i]!).qE=(p.qB[k]!).qE):Busy p cs k:=fun h=>h i hi ⟨h1,h2⟩
abbrev BusyI (p:qW) (cs:yLI) (k:Int):Prop:=Busy p cs k.toNat
def FullTo (p:qW) (s:qZ) (cs:yLI) (mode:Int) (k:Nat):Prop:=∀ m,m < k→(mode=2∧Busy p cs m)∨¬ CanAdd p s cs m
theorem FullTo.succ {mode:Int} {k:Nat} (h:FullTo p s cs mode k) (h1:(mode=2∧Busy p cs k)∨¬ CanAdd p s cs k):FullTo p s cs mode (k+1):=fun m hm=>by
  by_cases e:m=k
  · subst e;exact h1
  · exact h m qg
def Chosen (p:qW) (s:qZ) (cs:yLI) (mode:Int):Prop:=((mode=3∨yM cs=0)∧yM cs=1)∨(¬ (mode=3∨yM cs=0)∧FullTo p s cs mode cs.length)
theorem cnts_small (hp:zi p) (hs:xG p s) (hc:Cnts p cs) (hf:Fits p s cs):Small cs:=by
  have:=hc.1
  have:=hp.1.2.2.2.1
  exact ⟨by omega,fun k hk=>by have:=hc.2 k hk;have:=hf.le hp hs hc hk;omega⟩
def LeftOk (p:qW) (f:yLI):Prop:=f.length=(p.qC.length+1) * pK p∧∀ j,j < f.length→0≤f[j]! ∧f[j]! ≤1000
theorem left_ok (hp:zi p) (hs:xG p s) (hc:Cnts p cs) (hf:Fits p s cs):LeftOk p (xF p s cs cs.length):=
  ⟨by rw [jB,yu hp.1 hs],fun j hj=>hf.bd hp hs hc (Nat.le_refl _) (by rwa [jB] at hj)⟩
abbrev TkOne (p:qW) (f:yLI) (k:Nat):Prop:=TkOk (pOwn p (p.qB[k]!)) (pAt p (p.qB[k]!).qE) (Opens p (p.qB[k]!).qE) (p.qB[k]!).qU (p.qB[k]!).fIn 1 f (pK p)
def RoomOk (p:qW) (f cs:yLI) (k:Nat):Prop:=cs[k]! < 1000∧TkOne p f k
abbrev RoomI (p:qW) (f cs:yLI) (k:Int):Prop:=RoomOk p f cs k.toNat
def FullL (p:qW) (f cs:yLI) (mode:Int) (k:Nat):Prop:=∀ m,m < k→(mode=2∧Busy p cs m)∨¬ RoomOk p f cs m
theorem FullL.succ {f:yLI} {mode:Int} {k:Nat} (h:FullL p f cs mode k) (h1:(mode=2∧Busy p cs k)∨¬ RoomOk p f cs k):FullL p f cs mode (k+1):=fun m hm=>by
  by_cases e:m=k
  · subst e;exact h1
  · exact h m qg
def ChosenL (p:qW) (f cs:yLI) (mode:Int):Prop:=((mode=3∨yM cs=0)∧yM cs=1)∨(¬ (mode=3∨yM cs=0)∧FullL p f cs mode cs.length)
theorem chosenL_one {f:yLI} {mode:Int} (h:mode=3∨yM cs=0):ChosenL p f cs mode↔yM cs=1:=
  ⟨fun h' =>h'.elim (·.2) fun h' =>absurd h h'.1,fun h' =>.inl ⟨h,h'⟩⟩
theorem chosenL_full {f:yLI} {mode:Int} (h:¬ (mode=3∨yM cs=0)):ChosenL p f cs mode↔FullL p f cs mode cs.length:=
  ⟨fun h' =>h'.elim (fun h' =>absurd h'.1 h) (·.2),fun h' =>.inr ⟨h,h'⟩⟩
theorem chosenL_iff (hp:zi p) (hs:xG p s) (hc:Cnts p cs) (hf:Fits p s cs) {mode:Int}:ChosenL p (xF p s cs cs.length) cs mode↔Chosen p s cs mode:=by
  have e:∀ m,m < cs.length→(RoomOk p (xF p s cs cs.length) cs m↔CanAdd p s cs m):=fun m hm=>by
    rw [room_iff hp hs hc hf hm rfl]
    exact ⟨fun h=>h.2,fun h=>⟨room_few hp hs hc hm ((room_iff hp hs hc hf hm rfl).2 h),h⟩⟩
  have e2:FullL p (xF p s cs cs.length) cs mode cs.length↔FullTo p s cs mode cs.length:=
    ⟨fun h m hm=>(h m hm).imp id fun h' h'' =>h' ((e m hm).2 h''),fun h m hm=>(h m hm).imp id fun h' h'' =>h' ((e m hm).1 h'')⟩
  unfold ChosenL Chosen
  rw [e2]
def minTo (l:yLI):Nat→Int
  | 0=>l[0]!
  | k+1=>min (minTo l k) (l[k]!)
theorem minTo_one (l:yLI):minTo l 1=l[0]! :=by
  rw [minTo,minTo];omega
theorem minTo_neg (l:yLI):∀ k,1≤k→(minTo l k < 0↔∃ j,j < k∧l[j]! < 0)
  | 1,_=>by
    rw [minTo_one]
    refine ⟨fun h=>⟨0,by omega,h⟩,fun ⟨j,hj,h⟩=>?_⟩
    obtain rfl:j=0:=by omega
    exact h
  | k+2,_=>by
    have ih:=minTo_neg l (k+1) qg
    rw [minTo]
    constructor
    · intro h
      by_cases e:minTo l (k+1) < 0
      · obtain ⟨j,hj,h⟩:=ih.1 e
        exact ⟨j,by omega,h⟩
      · exact ⟨k+1,by omega,by omega⟩
    · rintro ⟨j,hj,h⟩
      by_cases e:j=k+1
      · subst e;omega
      · have:=ih.2 ⟨j,by omega,h⟩
        omega
def bdTo (p:qW) (b:yLI):Nat→yLI
  | 0=>b
  | k+1=>if p.qL[k]! =true then (bdTo p b k).set k 0 else bdTo p b k
theorem bdTo_len (p:qW) (b:yLI):∀ k,(bdTo p b k).length=b.length
  | 0=>rfl
  | k+1=>by rw [bdTo];split <;> simp [bdTo_len p b k]
theorem bdTo_get (p:qW) (b:yLI) (j:Nat):∀ k,k≤b.length→(bdTo p b k)[j]! =if j < k∧p.qL[j]! =true then 0 else b[j]!
  | 0,_=>by rw [bdTo,if_neg qg]
  | k+1,hk=>by
    have ih:=bdTo_get p b j k qg
    rw [bdTo]
    by_cases e:p.qL[k]! =true
    · rw [if_pos e,pset _ _ _ _ (by rw [bdTo_len];omega)]
      by_cases c:k=j
      · subst c;rw [if_pos rfl,if_pos ⟨by omega,e⟩]
      · rw [if_neg c,ih]
        by_cases c2:j < k∧p.qL[j]! =true
        · rw [if_pos c2,if_pos ⟨by omega,c2.2⟩]
        · rw [if_neg c2,if_neg (fun h=>c2 ⟨by omega,h.2⟩)]
    · rw [if_neg e,ih]
      by_cases c2:j < k∧p.qL[j]! =true
      · rw [if_pos c2,if_pos ⟨by omega,c2.2⟩]
      · rw [if_neg c2,if_neg fun h=>c2 ⟨by
          have:j≠k:=fun e2=>e (e2▸h.2)
          omega,h.2⟩]
theorem bdTo_yes {p:qW} {b:yLI} {k:Nat} (h:p.qL[k]! =true):(bdTo p b k).set k 0=bdTo p b (k+1):=by rw [bdTo,if_pos h]
theorem bdTo_no {p:qW} {b:yLI} {k:Nat} (h:p.qL[k]! =false):bdTo p b k=bdTo p b (k+1):=by rw [bdTo,if_neg (by rw [h];decide)]
theorem par_root {p:qW} (hp:PFrame p) {c:Int} (h:c=0):(p.qC.length:Int)=(pUp p c:Nat):=by
  subst h;rw [up_root hp]
theorem par_other {p:qW} (hp:PFrame p) {c:Int} (h:0≤c∧c≤(p.qC.length:Int) - 1) (h1:¬ c=0):p.qC[c.toNat]! =(pUp p c:Nat):=by
  obtain ⟨e,h2,h3⟩:=up_other hp (c:=c) qg h.2
  rw [e];omega
variable {p : qW} {s : qZ} {cs : yLI}
def PB (p:qW) (B:Int) (bags:yLL):Prop:=
  bags.length=p.qC.length+1∧∀ i,i≤p.qC.length→(bags[i]!).length=pK p∧∀ k,k < pK p→ -B≤(bags[i]!)[k]! ∧(bags[i]!)[k]! ≤B
def MO (p:qW) (m:yLI):Prop:=m.length=pK p∧∀ k,k < pK p→0≤m[k]! ∧m[k]! ≤1000
theorem MO.bag (hp:PFrame p) {m:yLI} (h:jI p.qJ m):MO p m:=⟨jF hp h,fun k hk=>h.1.1 k (by rw [jF hp h];exact hk)⟩
theorem MO.bd {m:yLI} (h:MO p m) {n:Nat} (hn:n≤m.length):MO p (bdTo p m n):=by
  refine ⟨by rw [bdTo_len];exact h.1,fun k hk=>?_⟩
  have:=h.2 k hk
  rw [bdTo_get p m k n hn]
  split <;> omega
theorem mul_bdT {a t:Int} (h:0≤a∧a≤1000) (ht: -1001≤t∧t≤1001): -1001000≤t * a∧t * a≤1001000:=by
  have h1:=Int.mul_le_mul_of_nonneg_right ht.2 h.1
  have h2:=Int.mul_le_mul_of_nonneg_right ht.1 h.1
  omega
theorem MO.smallT {m:yLI} (h:MO p m) {t:Int} (ht: -1001≤t∧t≤1001):SmallT m t:=fun k hk=>by
  have:=mul_bdT (h.2 k (by rw [← h.1];exact hk)) ht
  omega
theorem PB.row {B:Int} {bags:yLL} (h:PB p B bags) (hp:PFrame p) (hB:B≤1000000000) {i:Nat} (hi:i≤p.qC.length):(bags[i]!).length=pK p∧Mid (bags[i]!)∧(bags[i]!).length≤8:=by
  obtain ⟨h1,h2⟩:=h.2 i hi
  have:=pK_le hp
  exact ⟨h1,⟨by omega,fun k hk=>by have:=h2 k qg;omega⟩,by omega⟩
theorem plusL_get {l m:yLI} {t:Int} {j:Nat} (h:j < l.length):(zo l m t)[j]! =l[j]! +t * m[j]! :=by
  unfold zo plusTo
  rw [getElem!_pos _ j (by simpa using h)]
  simp
theorem PB.plus {B:Int} {bags:yLL} (h:PB p B bags) {i:Nat} (hi:i≤p.qC.length) {m:yLI} (hm:MO p m) {t:Int} (ht: -1001≤t∧t≤1001):
    PB p (B+1001000) (bags.set i (zo (bags[i]!) m t)):=by
  refine ⟨by rw [List.length_set];exact h.1,fun c hc=>?_⟩
  obtain ⟨h1,h2⟩:=h.2 c hc
  rw [pset _ _ _ _ (by have:=h.1;omega)]
  by_cases e:i=c
  · subst e
    rw [if_pos rfl]
    refine ⟨by rw [plusL_len];exact h1,fun k hk=>?_⟩
    rw [plusL_get qg]
    have:=mul_bdT (hm.2 k hk) ht
    have:=h2 k hk
    omega
  · rw [if_neg e]
    exact ⟨h1,fun k hk=>by have:=h2 k hk;omega⟩
theorem PB.le {B B' :Int} {bags:yLL} (h:PB p B bags) (hB:B≤B'):PB p B' bags:=⟨h.1,fun c hc=>⟨(h.2 c hc).1,fun k hk=>by have:=(h.2 c hc).2 k hk;omega⟩⟩
def fiL (p:qW) (r:xM) (m:yLI):yLI:=if pUp p r.qE=p.qC.length then bdTo p m p.qL.length else m
theorem fi_out {r:xM} (h:pUp p r.qE=p.qC.length) (m:yLI):fiL p r m=bdTo p m p.qL.length:=if_pos h
theorem fi_in {r:xM} (h:¬ pUp p r.qE=p.qC.length) (m:yLI):fiL p r m=m:=if_neg h
def cgTake (p:qW) (r:xM) (n:Int) (bags:yLL):yLL:=
  (bags.set r.qE.toNat (zo (bags[r.qE.toNat]!) r.qU (-n))).set (pUp p r.qE) (zo ((bags.set r.qE.toNat (zo (bags[r.qE.toNat]!) r.qU (-n)))[pUp p r.qE]!) (fiL p r r.fIn) (-n))
def cgGive (p:qW) (r:xM) (n:Int) (bags:yLL):yLL:=
  (bags.set r.qE.toNat (zo (bags[r.qE.toNat]!) r.fIn n)).set (pUp p r.qE) (zo ((bags.set r.qE.toNat (zo (bags[r.qE.toNat]!) r.fIn n))[pUp p r.qE]!) (fiL p r r.qU) n)
def zD (p:qW) (s:qZ) (puts:Bool) (cs:yLI):Nat→yLL
  | 0=>s.qG++[s.qF]
  | k+1=>if puts then cgGive p (p.qB[k]!) (cs[k]!) (cgTake p (p.qB[k]!) (cs[k]!) (zD p s puts cs k)) else cgTake p (p.qB[k]!) (cs[k]!) (zD p s puts cs k)
theorem fi_MO (hp:PFrame p) {r:xM} {m:yLI} (h:MO p m):MO p (fiL p r m):=by
  unfold fiL;split
  · exact h.bd (by have:=hp.2.2.1;have:=pK_eq hp;have:=h.1;omega)
  · exact h
theorem cgTake_PB (hp:PFrame p) {r:xM} (hr:yQ p r) {B n:Int} {bags:yLL} (h:PB p B bags) (hn:0≤n∧n≤1001):PB p (B+2002000) (cgTake p r n bags):=by
  have g:=geo hp hr
  exact ((h.plus (i:=r.qE.toNat) (by have:=g.cell;omega) (MO.bag hp hr.2.1) (t:= -n) qg).plus (i:=pUp p r.qE) g.up (fi_MO hp (MO.bag hp hr.2.2.1)) (t:= -n) qg).le qg
theorem cgGive_PB (hp:PFrame p) {r:xM} (hr:yQ p r) {B n:Int} {bags:yLL} (h:PB p B bags) (hn:0≤n∧n≤1001):PB p (B+2002000) (cgGive p r n bags):=by
  have g:=geo hp hr
  exact ((h.plus (i:=r.qE.toNat) (by have:=g.cell;omega) (MO.bag hp hr.2.2.1) (t:=n) qg).plus (i:=pUp p r.qE) g.up (fi_MO hp (MO.bag hp hr.2.1)) (t:=n) qg).le qg
def Cnts1 (p:qW) (cs:yLI):Prop:=cs.length≤p.qB.length∧∀ i,i < cs.length→0≤cs[i]! ∧cs[i]! ≤1001
theorem cg_zero (hp:PFrame p) (hs:xG p s) (puts:Bool):PB p 1000 (zD p s puts cs 0):=by
  refine ⟨by rw [zD];simp [hs.1],fun i hi=>?_⟩
  have e:(zD p s puts cs 0)[i]! =if i < p.qC.length then s.qG[i]! else s.qF:=by
    rw [zD]
    simp only [List.getElem!_eq_getElem?_getD]
    by_cases h:i < p.qC.length
    · rw [if_pos h,List.getElem?_append_left (by rw [hs.1];exact h)]
    · rw [if_neg h,List.getElem?_append_right (by rw [hs.1];omega),hs.1,show i - p.qC.length=0 by omega];rfl
  have hb:jI p.qJ ((zD p s puts cs 0)[i]!):=by
    rw [e];split
    · exact hs.2.2.1 i (by rw [hs.1];assumption)
    · exact hs.2.1
  have:=MO.bag hp hb
  exact ⟨this.1,fun k hk=>by have:=this.2 k hk;omega⟩
theorem cg_PB (hp:zi p) (hs:xG p s) (hc:Cnts1 p cs) (puts:Bool):∀ k,k≤cs.length→PB p (1000+4004000 * k) (zD p s puts cs k)
  | 0,_=>cg_zero hp.1 hs puts
  | k+1,hk=>by
    have ih:=cg_PB hp hs hc puts k qg
    have hl:=hc.1
    have h1:=cgTake_PB hp.1 (hp.2 k qg) ih (hc.2 k qg)
    rw [zD]
    split
    · exact (cgGive_PB hp.1 (hp.2 k qg) h1 (hc.2 k qg)).le (by push_cast;omega)
    · exact h1.le (by push_cast;omega)
theorem cg_take_out {k:Nat} (h:pUp p (p.qB[k]!).qE=p.qC.length):
    ((zD p s false cs k).set (p.qB[k]!).qE.toNat (zo ((zD p s false cs k)[(p.qB[k]!).qE.toNat]!) (p.qB[k]!).qU (-(cs[k]!)))).set (pUp p (p.qB[k]!).qE)
      (zo (((zD p s false cs k).set (p.qB[k]!).qE.toNat (zo ((zD p s false cs k)[(p.qB[k]!).qE.toNat]!) (p.qB[k]!).qU (-(cs[k]!))))[pUp p (p.qB[k]!).qE]!) (bdTo p (p.qB[k]!).fIn p.qL.length) (-(cs[k]!)))=zD p s false cs (k+1):=by
  rw [zD,if_neg qj,cgTake,fi_out h]
theorem cg_take_in {k:Nat} (h:¬ pUp p (p.qB[k]!).qE=p.qC.length):
    ((zD p s false cs k).set (p.qB[k]!).qE.toNat (zo ((zD p s false cs k)[(p.qB[k]!).qE.toNat]!) (p.qB[k]!).qU (-(cs[k]!)))).set (pUp p (p.qB[k]!).qE)
      (zo (((zD p s false cs k).set (p.qB[k]!).qE.toNat (zo ((zD p s false cs k)[(p.qB[k]!).qE.toNat]!) (p.qB[k]!).qU (-(cs[k]!))))[pUp p (p.qB[k]!).qE]!) (p.qB[k]!).fIn (-(cs[k]!)))=zD p s false cs (k+1):=by
  rw [zD,if_neg qj,cgTake,fi_in h]
def NNTo (p:qW) (bags:yLL) (i:Nat):Prop:=∀ c,c < i→∀ k,k < pK p→0≤(bags[c]!)[k]!
theorem NNTo.succ {bags:yLL} {i:Nat} (h:NNTo p bags i) (hl:(bags[i]!).length=pK p) (hK:1≤pK p) (h1:¬ minTo (bags[i]!) (bags[i]!).length < 0):NNTo p bags (i+1):=fun c hc k hk=>by
  by_cases e:c=i
  · subst e
    refine Classical.byContradiction fun hn=>h1 ((minTo_neg _ _ qg).2 ⟨k,by omega,by omega⟩)
  · exact h c qg k hk
theorem NNTo.not {bags:yLL} {i n:Nat} (hi:i < n) (hl:(bags[i]!).length=pK p) (hK:1≤pK p) (h1:minTo (bags[i]!) (bags[i]!).length < 0):¬ NNTo p bags n:=fun h=>by
  obtain ⟨j,hj,h2⟩:=(minTo_neg _ _ qg).1 h1
  have:=h i hi j qg
  omega
variable {p : qW} {s : qZ} {cs : yLI} {mode : Int}
def CanB (p:qW) (s:qZ) (cs:yLI) (k:Nat):Prop:=NNTo p (zD p s false (bump cs k) (bump cs k).length) (p.qC.length+1)
abbrev CanBI (p:qW) (s:qZ) (cs:yLI) (k:Int):Prop:=CanB p s cs k.toNat
def vW (p:qW) (cs:yLI) (mode:Int) (i:Nat):List Bool:=
  (List.range p.qC.length).map fun c=>decide (mode=2∧∃ m,m < i∧cs[m]! > 0∧(p.qB[m]!).qE.toNat=c)
theorem busyTo_len (i:Nat):(vW p cs mode i).length=p.qC.length:=by simp [vW]
theorem busyTo_get {i c:Nat} (hc:c < p.qC.length):(vW p cs mode i)[c]! =decide (mode=2∧∃ m,m < i∧cs[m]! > 0∧(p.qB[m]!).qE.toNat=c):=by
  unfold vW
  rw [getElem!_pos _ c (by simpa using hc)]
  simp
theorem busyTo_zero (n:Nat) (h:n=p.qC.length):List.replicate n false=vW p cs mode 0:=by
  subst h
  refine pext (by rw [busyTo_len];simp) fun j hj=>?_
  have hj' :j < p.qC.length:=by simpa using hj
  rw [busyTo_get hj',getElem!_pos _ j hj]
  simp
theorem busy_step {i:Nat} {v:Bool} (hc:(p.qB[i]!).qE.toNat < p.qC.length) (hv:v=((vW p cs mode i)[(p.qB[i]!).qE.toNat]! || (decide (cs[i]! > 0) && decide (mode=2)))):
    (vW p cs mode i).set (p.qB[i]!).qE.toNat v=vW p cs mode (i+1):=by
  subst hv
  refine pext (by rw [List.length_set,busyTo_len,busyTo_len]) fun j hj=>?_
  rw [List.length_set,busyTo_len] at hj
  rw [pset _ _ _ _ (by rw [busyTo_len];exact hc),busyTo_get hj,busyTo_get hc,busyTo_get hj]
  by_cases e:(p.qB[i]!).qE.toNat=j
  · rw [if_pos e,Bool.eq_iff_iff]
    simp only [Bool.or_eq_true,Bool.and_eq_true,decide_eq_true_eq]
    constructor
    · rintro (⟨h1,m,h2,h3,h4⟩ | ⟨h1,h2⟩)
      · exact ⟨h1,m,by omega,h3,by omega⟩
      · exact ⟨h2,i,by omega,h1,e⟩
    · rintro ⟨h1,m,h2,h3,h4⟩
      by_cases em:m=i
      · subst em;exact .inr ⟨h3,h1⟩
      · exact .inl ⟨h1,m,by omega,h3,by omega⟩
  · rw [if_neg e,Bool.eq_iff_iff]
    simp only [decide_eq_true_eq]
    constructor
    · rintro ⟨h1,m,h2,h3,h4⟩
      exact ⟨h1,m,by omega,h3,h4⟩
    · rintro ⟨h1,m,h2,h3,h4⟩
      by_cases em:m=i
      · subst em;exact absurd h4 e
      · exact ⟨h1,m,by omega,h3,h4⟩
theorem busy_t {i:Nat} (hc:(p.qB[i]!).qE.toNat < p.qC.length) (h:(vW p cs mode i)[(p.qB[i]!).qE.toNat]! =true):
    (vW p cs mode i).set (p.qB[i]!).qE.toNat true=vW p cs mode (i+1):=busy_step hc (by rw [h];rfl)
theorem busy_n {i:Nat} (hc:(p.qB[i]!).qE.toNat < p.qC.length) (h:(vW p cs mode i)[(p.qB[i]!).qE.toNat]! =false) (hn:¬ cs[i]! > 0):
    (vW p cs mode i).set (p.qB[i]!).qE.toNat false=vW p cs mode (i+1):=busy_step hc (by rw [h,decide_eq_false hn];rfl)
theorem busy_m {i:Nat} {v:Bool} (hc:(p.qB[i]!).qE.toNat < p.qC.length) (h:(vW p cs mode i)[(p.qB[i]!).qE.toNat]! =false) (hn:cs[i]! > 0) (hv:v=true↔mode=2):
    (vW p cs mode i).set (p.qB[i]!).qE.toNat v=vW p cs mode (i+1):=busy_step hc (by
  rw [h,decide_eq_true hn,Bool.eq_iff_iff,hv];simp)
def FullB (p:qW) (s:qZ) (cs:yLI) (mode:Int) (k:Nat):Prop:=∀ m,m < k→(vW p cs mode cs.length)[(p.qB[m]!).qE.toNat]! =true∨¬ CanB p s cs m
theorem FullB.succ {k:Nat} (h:FullB p s cs mode k) (h1:(vW p cs mode cs.length)[(p.qB[k]!).qE.toNat]! =true∨¬ CanB p s cs k):FullB p s cs mode (k+1):=fun m hm=>by
  by_cases e:m=k
  · subst e;exact h1
  · exact h m qg
def ChosenB (p:qW) (s:qZ) (cs:yLI) (mode:Int):Prop:=((mode=3∨yM cs=0)∧yM cs=1)∨(¬ (mode=3∨yM cs=0)∧FullB p s cs mode p.qB.length)
theorem chosenB_one (h:mode=3∨yM cs=0):ChosenB p s cs mode↔yM cs=1:=
  ⟨fun h' =>h'.elim (·.2) fun h' =>absurd h h'.1,fun h' =>.inl ⟨h,h'⟩⟩
theorem chosenB_full (h:¬ (mode=3∨yM cs=0)):ChosenB p s cs mode↔FullB p s cs mode p.qB.length:=
  ⟨fun h' =>h'.elim (fun h' =>absurd h'.1 h) (·.2),fun h' =>.inr ⟨h,h'⟩⟩
def Cnts0 (p:qW) (cs:yLI):Prop:=cs.length=p.qB.length∧∀ i,i < cs.length→0≤cs[i]! ∧cs[i]! ≤1000
theorem Cnts0.bump (h:Cnts0 p cs) {k:Nat} (hk:k < cs.length):Cnts1 p (bump cs k):=by
  refine ⟨by rw [bump_len,h.1];exact Nat.le_refl _,fun i hi=>?_⟩
  rw [bump_len] at hi
  have:=h.2 i hi
  rw [bump_get hk]
  split <;> omega
theorem Cnts0.small (h:Cnts0 p cs) (hp:PFrame p):Small cs:=⟨by have:=h.1;have:=hp.2.2.2.1;omega,fun k hk=>by have:=h.2 k hk;omega⟩
variable {p : qW} {s : qZ} {cs : yLI}
def csTo (n:Nat) (B:yLL) (k:Nat):yLL:=B.take (min k n)
def arTo (n:Nat) (B:yLL) (k:Nat):yLI:=if k≤n then [] else B[n]!
theorem cs_zero (n:Nat) (B:yLL):[]=csTo n B 0:=by simp [csTo]
theorem cs_in {n:Nat} {B:yLL} {k:Nat} (h:k < n) (hl:n < B.length):csTo n B k++[B[k]!]=csTo n B (k+1):=by
  unfold csTo
  rw [show min k n=k by omega,show min (k+1) n=k+1 by omega]
  exact take_snoc qg
theorem cs_out {n:Nat} {B:yLL} {k:Nat} (h:k=n):csTo n B k=csTo n B (k+1):=by
  unfold csTo
  rw [show min k n=n by omega,show min (k+1) n=n by omega]
theorem csTo_len (n:Nat) (B:yLL) (k:Nat):(csTo n B k).length≤n:=by unfold csTo;rw [List.length_take];omega
theorem ar_zero (n:Nat) (B:yLL):[]=arTo n B 0:=by simp [arTo]
theorem ar_in {n:Nat} {B:yLL} {k:Nat} (h:k < n):arTo n B k=arTo n B (k+1):=by
  unfold arTo
  rw [if_pos qg,if_pos qg]
theorem ar_out {n:Nat} {B:yLL} {k:Nat} (h:k=n):B[k]! =arTo n B (k+1):=by
  unfold arTo
  subst h
  rw [if_neg qg]
def vH (p:qW) (s:qZ) (cs:yLI):qZ:=
  ⟨csTo p.qC.length (zD p s true cs cs.length) (p.qC.length+1),arTo p.qC.length (zD p s true cs cs.length) (p.qC.length+1)⟩
open Classical in
noncomputable def xk (p:qW) (s:qZ) (cs:yLI):qZ×Int:=if xG p (vH p s cs) then (vH p s cs,0) else (⟨[],[]⟩,3)
theorem pstep_yes (h:xG p (vH p s cs)):xk p s cs=(vH p s cs,0):=if_pos h
theorem pstep_no (h:¬ xG p (vH p s cs)):xk p s cs=(⟨[],[]⟩,3):=if_neg h
end
section
set_option linter.unusedVariables false
variable {p : qW} {s : qZ} {cs : yLI}
theorem seg_at {o:Nat→Prop} [DecidablePred o] {x:yLI} {u pl K k:Nat} (hk:k < K):seg o x (u * K) K (pl * K+k)=if pl=u∧o k then x[k]! else 0:=by
  unfold seg
  by_cases e:pl=u
  · subst e
    rw [show pl * K+k - pl * K=k by omega]
    by_cases ho:o k
    · rw [if_pos ⟨by omega,ho⟩,if_pos ⟨rfl,ho⟩]
    · rw [if_neg (fun h=>ho h.2),if_neg (fun h=>ho h.2)]
  · rw [if_neg (c:=pl=u∧o k) (fun h=>e h.1),if_neg]
    rintro ⟨⟨h1,h2⟩,_⟩
    rcases Nat.lt_or_gt_of_ne e with h | h
    · have:=mul_step (K:=K) h;omega
    · have:=mul_step (K:=K) h;omega
theorem up_top (hp:PFrame p) {r:xM} (hr:yQ p r):pUp p r.qE=p.qC.length↔r.qE=0:=by
  have hc:=hr.1
  clear hr
  rcases Int.lt_or_eq_of_le hc.1 with h | h
  · obtain ⟨e,h2,h3⟩:=up_other hp h hc.2
    rw [e]
    exact ⟨fun h' =>by omega,fun h' =>by omega⟩
  · rw [← h,up_root hp]
    exact ⟨fun _=>rfl,fun _=>rfl⟩
theorem fi_get (hp:PFrame p) {r:xM} (hr:yQ p r) {m:yLI} (hm:MO p m) {k:Nat} (hk:k < pK p):(fiL p r m)[k]! =if Opens p r.qE k then m[k]! else 0:=by
  have hf:p.qL.length=pK p:=by have:=hp.2.2.1;have:=pK_eq hp;omega
  have ht:=up_top hp hr
  have hc:=hr.1.1
  by_cases h:pUp p r.qE=p.qC.length
  · rw [fi_out h,bdTo_get p m k _ (by rw [hm.1,hf];exact Nat.le_refl _)]
    have h0:=ht.1 h
    by_cases hb:p.qL[k]! =true
    · rw [if_pos ⟨by omega,hb⟩,if_neg]
      rintro (h' | h')
      · omega
      · rw [hb] at h';cases h'
    · rw [if_neg (fun h' =>hb h'.2),if_pos (.inr (by simpa using hb))]
  · rw [fi_in h,if_pos (.inl (by
      rcases Int.lt_or_eq_of_le hc with h' | h'
      · exact h'
      · exact absurd (ht.2 h'.symm) h))]
theorem set_plus {bags:yLL} {B:Int} (h:PB p B bags) {i pl k:Nat} (hi:i≤p.qC.length) (hpl:pl≤p.qC.length) (hk:k < pK p) (m:yLI) (t:Int):
    ((bags.set i (zo (bags[i]!) m t))[pl]!)[k]! =(bags[pl]!)[k]! +if pl=i then t * m[k]! else 0:=by
  rw [pset _ _ _ _ (by have:=h.1;omega)]
  by_cases e:i=pl
  · subst e
    rw [if_pos rfl,if_pos rfl,plusL_get (by rw [(h.2 i hi).1];exact hk)]
  · rw [if_neg e,if_neg (Ne.symm e)];omega
theorem need_at (hp:PFrame p) {r:xM} {pl k:Nat} (hk:k < pK p):need p r (pl * pK p+k)=(if pl=r.qE.toNat then r.qU[k]! else 0)+(if pl=pUp p r.qE∧Opens p r.qE k then r.fIn[k]! else 0):=by
  rw [need,mvJ,seg_at hk,seg_at hk]
  simp only [and_true]
theorem gain_at (hp:PFrame p) {r:xM} {pl k:Nat} (hk:k < pK p):gain p r (pl * pK p+k)=(if pl=r.qE.toNat then r.fIn[k]! else 0)+(if pl=pUp p r.qE∧Opens p r.qE k then r.qU[k]! else 0):=by
  rw [gain,mvJ,seg_at hk,seg_at hk]
  simp only [and_true]
theorem take_at (hp:PFrame p) {r:xM} (hr:yQ p r) {B n:Int} {bags:yLL} (h:PB p B bags) (hn:0≤n∧n≤1001) {pl k:Nat} (hpl:pl≤p.qC.length) (hk:k < pK p):
    ((cgTake p r n bags)[pl]!)[k]! =(bags[pl]!)[k]! - need p r (pl * pK p+k) * n:=by
  have g:=geo hp hr
  have h1:=h.plus (i:=r.qE.toNat) (by have:=g.cell;omega) (MO.bag hp hr.2.1) (t:= -n) qg
  rw [cgTake,set_plus h1 g.up hpl hk,set_plus h (by have:=g.cell;omega) hpl hk,need_at hp hk,fi_get hp hr (MO.bag hp hr.2.2.1) hk]
  rw [Int.add_mul]
  have e1:(if pl=r.qE.toNat then -n * r.qU[k]! else 0)= -((if pl=r.qE.toNat then r.qU[k]! else 0) * n):=by
    split
    · rw [Int.neg_mul,Int.mul_comm]
    · simp
  have e2:(if pl=pUp p r.qE then -n * (if Opens p r.qE k then r.fIn[k]! else 0) else 0)= -((if pl=pUp p r.qE∧Opens p r.qE k then r.fIn[k]! else 0) * n):=by
    by_cases c1:pl=pUp p r.qE
    · by_cases c2:Opens p r.qE k
      · rw [if_pos c1,if_pos c2,if_pos ⟨c1,c2⟩,Int.neg_mul,Int.mul_comm]
      · rw [if_pos c1,if_neg c2,if_neg (fun h=>c2 h.2)];simp
    · rw [if_neg c1,if_neg (fun h=>c1 h.1)];simp
  rw [e1,e2];omega
theorem give_at (hp:PFrame p) {r:xM} (hr:yQ p r) {B n:Int} {bags:yLL} (h:PB p B bags) (hn:0≤n∧n≤1001) {pl k:Nat} (hpl:pl≤p.qC.length) (hk:k < pK p):
    ((cgGive p r n bags)[pl]!)[k]! =(bags[pl]!)[k]! +gain p r (pl * pK p+k) * n:=by
  have g:=geo hp hr
  have h1:=h.plus (i:=r.qE.toNat) (by have:=g.cell;omega) (MO.bag hp hr.2.2.1) (t:=n) qg
  rw [cgGive,set_plus h1 g.up hpl hk,set_plus h (by have:=g.cell;omega) hpl hk,gain_at hp hk,fi_get hp hr (MO.bag hp hr.2.1) hk]
  rw [Int.add_mul]
  have e1:(if pl=r.qE.toNat then n * r.fIn[k]! else 0)=((if pl=r.qE.toNat then r.fIn[k]! else 0) * n):=by
    split
    · rw [Int.mul_comm]
    · simp
  have e2:(if pl=pUp p r.qE then n * (if Opens p r.qE k then r.qU[k]! else 0) else 0)=((if pl=pUp p r.qE∧Opens p r.qE k then r.qU[k]! else 0) * n):=by
    by_cases c1:pl=pUp p r.qE
    · by_cases c2:Opens p r.qE k
      · rw [if_pos c1,if_pos c2,if_pos ⟨c1,c2⟩,Int.mul_comm]
      · rw [if_pos c1,if_neg c2,if_neg (fun h=>c2 h.2)];simp
    · rw [if_neg c1,if_neg (fun h=>c1 h.1)];simp
  rw [e1,e2];omega
theorem cg0_at (hp:PFrame p) (hs:xG p s) (puts:Bool) {pl k:Nat} (hpl:pl≤p.qC.length) (hk:k < pK p):((zD p s puts cs 0)[pl]!)[k]! =(jT s)[pl * pK p+k]! :=by
  have e:(zD p s puts cs 0)[pl]! =if pl < p.qC.length then s.qG[pl]! else s.qF:=by
    rw [zD]
    simp only [List.getElem!_eq_getElem?_getD]
    by_cases h:pl < p.qC.length
    · rw [if_pos h,List.getElem?_append_left (by rw [hs.1];exact h)]
    · rw [if_neg h,List.getElem?_append_right (by rw [hs.1];omega),hs.1,show pl - p.qC.length=0 by omega];rfl
  rw [e]
  by_cases h:pl < p.qC.length
  · rw [if_pos h,flat_cell hp hs h hk]
  · rw [if_neg h,show pl=p.qC.length by omega,flat_around hp hs]
theorem cg_at (hp:zi p) (hs:xG p s) (hc:Cnts1 p cs) {pl k:Nat} (hpl:pl≤p.qC.length) (hk:k < pK p):
    ∀ i,i≤cs.length→((zD p s false cs i)[pl]!)[k]! =lfN p s cs i (pl * pK p+k)
  | 0,_=>by rw [cg0_at hp.1 hs false hpl hk,lfN,sigma];omega
  | i+1,hi=>by
    have hl:=hc.1
    have ih:=cg_at hp hs hc hpl hk i qg
    rw [zD,if_neg qj,take_at hp.1 (hp.2 i qg) (cg_PB hp hs hc false i qg) (hc.2 i qg) hpl hk,ih,lfN,lfN,sigma]
    omega
def pgN (p:qW) (s:qZ) (cs:yLI) (i j:Nat):Int:=lfN p s cs i j+sigma (fun m=>gain p (p.qB[m]!) j * cs[m]!) i
theorem cg_put_at (hp:zi p) (hs:xG p s) (hc:Cnts1 p cs) {pl k:Nat} (hpl:pl≤p.qC.length) (hk:k < pK p):
    ∀ i,i≤cs.length→((zD p s true cs i)[pl]!)[k]! =pgN p s cs i (pl * pK p+k)
  | 0,_=>by rw [cg0_at hp.1 hs true hpl hk,pgN,lfN,sigma,sigma];omega
  | i+1,hi=>by
    have hl:=hc.1
    have ih:=cg_put_at hp hs hc hpl hk i qg
    have h1:=cg_PB hp hs hc true i qg
    have h2:=cgTake_PB hp.1 (hp.2 i qg) h1 (hc.2 i qg)
    rw [zD,if_pos rfl,give_at hp.1 (hp.2 i qg) h2 (hc.2 i qg) hpl hk,take_at hp.1 (hp.2 i qg) h1 (hc.2 i qg) hpl hk,ih,pgN,pgN,lfN,lfN,sigma,sigma]
    omega
theorem Cnts1.of (h:Cnts1 p cs):Cnts p cs:=⟨h.1,fun i hi=>(h.2 i hi).1⟩
theorem fits_iff (hp:zi p) (hs:xG p s) (hc:Cnts1 p cs):NNTo p (zD p s false cs cs.length) (p.qC.length+1)↔Fits p s cs:=by
  constructor
  · intro h j hj
    rw [yu hp.1 hs] at hj
    obtain ⟨c,k,rfl,hc1,hk⟩:=place_of (pK_le hp.1).1 hj
    rw [← cg_at hp hs hc qg hk cs.length (Nat.le_refl _)]
    exact h c hc1 k hk
  · intro h c hc1 k hk
    rw [cg_at hp hs hc qg hk cs.length (Nat.le_refl _)]
    refine h _ ?_
    rw [yu hp.1 hs]
    have:=mul_step (K:=pK p) hc1
    omega
theorem can_iff (hp:zi p) (hs:xG p s) (hc:Cnts0 p cs) {k:Nat} (hk:k < cs.length):CanB p s cs k↔CanAdd p s cs k:=by
  unfold CanB CanAdd
  exact fits_iff hp hs (hc.bump hk)
theorem busy_iff (hp:zi p) {mode:Int} (hl:cs.length≤p.qB.length) {m:Nat} (hm:m < p.qB.length):(vW p cs mode cs.length)[(p.qB[m]!).qE.toNat]! =true↔mode=2∧Busy p cs m:=by
  have g:=geo hp.1 (hp.2 m hm)
  rw [busyTo_get g.cell,decide_eq_true_iff]
  refine and_congr_right fun _=>?_
  unfold Busy NoBusyTo
  constructor
  · rintro ⟨i,hi,h1,h2⟩ hn
    have a:=(hp.2 i qg).1.1
    have b:=(hp.2 m hm).1.1
    exact hn i hi ⟨h1,by omega⟩
  · intro hn
    refine Classical.byContradiction fun hx=>hn fun i hi ⟨h1,h2⟩=>hx ⟨i,hi,h1,by rw [h2]⟩
theorem chosenB_iff (hp:zi p) (hs:xG p s) (hc:Cnts0 p cs) {mode:Int}:ChosenB p s cs mode↔Chosen p s cs mode:=by
  have hl:=hc.1
  have e:FullB p s cs mode p.qB.length↔FullTo p s cs mode cs.length:=by
    unfold FullB FullTo
    rw [hl]
    refine forall_congr' fun m=>forall_congr' fun hm=>?_
    rw [← hl,busy_iff hp qg hm,can_iff hp hs hc qg]
  unfold ChosenB Chosen
  rw [e]
variable {p : qW} {s : qZ} {cs pre : yLI}
theorem snoc_get_old {l:yLI} {x:Int} {i:Nat} (h:i < l.length):(l++[x])[i]! =l[i]! :=by
  simp only [List.getElem!_eq_getElem?_getD]
  rw [List.getElem?_append_left h]
theorem snoc_get_new (l:yLI) (x:Int):(l++[x])[l.length]! =x:=by
  simp [List.getElem!_eq_getElem?_getD]
theorem lfN_congr {cs' :yLI} {i:Nat} (h:∀ m,m < i→cs[m]! =cs'[m]!) (j:Nat):lfN p s cs i j=lfN p s cs' i j:=by
  unfold lfN
  rw [sigma_congr fun m hm=>by rw [h m hm]]
theorem lfN_snoc (n:Int) (j:Nat):lfN p s (pre++[n]) (pre.length+1) j=lfN p s pre pre.length j - need p (p.qB[pre.length]!) j * n:=by
  have e:lfN p s (pre++[n]) pre.length j=lfN p s pre pre.length j:=lfN_congr (fun m hm=>snoc_get_old hm) j
  have e2:lfN p s (pre++[n]) (pre.length+1) j=lfN p s (pre++[n]) pre.length j - need p (p.qB[pre.length]!) j * (pre++[n])[pre.length]! :=by
    unfold lfN;rw [sigma];omega
  rw [e2,e,snoc_get_new]
theorem fits_snoc (n:Int):Fits p s (pre++[n])↔∀ j,j < (jT s).length→0≤lfN p s pre pre.length j - need p (p.qB[pre.length]!) j * n:=by
  unfold Fits
  rw [List.length_append,List.length_singleton]
  simp only [lfN_snoc]
theorem fits_none (h:Fits p s pre):Fits p s (pre++[0]):=(fits_snoc 0).2 fun j hj=>by rw [Int.mul_zero,Int.sub_zero];exact h j hj
theorem fits_down (hp:zi p) (hl:pre.length < p.qB.length) {n m:Int} (h:m≤n) (hf:Fits p s (pre++[n])):Fits p s (pre++[m]):=(fits_snoc m).2 fun j hj=>by
  have h1:=(fits_snoc n).1 hf j hj
  have h2:=Int.mul_le_mul_of_nonneg_left h (need_nonneg hp.1 (hp.2 pre.length hl) j).1
  omega
theorem Cnts.snoc (h:Cnts p pre) (hl:pre.length < p.qB.length) {n:Int} (hn:0≤n):Cnts p (pre++[n]):=by
  refine ⟨by simp;omega,fun i hi=>?_⟩
  simp at hi
  by_cases e:i=pre.length
  · subst e;rw [snoc_get_new];exact hn
  · rw [snoc_get_old qg];exact h.2 i qg
theorem fits_few (hp:zi p) (hs:xG p s) (h:Cnts p pre) (hl:pre.length < p.qB.length) {n:Int} (hn:0≤n) (hf:Fits p s (pre++[n])):n≤1000:=by
  have:=hf.le hp hs (h.snoc hl hn) (i:=pre.length) qo
  rwa [snoc_get_new] at this
open Classical in
noncomputable def leaves (p:qW) (s:qZ):Nat→yLI→yLL
  | 0,pre=>[pre]
  | d+1,pre=>(List.range 1001).flatMap fun (m:Nat)=>if Fits p s (pre++[(m:Int)]) then leaves p s d (pre++[(m:Int)]) else []
open Classical in
noncomputable def xO (p:qW) (s:qZ) (d:Nat) (pre:yLI) (n:Nat):yLL:=
  (List.range n).flatMap fun (m:Nat)=>if Fits p s (pre++[(m:Int)]) then leaves p s d (pre++[(m:Int)]) else []
theorem leaves_succ (d:Nat) (pre:yLI):leaves p s (d+1) pre=xO p s d pre 1001:=rfl
theorem leavesTo_zero (d:Nat) (pre:yLI):xO p s d pre 0=[]:=rfl
theorem leavesTo_yes {d n:Nat} (h:Fits p s (pre++[(n:Int)])):xO p s d pre (n+1)=xO p s d pre n++leaves p s d (pre++[(n:Int)]):=by
  unfold xO
  rw [List.range_succ,List.flatMap_append]
  simp [h]
theorem leavesTo_no {d n:Nat} (h:¬ Fits p s (pre++[(n:Int)])):xO p s d pre (n+1)=xO p s d pre n:=by
  unfold xO
  rw [List.range_succ,List.flatMap_append]
  simp [h]
theorem leavesTo_more {d n:Nat}:∀ m,n≤m→∃ r,xO p s d pre m=xO p s d pre n++r
  | 0, h => by obtain rfl : n = 0 := by omega
               exact ⟨[],(List.append_nil _).symm⟩
  | m+1,h=>by
    by_cases e:n=m+1
    · subst e;exact ⟨[],(List.append_nil _).symm⟩
    · obtain ⟨r,hr⟩:=leavesTo_more m (n:=n) (d:=d) qg
      by_cases hf:Fits p s (pre++[(m:Int)])
      · exact ⟨r++leaves p s d (pre++[(m:Int)]),by rw [leavesTo_yes hf,hr,List.append_assoc]⟩
      · exact ⟨r,by rw [leavesTo_no hf,hr]⟩
theorem leavesTo_end (hp:zi p) (hl:pre.length < p.qB.length) {d n:Nat} (h:¬ Fits p s (pre++[(n:Int)])):∀ m,n≤m→xO p s d pre m=xO p s d pre n
  | 0, hm => by obtain rfl : n = 0 := by omega
                rfl
  | m+1,hm=>by
    by_cases e:n=m+1
    · subst e;rfl
    · rw [leavesTo_no fun hf=>h (fits_down hp hl qg hf),leavesTo_end hp hl h m qg]

section
variable (c : yLI → Prop) (b : Bool)
open Classical in
noncomputable def gStep (st:Int×yLL) (l:yLI):Int×yLL:=
  if st.1≤1500 then (st.1+1,if (st.1+1≤1500∨b=true)∧c l then st.2++[l] else st.2) else st
noncomputable def gath2 (st:Int×yLL) (L:yLL):Int×yLL:=L.foldl (gStep c b) st
variable {c b}
theorem gath2_nil (st:Int×yLL):gath2 c b st []=st:=rfl
theorem gath2_append (st:Int×yLL) (L M:yLL):gath2 c b st (L++M)=gath2 c b (gath2 c b st L) M:=List.foldl_append
theorem gath2_stop {st:Int×yLL} (h:¬ st.1≤1500):∀ L,gath2 c b st L=st
  | []=>rfl
  | l :: L=>by
    have e:gStep c b st l=st:=if_neg h
    unfold gath2 at *
    rw [List.foldl_cons,e]
    exact gath2_stop h L
theorem gath2_one {st:Int×yLL} (h:st.1≤1500) (l:yLI) (x:yLL) (hx:((st.1+1≤1500∨b=true)∧c l→x=st.2++[l])∧(¬ ((st.1+1≤1500∨b=true)∧c l)→x=st.2)):gath2 c b st [l]=(st.1+1,x):=by
  unfold gath2
  rw [List.foldl_cons,List.foldl_nil,gStep,if_pos h]
  split
  · rw [hx.1 qm]
  · rw [hx.2 qm]
theorem gath2_fit {st:Int×yLL}:∀ (L:yLL) {st:Int×yLL},0≤st.1∧st.1≤1501→0≤(gath2 c b st L).1∧(gath2 c b st L).1≤1501
  | [],_,h=>h
  | l :: L,st,h=>by
    have:0≤(gStep c b st l).1∧(gStep c b st l).1≤1501:=by
      unfold gStep;split
      · simp only;omega
      · exact h
    exact gath2_fit (st:=st) L this
end
theorem gath2_both (c:yLI→Prop):∀ (L:yLL) (st st' :Int×yLL),st.1=st'.1→(st.1≤1500→st.2=st'.2)→
    (gath2 c false st L).1=(gath2 c true st' L).1∧((gath2 c false st L).1≤1500→(gath2 c false st L).2=(gath2 c true st' L).2)
  | [],st,st',h,h2=>⟨h,h2⟩
  | l :: L,st,st',h,h2=>by
    refine gath2_both c L (gStep c false st l) (gStep c true st' l) ?_ ?_
    · unfold gStep
      by_cases e:st.1≤1500
      · have e' :st'.1≤1500:=by omega
        rw [if_pos e,if_pos e'];simp only;omega
      · have e' :¬ st'.1≤1500:=by omega
        rw [if_neg e,if_neg e'];exact h
    · intro hx
      unfold gStep at hx ⊢
      by_cases e:st.1≤1500
      · have e' :st'.1≤1500:=by omega
        rw [if_pos e] at hx
        simp only at hx
        rw [if_pos e,if_pos e']
        simp only
        rw [h2 e]
        by_cases hc:c l
        · have a1:(st.1+1≤1500∨false=true)∧c l:=⟨.inl hx,hc⟩
          have a2:(st'.1+1≤1500∨true=true)∧c l:=⟨.inr rfl,hc⟩
          rw [if_pos a1,if_pos a2]
        · have a1:¬ ((st.1+1≤1500∨false=true)∧c l):=fun h=>hc h.2
          have a2:¬ ((st'.1+1≤1500∨true=true)∧c l):=fun h=>hc h.2
          rw [if_neg a1,if_neg a2]
      · rw [if_neg e] at hx
        omega
noncomputable def xh (p:qW) (s:qZ) (mode:Int):Int×yLL:=gath2 (fun l=>Chosen p s l mode) false (0,[]) (leaves p s p.qB.length [])
variable {p : qW} {s : qZ} {cs : yLI}
theorem gvFrom_len (f:yLI):∀ i,(zh p f cs i).length=f.length
  | 0=>rfl
  | i+1=>by rw [zh,gvL,mvTo_len,gvFrom_len f i]
theorem gvFrom_get (hp:zi p) {f:yLI} (hf:f.length=(p.qC.length+1) * pK p) (j:Nat):∀ i,i≤p.qB.length→(zh p f cs i)[j]! =f[j]! +sigma (fun m=>gain p (p.qB[m]!) j * cs[m]!) i
  | 0,_=>by rw [zh,sigma];omega
  | i+1,hi=>by
    have g:=geo hp.1 (hp.2 i qg)
    have hl:(zh p f cs i).length=(p.qC.length+1) * pK p:=by rw [gvFrom_len,hf]
    rw [zh,gvL,mvTo_get _ _ _ _ _ _ (by rw [hl];exact g.own) (by rw [hl];exact g.high) g.apart j _ (Nat.le_refl _),gvFrom_get hp hf j i qg,sigma,gain]
    omega
def chunk (f:yLI) (K i:Nat):yLI:=(f.drop (i * K)).take K
theorem chunk_len {f:yLI} {K i n:Nat} (hf:f.length=n * K) (hi:i < n):(chunk f K i).length=K:=by
  have:=mul_step (K:=K) hi
  unfold chunk
  rw [List.length_take,List.length_drop];omega
theorem chunk_get {f:yLI} {K i k:Nat} (hk:k < K):(chunk f K i)[k]! =f[i * K+k]! :=by
  unfold chunk
  simp only [List.getElem!_eq_getElem?_getD]
  rw [List.getElem?_take_of_lt hk,List.getElem?_drop]
noncomputable def afterL (p:qW) (s:qZ) (cs:yLI):yLI:=zh p (xF p s cs cs.length) cs cs.length
theorem afterL_len (hp:zi p) (hs:xG p s):(afterL p s cs).length=(p.qC.length+1) * pK p:=by
  rw [afterL,gvFrom_len,jB,yu hp.1 hs]
theorem afterL_get (hp:zi p) (hs:xG p s) (hc:Cnts1 p cs) (j:Nat):(afterL p s cs)[j]! =pgN p s cs cs.length j:=by
  have hl:=hc.1
  rw [afterL,gvFrom_get hp (by rw [jB,yu hp.1 hs]) j _ hl,lfTo_get hp hs j _ hl,pgN]
noncomputable def stepS (p:qW) (s:qZ) (cs:yLI):qZ:=⟨(List.range p.qC.length).map fun i=>chunk (afterL p s cs) (pK p) i,(afterL p s cs).drop (p.qC.length * pK p)⟩
theorem step_eq (hp:zi p) (hs:xG p s) (hc:Cnts1 p cs):stepS p s cs=vH p s cs:=by
  have B:=cg_PB hp hs hc true cs.length (Nat.le_refl _)
  have hl:=afterL_len (cs:=cs) hp hs
  have one:∀ c,c≤p.qC.length→chunk (afterL p s cs) (pK p) c=(zD p s true cs cs.length)[c]! :=fun c hcl=>by
    have h1:=(B.2 c hcl).1
    refine pext (by rw [chunk_len hl qg,h1]) fun k hk=>?_
    rw [chunk_len hl qg] at hk
    rw [chunk_get hk,afterL_get hp hs hc,cg_put_at hp hs hc hcl hk _ (Nat.le_refl _)]
  have e1:(List.range p.qC.length).map (fun i=>chunk (afterL p s cs) (pK p) i)=csTo p.qC.length (zD p s true cs cs.length) (p.qC.length+1):=by
    unfold csTo
    rw [show min (p.qC.length+1) p.qC.length=p.qC.length by omega]
    refine pext (by rw [List.length_map,List.length_range,List.length_take,B.1];omega) fun c hcl=>?_
    rw [List.length_map,List.length_range] at hcl
    rw [getElem!_pos _ c (by simpa using hcl)]
    simp only [List.getElem_map,List.getElem_range]
    rw [one c qg]
    simp only [List.getElem!_eq_getElem?_getD]
    rw [List.getElem?_take_of_lt hcl]
  have e2:(afterL p s cs).drop (p.qC.length * pK p)=arTo p.qC.length (zD p s true cs cs.length) (p.qC.length+1):=by
    unfold arTo
    rw [if_neg qg,← one _ (Nat.le_refl _)]
    unfold chunk
    rw [List.take_of_length_le]
    rw [List.length_drop,hl,Nat.add_mul,Nat.one_mul];omega
  unfold stepS vH
  rw [e1,e2]
variable {p : qW} {s : qZ} {cs pre : yLI} {c : yLI → Prop} {b : Bool}
def Qy (k:Nat) (cs:yLI):Prop:=∀ i,k≤i→i < cs.length→cs[i]! =0
theorem Qy.up {k:Nat} (h:Qy k cs):Qy (k+1) cs:=fun i hi hl=>h i qg hl
theorem Qy.set {k:Nat} (h:Qy (k+1) cs) (n:Int):Qy (k+1) (cs.set k n):=fun i hi hl=>by
  rw [List.length_set] at hl
  rw [pset _ _ _ _ qg,if_neg qg]
  exact h i hi hl
theorem lfN_zero {k n:Nat} (hk:k≤n) (h:∀ i,k≤i→i < n→cs[i]! =0) (j:Nat):lfN p s cs n j=lfN p s cs k j:=by
  induction n with
  | zero => obtain rfl : k = 0 := by omega
            rfl
  | succ n ih=>
    by_cases e:k=n+1
    · subst e;rfl
    · rw [← ih qg fun i h1 h2=>h i h1 qg,lfN,lfN,sigma,h n qg qg]
      omega
theorem take_get {k i:Nat} (h:i < k):(cs.take k)[i]! =cs[i]! :=by
  simp only [List.getElem!_eq_getElem?_getD]
  rw [List.getElem?_take_of_lt h]
theorem fits_take {k:Nat} (hk:k≤cs.length) (hz:Qy k cs):Fits p s cs↔Fits p s (cs.take k):=by
  unfold Fits
  rw [List.length_take_of_le hk]
  have e:∀ j,lfN p s cs cs.length j=lfN p s (cs.take k) k j:=fun j=>by
    rw [lfN_zero hk (fun i h1 h2=>hz i h1 h2),lfN_congr fun m hm=>(take_get hm).symm]
  simp only [e]
theorem set_take {k:Nat} (hk:k < cs.length) (n:Int):(cs.set k n).take (k+1)=cs.take k++[n]:=by
  refine pext qA fun j hj=>?_
  rw [List.length_take,List.length_set] at hj
  rw [take_get qg,pset _ _ _ _ hk]
  by_cases e:k=j
  · subst e
    rw [if_pos rfl]
    have:=snoc_get_new (cs.take k) n
    rw [List.length_take_of_le qg] at this
    exact this.symm
  · rw [if_neg e,snoc_get_old qA,take_get qg]
theorem fits_set {k:Nat} (hk:k < cs.length) (hz:Qy (k+1) cs) (n:Int):Fits p s (cs.set k n)↔Fits p s (cs.take k++[n]):=by
  rw [fits_take (k:=k+1) (by rw [List.length_set];omega) (hz.set n),set_take hk]
theorem zero_back {k:Nat} (hk:k < cs.length) (hz:Qy k cs) (n:Int):(cs.set k n).set k 0=cs:=by
  refine pext qo fun j hj=>?_
  rw [pset _ _ _ _ qA]
  by_cases e:k=j
  · subst e;rw [if_pos rfl,hz k (Nat.le_refl _) hk]
  · rw [if_neg e,pset _ _ _ _ hk,if_neg e]
theorem zero_first {k:Nat} (hk:k < cs.length) (hz:Qy k cs):cs.set k 0=cs:=by
  have:=zero_back hk hz 0
  rwa [List.set_set] at this

theorem gath_next {st:Int×yLL} {d n:Nat} (h:Fits p s (pre++[(n:Int)])):
    gath2 c b st (xO p s d pre (n+1))=gath2 c b (gath2 c b st (xO p s d pre n)) (leaves p s d (pre++[(n:Int)])):=by
  rw [leavesTo_yes h,gath2_append]
theorem gath_end (hp:zi p) (hl:pre.length < p.qB.length) {st:Int×yLL} {d n:Nat} (h:¬ Fits p s (pre++[(n:Int)])) (hn:n≤1001):
    gath2 c b st (leaves p s (d+1) pre)=gath2 c b st (xO p s d pre n):=by
  rw [leaves_succ,leavesTo_end hp hl h 1001 hn]
theorem gath_done {st:Int×yLL} {d n:Nat} (h:¬ (gath2 c b st (xO p s d pre n)).1≤1500) (hn:n≤1001):
    gath2 c b st (leaves p s (d+1) pre)=gath2 c b st (xO p s d pre n):=by
  obtain ⟨r,hr⟩:=leavesTo_more (p:=p) (s:=s) (pre:=pre) (d:=d) 1001 hn
  rw [leaves_succ,hr,gath2_append,gath2_stop h]
theorem gath_start (st:Int×yLL) (d:Nat):gath2 c b st (xO p s d pre 0)=st:=by rw [leavesTo_zero,gath2_nil]
theorem gath_leaf_yes {fit:Int} {out:yLL} (h:fit≤1500) (hb:fit+1≤1500∨b=true) (hc:c pre):gath2 c b (fit,out) (leaves p s 0 pre)=(fit+1,out++[pre]):=
  gath2_one h pre _ ⟨fun _=>rfl,fun h' =>absurd ⟨hb,hc⟩ h'⟩
theorem gath_leaf_no {fit:Int} {out:yLL} (h:fit≤1500) (hc:¬ ((fit+1≤1500∨b=true)∧c pre)):gath2 c b (fit,out) (leaves p s 0 pre)=(fit+1,out):=
  gath2_one h pre _ ⟨fun h' =>absurd h' hc,fun _=>rfl⟩
theorem lf_snoc_zero (hp:zi p) (hs:xG p s) (hl:pre.length < p.qB.length):xF p s (pre++[0]) (pre.length+1)=xF p s pre pre.length:=by
  refine pext (by rw [jB,jB]) fun j hj=>?_
  rw [lfTo_get hp hs j _ qg,lfTo_get hp hs j _ qg,lfN_snoc,Int.mul_zero,Int.sub_zero]
theorem lf_snoc_next (hp:zi p) (hs:xG p s) (hl:pre.length < p.qB.length) (n:Int) {own:Nat} (ho:own=pOwn p (p.qB[pre.length]!)):
    xH own (pAt p (p.qB[pre.length]!).qE) (Opens p (p.qB[pre.length]!).qE) (p.qB[pre.length]!).qU (p.qB[pre.length]!).fIn 1 (xF p s (pre++[n]) (pre.length+1)) (pK p)=xF p s (pre++[n+1]) (pre.length+1):=by
  have hr:=hp.2 pre.length hl
  have fl:(xF p s (pre++[n]) (pre.length+1)).length=(p.qC.length+1) * pK p:=by rw [jB,yu hp.1 hs]
  have G:=TkGeo.of hp.1 hr ho fl
  refine pext (by rw [tkTo_len,jB,jB]) fun j hj=>?_
  rw [tkTo_get _ _ _ _ _ _ G.low G.high G.apart j _ (Nat.le_refl _),lfTo_get hp hs j _ qg,lfTo_get hp hs j _ qg,lfN_snoc,lfN_snoc,Int.mul_add,Int.mul_one,Int.mul_one]
  have e:mvJ own (pAt p (p.qB[pre.length]!).qE) (Opens p (p.qB[pre.length]!).qE) (p.qB[pre.length]!).qU (p.qB[pre.length]!).fIn (pK p) j=need p (p.qB[pre.length]!) j:=by rw [need,ho];rfl
  rw [e];omega
theorem tk_snoc (hp:zi p) (hs:xG p s) (hc:Cnts p pre) (hl:pre.length < p.qB.length) {n:Int} (hn:0≤n) (hf:Fits p s (pre++[n])) {own:Nat} (ho:own=pOwn p (p.qB[pre.length]!)):
    TkOk own (pAt p (p.qB[pre.length]!).qE) (Opens p (p.qB[pre.length]!).qE) (p.qB[pre.length]!).qU (p.qB[pre.length]!).fIn 1 (xF p s (pre++[n]) (pre.length+1)) (pK p)↔Fits p s (pre++[n+1]):=by
  have h1:=tk_one hp hs (hc.snoc hl hn) hf hl ho
  rw [List.length_append,List.length_singleton] at h1
  rw [h1,fits_snoc]
  simp only [lfN_snoc,Int.mul_add,Int.mul_one]
  exact forall_congr' fun j=>forall_congr' fun _=>by constructor <;> intro h <;> omega
end
section
open Go.RowKit Go.Shelf Go.Lib Go.Sort
set_option linter.unusedVariables false
def sortI (l:yLI):yLI:=l.mergeSort fun x y=>decide (x≤y)
theorem sortI_perm (l:yLI):(sortI l).Perm l:=List.mergeSort_perm _ _
theorem sortI_len (l:yLI):(sortI l).length=l.length:=(sortI_perm l).length_eq
section
variable {W0 w : World} {ps : List Prv} {Γ : List Fact}
theorem sw_blockI {α:Type} [Inhabited α] {enc:α→Value} {blk m:Nat} {d:Array α} {os:Array Obj} {k:Nat} (hk:k < w.heap.size) (hne:k≠blk):(grow (putRow enc (Sort.ahead w m) blk 0 d) os).heap[k]? =w.heap[k]? :=by
  unfold putRow mapBlock grow
  show ((Sort.ahead w m).heap.modify blk _++os)[k]? =_
  have hs:((Sort.ahead w m).heap.modify blk (onCells (putCells enc 0 d))).size=w.heap.size:=by rw [Array.size_modify];rfl
  rw [Array.getElem?_append_left (by rw [hs];exact hk),Array.getElem?_modify,if_neg (Ne.symm hne)]
  rfl
theorem sw_rowI {α:Type} [Inhabited α] {enc:α→Value} {blk m:Nat} {d:Array α} {os:Array Obj} {cur:Array Value} {e:TypeId} (h:w.heap[blk]? =some (.cells cur e (0,0))):(grow (putRow enc (Sort.ahead w m) blk 0 d) os).heap[blk]? =some (.cells (putCells enc 0 d cur) e (0,0)):=by
  have hk:blk < w.heap.size:=(Array.getElem?_eq_some_iff.1 h).1
  unfold putRow mapBlock grow
  show ((Sort.ahead w m).heap.modify blk _++os)[blk]? =_
  have hs:((Sort.ahead w m).heap.modify blk (onCells (putCells enc 0 d))).size=w.heap.size:=by rw [Array.size_modify];rfl
  rw [Array.getElem?_append_left (by rw [hs];exact hk),Array.getElem?_modify,if_pos rfl]
  show (w.heap[blk]?).map _=_
  rw [h]
  rfl
theorem sortRowS {P:Program} {ρ:Ren} (L:SlLaysN.n53 P ρ) (H:St W0 w ps Γ) (k:Nat) {b c:Nat} {e:TypeId} {nn:Nat} {l:yLI} (hp:ps[k]? =some (.row (.slice (some ⟨b,0,none⟩) nn c) e 1 nn (l.map (Value.int .i64)))) (hsz:l.length < 4611686018427387904):
    Calls P (ρ.f 53) #[.slice (some ⟨b,0,none⟩) nn c] w fun e' w' =>∃ v,e' =.returned v∧v=.tuple #[]∧
      St W0 w' (ps.set k (.row (.slice (some ⟨b,0,none⟩) nn c) e 1 nn ((sortI l).map (Value.int .i64)))) Γ:=by
  have ho:=(H.has _ (List.mem_of_getElem? hp):w.ownsRow W0.heap.size e 1 _ nn (l.map (Value.int .i64)))
  have hnn:nn=l.length:=by have:=ho.1;simp at this;omega
  subst hnn
  obtain ⟨hl,h | ⟨g',cap,cur,hv,hB,hg,hn,hm,hcs,ht⟩⟩:=ho
  · simp at h
  simp only [Value.slice.injEq,Option.some.injEq,Addr.mk.injEq,and_true] at hv
  obtain ⟨rfl,_,rfl⟩:=hv
  have hcx:∀ i,i < l.length→cur[i]? =some (.int .i64 (l[i]!)):=fun i hi=>by
    have h1:(l.map (Value.int .i64))[i]? =some (.int .i64 (l[i]!)):=by
      rw [List.getElem?_map,List.getElem?_eq_getElem hi,getElem!_pos l i hi];rfl
    rw [← ht,List.getElem?_take,if_pos qg] at h1
    simpa using h1
  have hH:Holds (Value.int .i64) w b 0 l.toArray:=fun i hi=>by
    have hi' :i < l.length:=by simpa using hi
    have e1:l.toArray[i]! =l[i]! :=by rw [getElem!_pos l.toArray i hi,getElem!_pos l i hi'];simp
    rw [e1,Nat.zero_add]
    constructor
    · rw [World.cell?,hg];exact hcx i hi'
    · rw [World.frozen?,hg];simp
  have hblk:b < w.heap.size:=(Array.getElem?_eq_some_iff.1 hg).1
  refine (AnyG.slices_Sort_int L b 0 c l w hH hblk hsz).mono fun e' w' ⟨he,n,os,hw⟩=>⟨_,he,rfl,?_⟩
  subst hw
  have sl:(sortI l).length=l.length:=sortI_len l
  have hown:(grow (putRow (Value.int .i64) (Sort.ahead w n) b 0 (sortI l).toArray) os).ownsRow W0.heap.size e 1 (.slice (some ⟨b,0,none⟩) l.length c) l.length ((sortI l).map (Value.int .i64)):=by
    refine ⟨by simp [sl],Or.inr ⟨b,c,putCells (Value.int .i64) 0 (sortI l).toArray cur,rfl,hB,sw_rowI hg,hn,hm,by unfold putCells;rw [Array.size_mapIdx];exact hcs,?_⟩⟩
    rw [Nat.mul_one]
    refine List.ext_getElem? fun q=>?_
    rw [List.getElem?_take]
    split
    · next hq=>
      rw [Array.getElem?_toList]
      unfold putCells
      rw [Array.getElem?_mapIdx,hcx q hq,List.getElem?_map,List.getElem?_eq_getElem qg]
      simp only [Option.map_some,Nat.zero_le,true_and,Nat.zero_add,List.size_toArray,sl,if_pos hq,Nat.sub_zero]
      rw [getElem!_pos (sortI l).toArray q qA]
      simp
    · next hq=>rw [List.getElem?_eq_none qA]
  have hsize:w.heap.size≤(grow (putRow (Value.int .i64) (Sort.ahead w n) b 0 (sortI l).toArray) os).heap.size:=by
    unfold putRow mapBlock grow
    show _≤((Sort.ahead w n).heap.modify b _++os).size
    rw [Array.size_append,Array.size_modify]
    exact Nat.le_add_right _ _
  exact H.change k hp (p' :=.row (.slice (some ⟨b,0,none⟩) l.length c) e 1 l.length ((sortI l).map (Value.int .i64))) rfl rfl rfl hsize (fun i hi hne=>sw_blockI hi (fun e2=>hne (by subst e2;rfl))) hown (Or.inl rfl)
theorem set_sameI {α:Type} {l:List α} {k:Nat} {x:α} (h:l[k]? =some x):l.set k x=l:=by
  refine List.ext_getElem? fun i=>?_
  by_cases e:k=i
  · subst e
    have hk:k < l.length:=(List.getElem?_eq_some_iff.1 h).1
    rw [List.getElem?_set_self hk,h]
  · rw [List.getElem?_set_ne e]
theorem sortRowI {P:Program} {ρ:Ren} (L:SlLaysN.n53 P ρ) (H:St W0 w ps Γ) (k:Nat) {a:yOA} {c:Nat} {e:TypeId} {nn:Nat} {l:yLI} (hp:ps[k]? =some (.row (.slice a nn c) e 1 nn (l.map (Value.int .i64)))) (hsz:l.length < 4611686018427387904):
    Calls P (ρ.f 53) #[.slice a nn c] w fun e' w' =>∃ v,e' =.returned v∧v=.tuple #[]∧
      St W0 w' (ps.set k (.row (.slice a nn c) e 1 nn ((sortI l).map (Value.int .i64)))) Γ:=by
  have ho:=(H.has _ (List.mem_of_getElem? hp):w.ownsRow W0.heap.size e 1 _ nn (l.map (Value.int .i64)))
  have hnn:nn=l.length:=by have:=ho.1;simp at this;omega
  subst hnn
  by_cases h0:l.length=0
  · obtain rfl:=List.eq_nil_of_length_eq_zero h0
    refine (AnyG.slices_Sort_int_none L a c w).mono fun e' w' ⟨he,hw⟩=>⟨_,he,rfl,?_⟩
    subst hw
    have:sortI []=[]:=by simp [sortI]
    rw [this,set_sameI hp]
    exact H
  · obtain ⟨hl,⟨h,_⟩ | ⟨g',cap,cur,hv,_⟩⟩:=ho
    · simp only [Value.slice.injEq] at h
      exact absurd h.2.1 h0
    · simp only [Value.slice.injEq] at hv
      obtain ⟨rfl,_,_⟩:=hv
      exact sortRowS L H k hp hsz
end
def compI (l:yLI):yLI:=Lib.compact l
theorem compUpTo_le (d:Array Int):∀ m,(compactUpTo d m).length≤m
  | 0=>by simp [compactUpTo]
  | m+1=>by
    have:=compUpTo_le d m
    rw [compactUpTo_succ,List.length_append]
    split <;> simp <;> omega
theorem compI_len (l:yLI):(compI l).length≤l.length:=compUpTo_le _ _
section
variable {W0 w : World} {ps : List Prv} {Γ : List Fact}
theorem pc_blockI {enc:Int→Value} {blk m:Nat} {d:Array Int} {k:Nat} (hne:k≠blk):(putRow enc (Sort.ahead w m) blk 0 d).heap[k]? =w.heap[k]? :=by
  unfold putRow mapBlock
  show ((Sort.ahead w m).heap.modify blk _)[k]? =_
  rw [Array.getElem?_modify,if_neg (Ne.symm hne)]
  rfl
theorem pc_rowI {enc:Int→Value} {blk m:Nat} {d:Array Int} {cur:Array Value} {e:TypeId} (h:w.heap[blk]? =some (.cells cur e (0,0))):(putRow enc (Sort.ahead w m) blk 0 d).heap[blk]? =some (.cells (putCells enc 0 d cur) e (0,0)):=by
  unfold putRow mapBlock
  show ((Sort.ahead w m).heap.modify blk _)[blk]? =_
  rw [Array.getElem?_modify,if_pos rfl]
  show (w.heap[blk]?).map _=_
  rw [h]
  rfl
theorem compRowI {P:Program} {ρ:Ren} (L:SlLaysN.n43 P ρ) (H:St W0 w ps Γ) (k:Nat) {a:yOA} {c:Nat} {e:TypeId} {nn:Nat} {l:yLI} (hp:ps[k]? =some (.row (.slice a nn c) e 1 nn (l.map (Value.int .i64)))):
    Calls P (ρ.f 43) #[.slice a nn c] w fun e' w' =>∃ v,e' =.returned v∧v=.slice a (compI l).length c∧
      St W0 w' (ps.set k (.row (.slice a (compI l).length c) e 1 (compI l).length ((compI l).map (Value.int .i64)))) Γ:=by
  have ho:=(H.has _ (List.mem_of_getElem? hp):w.ownsRow W0.heap.size e 1 _ nn (l.map (Value.int .i64)))
  have hnn:nn=l.length:=by have:=ho.1;simp at this;omega
  subst hnn
  by_cases h0:l.length=0
  · obtain rfl:=List.eq_nil_of_length_eq_zero h0
    refine (AnyG.slices_Compact_int_empty L a c w).mono fun e' w' ⟨he,hw⟩=>⟨_,he,rfl,?_⟩
    subst hw
    have e0:compI []=[]:=by simp [compI,Lib.compact,compactUpTo]
    rw [e0,set_sameI (by exact hp)]
    exact H
  obtain ⟨hl,⟨h,_⟩ | ⟨b,cap,cur,hv,hB,hg,hn,hm,hcs,ht⟩⟩:=ho
  · simp only [Value.slice.injEq] at h
    exact absurd h.2.1 h0
  simp only [Value.slice.injEq] at hv
  obtain ⟨rfl,_,rfl⟩:=hv
  have hcx:∀ i,i < l.length→cur[i]? =some (.int .i64 (l[i]!)):=fun i hi=>by
    have h1:(l.map (Value.int .i64))[i]? =some (.int .i64 (l[i]!)):=by
      rw [List.getElem?_map,List.getElem?_eq_getElem hi,getElem!_pos l i hi];rfl
    rw [← ht,List.getElem?_take,if_pos qg] at h1
    simpa using h1
  have hH:Holds (Value.int .i64) w b 0 l.toArray:=fun i hi=>by
    have hi' :i < l.length:=by simpa using hi
    have e1:l.toArray[i]! =l[i]! :=by rw [getElem!_pos l.toArray i hi,getElem!_pos l i hi'];simp
    rw [e1,Nat.zero_add]
    constructor
    · rw [World.cell?,hg];exact hcx i hi'
    · rw [World.frozen?,hg];simp
  have cl:=compI_len l
  have hcl:cur.size=c:=by simpa using hcs
  unfold maxLen at hm
  refine (AnyG.slices_Compact_int L b 0 c l w hH qg qg).mono fun e' w' ⟨he,q,hw⟩=>⟨_,he,rfl,?_⟩
  subst hw
  show St W0 (putRow (Value.int .i64) (Sort.ahead w q) b 0 (compI l++List.replicate (l.length - (compI l).length) 0).toArray) _ _
  have hown:(putRow (Value.int .i64) (Sort.ahead w q) b 0 (compI l++List.replicate (l.length - (compI l).length) 0).toArray).ownsRow W0.heap.size e 1 (.slice (some ⟨b,0,none⟩) (compI l).length c) (compI l).length ((compI l).map (Value.int .i64)):=by
    refine ⟨by simp,Or.inr ⟨b,c,putCells (Value.int .i64) 0 (compI l++List.replicate (l.length - (compI l).length) 0).toArray cur,rfl,hB,pc_rowI hg,by omega,by unfold maxLen;omega,by unfold putCells;rw [Array.size_mapIdx];exact hcs,?_⟩⟩
    rw [Nat.mul_one]
    refine List.ext_getElem? fun i=>?_
    rw [List.getElem?_take]
    split
    · next hq=>
      rw [Array.getElem?_toList]
      unfold putCells
      rw [Array.getElem?_mapIdx,hcx i qg,List.getElem?_map,List.getElem?_eq_getElem hq]
      have hsz:(compI l++List.replicate (l.length - (compI l).length) (0:Int)).length=l.length:=by rw [List.length_append,List.length_replicate];omega
      simp only [Option.map_some,Nat.zero_le,true_and,Nat.zero_add,List.size_toArray,hsz,if_pos (show i < l.length by omega),Nat.sub_zero]
      rw [getElem!_pos _ i qA]
      simp [hq]
    · next hq=>rw [List.getElem?_eq_none qA]
  have hsize:w.heap.size≤(putRow (Value.int .i64) (Sort.ahead w q) b 0 (compI l++List.replicate (l.length - (compI l).length) 0).toArray).heap.size:=by
    unfold putRow mapBlock
    show _≤((Sort.ahead w q).heap.modify b _).size
    rw [Array.size_modify]
    exact Nat.le_refl _
  exact H.change k hp (p' :=.row (.slice (some ⟨b,0,none⟩) (compI l).length c) e 1 (compI l).length ((compI l).map (Value.int .i64))) rfl rfl rfl hsize (fun i hi hne=>pc_blockI (fun e2=>hne (by subst e2;rfl))) hown (Or.inl rfl)
end
def putL (n:Int):yLI→yLI
  | []=>[n]
  | x :: l=>if x < n then x :: putL n l else if x=n then x :: l else n :: x :: l
theorem mem_putL {n x:Int}:∀ {l:yLI},x∈putL n l↔x=n∨x∈l
  | []=>by simp [putL]
  | y :: l=>by
    rw [putL]
    split
    · rw [List.mem_cons,mem_putL,List.mem_cons]
      constructor
      · rintro (h | h | h)
        · exact .inr (.inl h)
        · exact .inl h
        · exact .inr (.inr h)
      · rintro (h | h | h)
        · exact .inr (.inl h)
        · exact .inl h
        · exact .inr (.inr h)
    · split
      · rename_i e
        subst e
        rw [List.mem_cons]
        constructor
        · exact .inr
        · rintro (h | h)
          · exact .inl h
          · exact h
      · rw [List.mem_cons]
theorem putL_len (n:Int):∀ l:yLI,(putL n l).length≤l.length+1
  | []=>by simp [putL]
  | x :: l=>by
    rw [putL]
    have:=putL_len n l
    split
    · simp only [List.length_cons];omega
    · split <;> simp
theorem putL_asc {n:Int}:∀ {l:yLI},l.Pairwise (· < ·)→(putL n l).Pairwise (· < ·)
  | [],_=>by simp [putL]
  | x :: l,h=>by
    have h1:=List.pairwise_cons.1 h
    rw [putL]
    split
    · rename_i hx
      refine List.pairwise_cons.2 ⟨fun y hy=>?_,putL_asc h1.2⟩
      rcases mem_putL.1 hy with rfl | hy
      · exact hx
      · exact h1.1 y hy
    · split
      · exact h
      · refine List.pairwise_cons.2 ⟨fun y hy=>?_,h⟩
        rcases List.mem_cons.1 hy with rfl | hy
        · omega
        · have:=h1.1 y hy;omega
def vU (row:yLI):yLI:=row.foldl (fun acc x=>putL x acc) []
theorem putAll_snoc (row:yLI) (x:Int):vU (row++[x])=putL x (vU row):=by simp [vU]
theorem putAll_len (row:yLI):(vU row).length≤row.length:=by
  have key:∀ (row acc:yLI),(row.foldl (fun acc x=>putL x acc) acc).length≤acc.length+row.length:=by
    intro row
    induction row with
    | nil=>intro acc;simp
    | cons x row ih=>intro acc;have h1:=ih (putL x acc);have h2:=putL_len x acc;simp only [List.foldl_cons,List.length_cons];omega
  have:=key row []
  simpa [vU] using this
theorem putAll_all (row:yLI):(vU row).Pairwise (· < ·)∧∀ x,x∈vU row↔x∈row:=by
  have key:∀ (row acc:yLI),acc.Pairwise (· < ·)→(row.foldl (fun acc x=>putL x acc) acc).Pairwise (· < ·)∧∀ x,x∈row.foldl (fun acc x=>putL x acc) acc↔x∈row∨x∈acc:=by
    intro row
    induction row with
    | nil=>intro acc h;exact ⟨h,by simp⟩
    | cons x row ih=>
      intro acc h
      obtain ⟨h1,h2⟩:=ih (putL x acc) (putL_asc h)
      refine ⟨h1,fun y=>?_⟩
      rw [List.foldl_cons,h2 y,mem_putL,List.mem_cons]
      constructor
      · rintro (h | h | h)
        · exact .inl (.inr h)
        · exact .inl (.inl h)
        · exact .inr h
      · rintro ((h | h) | h)
        · exact .inr (.inl h)
        · exact .inl h
        · exact .inr (.inr h)
  obtain ⟨h1,h2⟩:=key row [] List.Pairwise.nil
  exact ⟨h1,fun x=>(h2 x).trans qo⟩
theorem asc_eq:∀ {l m:yLI},l.Pairwise (· < ·)→m.Pairwise (· < ·)→(∀ x,x∈l↔x∈m)→l=m
  | [],[],_,_,_=>rfl
  | [],y :: m,_,_,h=>by have:=(h y).2 qo;simp at this
  | x :: l,[],_,_,h=>by have:=(h x).1 qo;simp at this
  | x :: l,y :: m,hl,hm,h=>by
    have h1:=List.pairwise_cons.1 hl
    have h2:=List.pairwise_cons.1 hm
    have e:x=y:=by
      rcases List.mem_cons.1 ((h x).1 qo) with e | hx
      · exact e
      · rcases List.mem_cons.1 ((h y).2 qo) with e | hy
        · exact e.symm
        · have:=h2.1 x hx;have:=h1.1 y hy;omega
    subst e
    rw [asc_eq h1.2 h2.2 fun z=>⟨fun hz=>by
      rcases List.mem_cons.1 ((h z).1 (List.mem_cons_of_mem _ hz)) with e | h3
      · have:=h1.1 z hz;omega
      · exact h3,fun hz=>by
      rcases List.mem_cons.1 ((h z).2 (List.mem_cons_of_mem _ hz)) with e | h3
      · have:=h2.1 z hz;omega
      · exact h3⟩]
theorem comp_all {d:Array Int} (hd:∀ i j,i≤j→j < d.size→d[i]! ≤d[j]!):∀ m,m≤d.size→(compactUpTo d m).Pairwise (· < ·)∧∀ x,x∈compactUpTo d m↔∃ j,j < m∧d[j]! =x
  | 0,_=>by simp [compactUpTo]
  | m+1,hm=>by
    obtain ⟨h1,h2⟩:=comp_all hd m qg
    rw [compactUpTo_succ]
    by_cases hk:keeps d m=true
    · rw [if_pos hk]
      refine ⟨List.pairwise_append.2 ⟨h1,by simp,fun x hx y hy=>?_⟩,fun x=>?_⟩
      · obtain rfl:=List.mem_singleton.1 hy
        obtain ⟨j,hj,rfl⟩:=(h2 x).1 hx
        have h3:=hd j (m - 1) qg qg
        have h4:=hd (m - 1) m qg qg
        have h5:d[m]! ≠d[m - 1]! :=fun e=>by have:=keeps_neg (d:=d) (m:=m) qg e;rw [this] at hk;cases hk
        omega
      · rw [List.mem_append,List.mem_singleton,h2]
        constructor
        · rintro (⟨j,hj,e⟩ | e)
          · exact ⟨j,by omega,e⟩
          · exact ⟨m,by omega,e.symm⟩
        · rintro ⟨j,hj,e⟩
          by_cases ej:j=m
          · subst ej;exact .inr e.symm
          · exact .inl ⟨j,by omega,e⟩
    · rw [if_neg hk,List.append_nil]
      refine ⟨h1,fun x=>?_⟩
      rw [h2]
      have hm0:0 < m:=by
        rcases Nat.eq_zero_or_pos m with e | e
        · subst e;exact absurd (keeps_lt_one d 0 qg) hk
        · exact e
      have he:d[m]! =d[m - 1]! :=Classical.byContradiction fun h=>hk (keeps_pos h)
      constructor
      · rintro ⟨j,hj,e⟩;exact ⟨j,by omega,e⟩
      · rintro ⟨j,hj,e⟩
        by_cases ej:j=m
        · subst ej;exact ⟨j - 1,by omega,he▸e⟩
        · exact ⟨j,by omega,e⟩
theorem sorted_get (l:yLI):∀ i j,i≤j→j < (sortI l).toArray.size→(sortI l).toArray[i]! ≤(sortI l).toArray[j]! :=fun i j hij hj=>by
  have hs:(sortI l).Pairwise fun x y=>decide (x≤y)=true:=List.pairwise_mergeSort (fun a b c h1 h2=>by simp at *;omega) (fun a b=>by simp;omega) l
  rw [List.size_toArray] at hj
  rw [getElem!_pos _ i qA,getElem!_pos _ j qA]
  simp only [List.getElem_toArray]
  by_cases e:i=j
  · subst e;exact Int.le_refl _
  · have:=(List.pairwise_iff_getElem.1 hs) i j qg hj qg
    exact of_decide_eq_true this
theorem comp_sort (l:yLI):compI (sortI l)=vU l:=by
  have h1:=comp_all (sorted_get l) (sortI l).toArray.size (Nat.le_refl _)
  have h2:=putAll_all l
  unfold compI Lib.compact
  rw [List.size_toArray] at h1
  refine asc_eq h1.1 h2.1 fun x=>?_
  rw [h1.2,h2.2,← (sortI_perm l).mem_iff]
  constructor
  · rintro ⟨j,hj,rfl⟩
    rw [getElem!_pos _ j (by simpa using hj)]
    simp
  · intro hx
    obtain ⟨j,hj,rfl⟩:=List.getElem_of_mem hx
    exact ⟨j,hj,by rw [getElem!_pos _ j (by simpa using hj)];simp⟩
theorem compSortRow {W0 w:World} {ps:List Prv} {Γ:List Fact} {P:Program} {ρ:Ren} (L:SlLaysN.n43 P ρ) (H:St W0 w ps Γ) (k:Nat) {a:yOA} {c:Nat} {e:TypeId} {nn:Nat} {l:yLI} (hp:ps[k]? =some (.row (.slice a nn c) e 1 nn ((sortI l).map (Value.int .i64)))):
    Calls P (ρ.f 43) #[.slice a nn c] w fun e' w' =>∃ v,e' =.returned v∧v=.slice a (vU l).length c∧
      St W0 w' (ps.set k (.row (.slice a (vU l).length c) e 1 (vU l).length ((vU l).map (Value.int .i64)))) Γ:=by
  have h:=compRowI L H k hp
  rw [comp_sort] at h
  exact h
end
section
set_option linter.unusedVariables false
def findS (l:List qZ) (t:qZ):Int:=firstIdx (fun zz=>decide (l[zz]! =t)) l.length
open Classical in
noncomputable def inTo (p:qW) (t:qZ) (ch:yLL) (l:List qZ):Nat→Option (List qZ×yLI)
  | 0=>some (l,[])
  | k+1=>match inTo p t ch l k with
    | none=>none
    | some (m,row)=>
      if xG p (vH p t (ch[k]!)) then
        if 0≤findS m (vH p t (ch[k]!)) then some (m,row++[findS m (vH p t (ch[k]!))])
        else if m.length < 200 then some (m++[vH p t (ch[k]!)],row++[(m.length:Int)]) else none
      else none
section
variable {p : qW} {t : qZ} {ch : yLL} {l m : List qZ} {row : yLI} {k : Nat}
theorem inTo_old (h:inTo p t ch l k=some (m,row)) (h1:xG p (vH p t (ch[k]!))) (h2:0≤findS m (vH p t (ch[k]!))):inTo p t ch l (k+1)=some (m,row++[findS m (vH p t (ch[k]!))]):=by
  rw [inTo,h];simp only;rw [if_pos h1,if_pos h2]
theorem inTo_new (h:inTo p t ch l k=some (m,row)) (h1:xG p (vH p t (ch[k]!))) (h2:¬ 0≤findS m (vH p t (ch[k]!))) (h3:m.length < 200):inTo p t ch l (k+1)=some (m++[vH p t (ch[k]!)],row++[(m.length:Int)]):=by
  rw [inTo,h];simp only;rw [if_pos h1,if_neg h2,if_pos h3]
theorem inTo_bad (h:inTo p t ch l k=some (m,row)) (h1:¬ xG p (vH p t (ch[k]!))):inTo p t ch l (k+1)=none:=by
  rw [inTo,h];simp only;rw [if_neg h1]
theorem inTo_many (h:inTo p t ch l k=some (m,row)) (h1:xG p (vH p t (ch[k]!))) (h2:¬ 0≤findS m (vH p t (ch[k]!))) (h3:¬ m.length < 200):inTo p t ch l (k+1)=none:=by
  rw [inTo,h];simp only;rw [if_pos h1,if_neg h2,if_neg h3]
theorem inTo_none (h:inTo p t ch l k=none):∀ j,k≤j→inTo p t ch l j=none
  | 0, hj => by obtain rfl : k = 0 := by omega
                exact h
  | j+1,hj=>by
    by_cases e:k=j+1
    · subst e;exact h
    · rw [inTo,inTo_none h j qg]
end
theorem inTo_len {p:qW} {t:qZ} {ch:yLL} {l:List qZ} (hl:l.length≤200):∀ (k:Nat) {m:List qZ} {row:yLI},inTo p t ch l k=some (m,row)→l.length≤m.length∧m.length≤200∧row.length=k
  | 0,m,row,h=>by
    rw [inTo] at h
    obtain ⟨rfl,rfl⟩:=Prod.mk.inj (Option.some.inj h)
    exact ⟨Nat.le_refl _,hl,rfl⟩
  | k+1,m,row,h=>by
    cases e:inTo p t ch l k with
    | none=>rw [inTo,e] at h;cases h
    | some x=>
      obtain ⟨m0,r0⟩:=x
      have ih:=inTo_len hl k e
      rw [inTo,e] at h
      simp only at h
      split at h
      · split at h
        · obtain ⟨rfl,rfl⟩:=Prod.mk.inj (Option.some.inj h)
          exact ⟨ih.1,ih.2.1,by simp;omega⟩
        · split at h
          · obtain ⟨rfl,rfl⟩:=Prod.mk.inj (Option.some.inj h)
            exact ⟨by simp;omega,by simp;omega,by simp;omega⟩
          · cases h
      · cases h
open Classical in
noncomputable def yV (p:qW) (s:qZ) (mode:Int):Nat→Option (List qZ×yLL)
  | 0=>some ([s],[])
  | i+1=>match yV p s mode i with
    | none=>none
    | some (l,nx)=>
      if i < l.length then
        if (xh p (l[i]!) mode).1≤1500 then
          match inTo p (l[i]!) (xh p (l[i]!) mode).2 l (xh p (l[i]!) mode).2.length with
          | none=>none
          | some (m,row)=>some (m,nx++[vU row])
        else none
      else some (l,nx)
noncomputable def pGraph (p:qW) (s:qZ) (mode:Int):Option (List qZ×yLL):=yV p s mode 200
section
variable {p : qW} {s : qZ} {mode : Int} {l : List qZ} {nx : yLL} {i : Nat}
theorem outTo_none (h:yV p s mode i=none):∀ j,i≤j→yV p s mode j=none
  | 0, hj => by obtain rfl : i = 0 := by omega
                exact h
  | j+1,hj=>by
    by_cases e:i=j+1
    · subst e;exact h
    · rw [yV,outTo_none h j qg]
theorem outTo_end (h:yV p s mode i=some (l,nx)) (hi:¬ i < l.length):∀ j,i≤j→yV p s mode j=some (l,nx)
  | 0, hj => by obtain rfl : i = 0 := by omega
                exact h
  | j+1,hj=>by
    by_cases e:i=j+1
    · subst e;exact h
    · rw [yV,outTo_end h hi j qg]
      simp only
      rw [if_neg qg]
open Classical in
theorem outTo_next (h:yV p s mode i=some (l,nx)) (hi:i < l.length) (hc:(xh p (l[i]!) mode).1≤1500) {m:List qZ} {row:yLI} (hin:inTo p (l[i]!) (xh p (l[i]!) mode).2 l (xh p (l[i]!) mode).2.length=some (m,row)):
    yV p s mode (i+1)=some (m,nx++[vU row]):=by
  rw [yV,h];simp only;rw [if_pos hi,if_pos hc,hin]
open Classical in
theorem Qk (h:yV p s mode i=some (l,nx)) (hi:i < l.length) {k:Nat} (hk:k≤(xh p (l[i]!) mode).2.length) (hin:inTo p (l[i]!) (xh p (l[i]!) mode).2 l k=none):yV p s mode (i+1)=none:=by
  rw [yV,h];simp only;rw [if_pos hi]
  split
  · rw [inTo_none hin _ hk]
  · rfl
theorem outTo_much (h:yV p s mode i=some (l,nx)) (hi:i < l.length) (hc:¬ (xh p (l[i]!) mode).1≤1500):yV p s mode (i+1)=none:=by
  rw [yV,h];simp only;rw [if_pos hi,if_neg hc]
open Classical in
theorem outTo_len:∀ (i:Nat) {l:List qZ} {nx:yLL},yV p s mode i=some (l,nx)→1≤l.length∧l.length≤200∧(i≤l.length→nx.length=i)
  | 0,l,nx,h=>by
    rw [yV] at h
    obtain ⟨rfl,rfl⟩:=Prod.mk.inj (Option.some.inj h)
    exact ⟨by simp,by simp,fun _=>rfl⟩
  | i+1,l,nx,h=>by
    cases e:yV p s mode i with
    | none=>rw [yV,e] at h;cases h
    | some x=>
      obtain ⟨l0,n0⟩:=x
      have ih:=outTo_len i e
      rw [yV,e] at h
      simp only at h
      split at h
      · split at h
        · split at h
          · cases h
          · rename_i m row hin
            obtain ⟨rfl,rfl⟩:=Prod.mk.inj (Option.some.inj h)
            have:=inTo_len ih.2.1 _ hin
            exact ⟨by omega,this.2.1,fun _=>by have:=ih.2.2 qg;simp;omega⟩
        · cases h
      · obtain ⟨rfl,rfl⟩:=Prod.mk.inj (Option.some.inj h)
        exact ⟨ih.1,ih.2.1,fun hx=>by omega⟩
theorem graph_end (h:yV p s mode i=some (l,nx)) (hi:¬ i < l.length) (h2:i≤200):pGraph p s mode=some (l,nx):=outTo_end h hi 200 h2
theorem vF (h:yV p s mode (i+1)=none) (h2:i < 200):pGraph p s mode=none:=outTo_none h 200 qg
end
variable {p : qW} {s : qZ} {cs pre : yLI} {c : yLI → Prop} {b : Bool}
theorem gath2_keep:∀ (L:yLL) {st:Int×yLL},(st.2.length:Int)≤st.1→((gath2 c b st L).2.length:Int)≤(gath2 c b st L).1
  | [],_,h=>h
  | l :: L,st,h=>by
    have:((gStep c b st l).2.length:Int)≤(gStep c b st l).1:=by
      unfold gStep;split
      · simp only
        split
        · rw [List.length_append,List.length_singleton];omega
        · omega
      · exact h
    exact gath2_keep L (st:=gStep c b st l) this
theorem gath2_bd (L:yLL) {fit:Int} {out:yLL} (h:0≤fit∧fit≤1500) (h2:(out.length:Int)≤fit):
    (0≤(gath2 c b (fit,out) L).1∧(gath2 c b (fit,out) L).1≤1501)∧((gath2 c b (fit,out) L).2.length:Int)≤(gath2 c b (fit,out) L).1:=
  ⟨gath2_fit (st:=(fit,out)) L ⟨h.1,by show fit≤1501;omega⟩,gath2_keep L h2⟩
theorem Cnts.nil (p:qW):Cnts p []:=⟨Nat.zero_le _,fun i hi=>by simp at hi⟩
theorem fits_nil (hp:zi p) (hs:xG p s):Fits p s []:=fun j hj=>by
  show 0≤(jT s)[j]! - 0
  have:=(flat_bd hp.1 hs hj).1
  omega
section
variable {st : Int × yLL} {f n : Nat}
theorem walk_done (hf:0 < f) (h:¬ (gath2 c b st (xO p s (f - 1) pre n)).1≤1500) (hn:n≤1001):gath2 c b st (leaves p s f pre)=gath2 c b st (xO p s (f - 1) pre n):=by
  obtain ⟨d,rfl⟩:∃ d,f=d+1:=⟨f - 1,by omega⟩
  exact gath_done h hn
theorem walk_end (hp:zi p) (hl:pre.length < p.qB.length) (hf:0 < f) (h:¬ Fits p s (pre++[(n:Int)])) (hn:n≤1001):gath2 c b st (leaves p s f pre)=gath2 c b st (xO p s (f - 1) pre n):=by
  obtain ⟨d,rfl⟩:∃ d,f=d+1:=⟨f - 1,by omega⟩
  exact gath_end hp hl h hn
theorem walk_last (hp:zi p) (hl:pre.length < p.qB.length) (hf:0 < f) (h:Fits p s (pre++[(n:Int)])) (h2:¬ Fits p s (pre++[(n:Int)+1])) (hn:n≤1000):
    gath2 c b st (leaves p s f pre)=gath2 c b (gath2 c b st (xO p s (f - 1) pre n)) (leaves p s (f - 1) (pre++[(n:Int)])):=by
  rw [walk_end (n:=n+1) hp hl hf h2 qg,gath_next h]
end
variable {p : qW} {s : qZ} {cs : yLI} {k : Nat}
theorem set_next (hk:k < cs.length) (n:Nat):(cs.set k (n:Int)).set k ((cs.set k (n:Int))[k]! +1)=cs.set k ((n:Int)+1):=by
  rw [List.set_set,pset _ _ _ _ hk,if_pos rfl]
theorem set_now (hk:k < cs.length) (n:Int):(cs.set k n)[k]! =n:=by rw [pset _ _ _ _ hk,if_pos rfl]
theorem Cnts0.set1 (h:Cnts0 p cs) (hk:k < cs.length) {n:Int} (hn:0≤n∧n≤1001):Cnts1 p (cs.set k n):=by
  refine ⟨by rw [List.length_set,h.1];exact Nat.le_refl _,fun i hi=>?_⟩
  rw [List.length_set] at hi
  rw [pset _ _ _ _ hk]
  split
  · exact hn
  · have:=h.2 i hi;omega
theorem Cnts0.set0 (h:Cnts0 p cs) (hk:k < cs.length) {n:Int} (hn:0≤n∧n≤1000):Cnts0 p (cs.set k n):=by
  refine ⟨by rw [List.length_set];exact h.1,fun i hi=>?_⟩
  rw [List.length_set] at hi
  rw [pset _ _ _ _ hk]
  split
  · exact hn
  · exact h.2 i hi
theorem Cnts0.first (h:Cnts0 p cs):Cnts p (cs.take k):=by
  have:=h.1
  refine ⟨by rw [List.length_take];omega,fun i hi=>?_⟩
  rw [List.length_take] at hi
  rw [take_get qg]
  exact (h.2 i qg).1
theorem len_first (hl:cs.length=p.qB.length) (hk:k < cs.length):(cs.take k).length < p.qB.length:=by rw [List.length_take];omega
theorem few_first (hp:zi p) (hs:xG p s) (h:Cnts0 p cs) (hk:k < cs.length) {n:Nat} (hf:Fits p s (cs.take k++[(n:Int)])):n≤1000:=by
  have:=fits_few hp hs h.first (len_first h.1 hk) (n:=(n:Int)) qg hf
  omega
theorem zeros_cnts (p:qW):Cnts0 p (List.replicate p.qB.length (0:Int)):=by
  refine ⟨by simp,fun i hi=>?_⟩
  rw [getElem!_pos _ i hi];simp
theorem zeros_from (n:Nat):Qy 0 (List.replicate n (0:Int)):=fun i _ hi=>by rw [getElem!_pos _ i hi];simp
theorem zeros_fit (hp:zi p) (hs:xG p s) (n:Nat):Fits p s (List.replicate n (0:Int)):=by
  rw [fits_take (k:=0) (Nat.zero_le _) (zeros_from n),List.take_zero]
  exact fits_nil hp hs
noncomputable abbrev gathB (p:qW) (s:qZ) (mode:Int):Int×yLL:=gath2 (fun l=>Chosen p s l mode) true (0,[]) (leaves p s p.qB.length ((List.replicate p.qB.length (0:Int)).take 0))
theorem gathB_eq (p:qW) (s:qZ) (mode:Int):(xh p s mode).1=(gathB p s mode).1∧((xh p s mode).1≤1500→(xh p s mode).2=(gathB p s mode).2):=
  gath2_both _ _ (0,[]) (0,[]) rfl fun _=>rfl
open Classical in
noncomputable def zJ (p:qW) (s:qZ) (mode:Int):yLL×Int:=if (xh p s mode).1≤1500 then ((xh p s mode).2,0) else ([],3)
theorem ch_no {mode:Int} (h:¬ (gathB p s mode).1≤1500):zJ p s mode=([],3):=if_neg (by rw [(gathB_eq p s mode).1];exact h)
theorem ch_yes {mode:Int} (h:(gathB p s mode).1≤1500):zJ p s mode=((gathB p s mode).2,0):=by
  have h1:=gathB_eq p s mode
  unfold zJ
  rw [if_pos (by rw [h1.1];exact h),h1.2 (by rw [h1.1];exact h)]
theorem ch_ok {mode:Int} (h:(zJ p s mode).2=0):(xh p s mode).1≤1500∧(zJ p s mode).1=(xh p s mode).2:=by
  unfold zJ at h ⊢
  split at h
  · rename_i hc
    exact ⟨hc,by rw [if_pos hc]⟩
  · cases h
theorem ch_many {mode:Int} (h:(zJ p s mode).2≠0):(zJ p s mode).2=3∧¬ (xh p s mode).1≤1500:=by
  unfold zJ at h ⊢
  split at h
  · exact absurd rfl h
  · rename_i hc
    exact ⟨by rw [if_neg hc],hc⟩
variable {p : qW} {s t : qZ} {cs : yLI} {mode : Int}
theorem leaves_mem (hp:zi p) (hs:xG p s):∀ (d:Nat) (pre:yLI),Cnts p pre→Fits p s pre→pre.length+d=p.qB.length→∀ l∈leaves p s d pre,Cnts p l∧Fits p s l∧l.length=p.qB.length
  | 0,pre,h1,h2,h3,l,hl=>by
    obtain rfl:l=pre:=by simpa [leaves] using hl
    exact ⟨h1,h2,h3⟩
  | d+1,pre,h1,h2,h3,l,hl=>by
    rw [leaves] at hl
    obtain ⟨m,hm,hl⟩:=List.mem_flatMap.1 hl
    split at hl
    · rename_i hf
      exact leaves_mem hp hs d _ (h1.snoc qg qg) hf (by rw [List.length_append,List.length_singleton];omega) l hl
    · simp at hl
theorem gath2_mem {c:yLI→Prop} {b:Bool}:∀ (L:yLL) {st:Int×yLL} {l:yLI},l∈(gath2 c b st L).2→l∈st.2∨l∈L
  | [],_,_,h=>.inl h
  | x :: L,st,l,h=>by
    have h' :l∈(gath2 c b (gStep c b st x) L).2:=h
    rcases gath2_mem L h' with h1 | h1
    · unfold gStep at h1
      split at h1
      · simp only at h1
        split at h1
        · rcases List.mem_append.1 h1 with h1 | h1
          · exact .inl h1
          · exact .inr (by simp [List.mem_singleton.1 h1])
        · exact .inl h1
      · exact .inl h1
    · exact .inr (List.mem_cons_of_mem _ h1)
theorem get_mem {α:Type} [Inhabited α] {l:List α} {k:Nat} (hk:k < l.length):l[k]! ∈l:=by rw [getElem!_pos l k hk];exact List.getElem_mem hk
theorem pch_mem (hp:zi p) (hs:xG p s) {k:Nat} (hk:k < (xh p s mode).2.length):Cnts p ((xh p s mode).2[k]!)∧Fits p s ((xh p s mode).2[k]!)∧((xh p s mode).2[k]!).length=p.qB.length:=by
  rcases gath2_mem _ (get_mem hk) with h | h
  · simp at h
  · exact leaves_mem hp hs _ _ (Cnts.nil p) (fits_nil hp hs) qo _ h
theorem pch_cnts1 (hp:zi p) (hs:xG p s) (h:Cnts p cs∧Fits p s cs∧cs.length=p.qB.length):Cnts1 p cs:=
  ⟨h.1.1,fun i hi=>⟨h.1.2 i hi,by have:=h.2.1.le hp hs h.1 hi;omega⟩⟩
theorem pch_len (p:qW) (s:qZ) (mode:Int):(xh p s mode).2.length≤1501:=by
  have:=gath2_bd (c:=fun l=>Chosen p s l mode) (b:=false) (fit:=0) (out:=[]) (leaves p s p.qB.length []) qj qj
  unfold xh;omega
section
variable {ch : yLL} {l m : List qZ} {row : yLI}
theorem inTo_ge:∀ (k:Nat) {m:List qZ} {row:yLI},inTo p t ch l k=some (m,row)→l.length≤m.length
  | 0,m,row,h=>by
    rw [inTo] at h
    obtain ⟨rfl,rfl⟩:=Prod.mk.inj (Option.some.inj h)
    exact Nat.le_refl _
  | k+1,m,row,h=>by
    cases e:inTo p t ch l k with
    | none=>rw [inTo,e] at h;cases h
    | some x=>
      obtain ⟨m0,r0⟩:=x
      have ih:=inTo_ge k e
      rw [inTo,e] at h
      simp only at h
      split at h
      · split at h
        · obtain ⟨rfl,rfl⟩:=Prod.mk.inj (Option.some.inj h)
          exact ih
        · split at h
          · obtain ⟨rfl,rfl⟩:=Prod.mk.inj (Option.some.inj h)
            simp;omega
          · cases h
      · cases h
theorem inTo_pre:∀ (k:Nat) {m:List qZ} {row:yLI},inTo p t ch l k=some (m,row)→∀ j,j < l.length→m[j]! =l[j]!
  | 0,m,row,h,j,_=>by
    rw [inTo] at h
    obtain ⟨rfl,rfl⟩:=Prod.mk.inj (Option.some.inj h)
    rfl
  | k+1,m,row,h,j,hj=>by
    cases e:inTo p t ch l k with
    | none=>rw [inTo,e] at h;cases h
    | some x=>
      obtain ⟨m0,r0⟩:=x
      have ih:=inTo_pre k e j hj
      rw [inTo,e] at h
      simp only at h
      split at h
      · split at h
        · obtain ⟨rfl,rfl⟩:=Prod.mk.inj (Option.some.inj h)
          exact ih
        · split at h
          · obtain ⟨rfl,rfl⟩:=Prod.mk.inj (Option.some.inj h)
            by_cases hm:j < m0.length
            · rw [← ih]
              simp only [List.getElem!_eq_getElem?_getD]
              rw [List.getElem?_append_left hm]
            · exfalso
              have h1:=inTo_ge k e
              omega
          · cases h
      · cases h
theorem inTo_ok:∀ (k:Nat) {m:List qZ} {row:yLI},(∀ j,j < l.length→xG p (l[j]!))→inTo p t ch l k=some (m,row)→∀ j,j < m.length→xG p (m[j]!)
  | 0,m,row,hl,h,j,hj=>by
    rw [inTo] at h
    obtain ⟨rfl,rfl⟩:=Prod.mk.inj (Option.some.inj h)
    exact hl j hj
  | k+1,m,row,hl,h,j,hj=>by
    cases e:inTo p t ch l k with
    | none=>rw [inTo,e] at h;cases h
    | some x=>
      obtain ⟨m0,r0⟩:=x
      have ih:=inTo_ok k hl e
      rw [inTo,e] at h
      simp only at h
      split at h
      · rename_i hs
        split at h
        · obtain ⟨rfl,rfl⟩:=Prod.mk.inj (Option.some.inj h)
          exact ih j hj
        · split at h
          · obtain ⟨rfl,rfl⟩:=Prod.mk.inj (Option.some.inj h)
            by_cases hm:j < m0.length
            · have:=ih j hm
              simp only [List.getElem!_eq_getElem?_getD] at this ⊢
              rwa [List.getElem?_append_left hm]
            · have:j=m0.length:=by simp at hj;omega
              subst this
              simpa [List.getElem!_eq_getElem?_getD] using hs
          · cases h
      · cases h
end
theorem outTo_ok (hs:xG p s):∀ (i:Nat) {l:List qZ} {nx:yLL},yV p s mode i=some (l,nx)→∀ j,j < l.length→xG p (l[j]!)
  | 0,l,nx,h,j,hj=>by
    rw [yV] at h
    obtain ⟨rfl,rfl⟩:=Prod.mk.inj (Option.some.inj h)
    simp at hj;subst hj;exact hs
  | i+1,l,nx,h,j,hj=>by
    cases e:yV p s mode i with
    | none=>rw [yV,e] at h;cases h
    | some x=>
      obtain ⟨l0,n0⟩:=x
      have ih:=outTo_ok hs i e
      rw [yV,e] at h
      simp only at h
      split at h
      · split at h
        · split at h
          · cases h
          · rename_i m row hin
            obtain ⟨rfl,rfl⟩:=Prod.mk.inj (Option.some.inj h)
            exact inTo_ok _ ih hin j hj
        · cases h
      · obtain ⟨rfl,rfl⟩:=Prod.mk.inj (Option.some.inj h)
        exact ih j hj
theorem pstep_is (h:(xk p s cs).2=0):xG p (vH p s cs)∧(xk p s cs).1=vH p s cs:=by
  by_cases e:xG p (vH p s cs)
  · exact ⟨e,by rw [pstep_yes e]⟩
  · rw [pstep_no e] at h;cases h
theorem pstep_bad (h:(xk p s cs).2≠0):¬ xG p (vH p s cs)∧(xk p s cs).2=3:=by
  by_cases e:xG p (vH p s cs)
  · rw [pstep_yes e] at h;exact absurd rfl h
  · exact ⟨e,by rw [pstep_no e]⟩
theorem sigma_zero (f:Nat→Int):∀ n,(∀ m,m < n→f m=0)→sigma f n=0
  | 0,_=>rfl
  | n+1,h=>by rw [sigma,sigma_zero f n fun m hm=>h m qg,h n qg];rfl
theorem zeros_get (n m:Nat):(List.replicate n (0:Int))[m]! =0:=by
  by_cases h:m < n
  · rw [getElem!_pos _ m (by simpa using h)];simp
  · rw [getElem!_neg _ m (by simpa using h)];rfl
theorem step_none (hp:zi p) (hs:xG p s):vH p s (List.replicate p.qB.length (0:Int))=s:=by
  have hc:Cnts1 p (List.replicate p.qB.length (0:Int)):=⟨by simp,fun i hi=>by rw [zeros_get];omega⟩
  have B:=cg_PB hp hs hc true (List.replicate p.qB.length (0:Int)).length (Nat.le_refl _)
  have val:∀ {pl k:Nat},pl≤p.qC.length→k < pK p→((zD p s true (List.replicate p.qB.length (0:Int)) (List.replicate p.qB.length (0:Int)).length)[pl]!)[k]! =(jT s)[pl * pK p+k]! :=fun hpl hk=>by
    rw [cg_put_at hp hs hc hpl hk _ (Nat.le_refl _),pgN,lfN,sigma_zero _ _ fun m _=>by rw [zeros_get,Int.mul_zero],sigma_zero _ _ fun m _=>by rw [zeros_get,Int.mul_zero]]
    omega
  have e1:csTo p.qC.length (zD p s true (List.replicate p.qB.length (0:Int)) (List.replicate p.qB.length (0:Int)).length) (p.qC.length+1)=s.qG:=by
    unfold csTo
    rw [show min (p.qC.length+1) p.qC.length=p.qC.length by omega]
    refine pext (by rw [List.length_take,B.1,hs.1];omega) fun c hcl=>?_
    have hcl' :c < p.qC.length:=by rw [List.length_take,B.1] at hcl;omega
    have hb:=jF hp.1 (hs.2.2.1 c (by rw [hs.1];exact hcl'))
    have e0:((zD p s true (List.replicate p.qB.length (0:Int)) (List.replicate p.qB.length (0:Int)).length).take p.qC.length)[c]! =(zD p s true (List.replicate p.qB.length (0:Int)) (List.replicate p.qB.length (0:Int)).length)[c]! :=by
      simp only [List.getElem!_eq_getElem?_getD]
      rw [List.getElem?_take_of_lt hcl']
    rw [e0]
    refine pext (by rw [(B.2 c qg).1,hb]) fun k hk=>?_
    rw [(B.2 c qg).1] at hk
    rw [val qg hk,flat_cell hp.1 hs hcl' hk]
  have e2:arTo p.qC.length (zD p s true (List.replicate p.qB.length (0:Int)) (List.replicate p.qB.length (0:Int)).length) (p.qC.length+1)=s.qF:=by
    unfold arTo
    rw [if_neg qg]
    have hb:=jF hp.1 hs.2.1
    refine pext (by rw [(B.2 _ (Nat.le_refl _)).1,hb]) fun k hk=>?_
    rw [(B.2 _ (Nat.le_refl _)).1] at hk
    rw [val (Nat.le_refl _) hk,flat_around hp.1 hs]
  unfold vH
  rw [e1,e2]
theorem pstep_none (hp:zi p) (hs:xG p s):xk p s (List.replicate p.qB.length (0:Int))=(s,0):=by
  rw [pstep_yes (by rw [step_none hp hs];exact hs),step_none hp hs]
theorem chr_mem (hp:zi p) (hs:xG p s) (h:(zJ p s mode).2=0) {k:Nat} (hk:k < (zJ p s mode).1.length):Cnts1 p ((zJ p s mode).1[k]!):=by
  have e:=(ch_ok h).2
  rw [e] at hk ⊢
  exact pch_cnts1 hp hs (pch_mem hp hs hk)
theorem chr_len (h:(zJ p s mode).2=0):(zJ p s mode).1.length≤1501:=by rw [(ch_ok h).2];exact pch_len p s mode
theorem find_not {l:List qZ} {t:qZ} {i:Nat} (h:noneTo (fun zz=>decide (l[zz]! =t)) i) (hi:i=l.length):findS l t= -1:=by
  subst hi;exact firstIdx_none h
theorem find_at {l:List qZ} {t:qZ} {i:Nat} (h:noneTo (fun zz=>decide (l[zz]! =t)) i) (hi:i < l.length) (e:l[i]! =t):findS l t=i:=firstIdx_some hi h (decide_eq_true e)
noncomputable def ve (p:qW) (s:qZ) (mode:Int):List qZ×yLL×Int:=
  if jc p s mode=0 then (match pGraph p s mode with | some (l,nx)=>(l,nx,0) | none=>([],[],3)) else ([],[],jc p s mode)
theorem pg_code (h:jc p s mode≠0):ve p s mode=([],[],jc p s mode):=if_neg h
theorem pg_ok {l:List qZ} {nx:yLL} (h:jc p s mode=0) (hg:pGraph p s mode=some (l,nx)):ve p s mode=(l,nx,0):=by
  unfold ve;rw [if_pos h,hg]
theorem pg_no (h:jc p s mode=0) (hg:pGraph p s mode=none):ve p s mode=([],[],3):=by
  unfold ve;rw [if_pos h,hg]
def PutTo (n:Int) (l out:yLI) (done:Bool) (i:Nat):Prop:=out.length≤i+(if done=true then 1 else 0)∧(if done=true then out++l.drop i else out++putL n (l.drop i))=putL n l
theorem drop_at {l:yLI} {i:Nat} (h:i < l.length):l.drop i=l[i]! :: l.drop (i+1):=by
  rw [getElem!_pos l i h];exact List.drop_eq_getElem_cons h
theorem PutTo.zero (n:Int) (l:yLI):PutTo n l [] false 0:=⟨by simp,by simp⟩
theorem PutTo.on {n:Int} {l out:yLI} {done:Bool} {i:Nat} (h:PutTo n l out done i) (hd:done=true) (hi:i < l.length):PutTo n l (out++[l[i]!]) done (i+1):=by
  subst hd
  have h1:=h.1
  have h2:=h.2
  rw [if_pos rfl] at h1 h2
  refine ⟨by rw [if_pos rfl];simp;omega,?_⟩
  rw [if_pos rfl,← h2,drop_at hi,List.append_assoc];rfl
theorem PutTo.less {n:Int} {l out:yLI} {done:Bool} {i:Nat} (h:PutTo n l out done i) (hd:done=false) (hi:i < l.length) (h3:¬ l[i]! ≥n):PutTo n l (out++[l[i]!]) done (i+1):=by
  subst hd
  have h1:=h.1
  have h2:=h.2
  rw [if_neg qj] at h1 h2
  refine ⟨by rw [if_neg qj];simp;omega,?_⟩
  rw [if_neg qj,← h2,drop_at hi,putL,if_pos qg,List.append_assoc];rfl
theorem PutTo.same {n:Int} {l out:yLI} {done:Bool} {i:Nat} (h:PutTo n l out done i) (hd:done=false) (hi:i < l.length) (h3:l[i]! ≥n) (h4:¬ l[i]! > n):PutTo n l (out++[l[i]!]) true (i+1):=by
  subst hd
  have h1:=h.1
  have h2:=h.2
  rw [if_neg qj] at h1 h2
  refine ⟨by rw [if_pos rfl];simp;omega,?_⟩
  rw [if_pos rfl,← h2,drop_at hi,putL,if_neg qg,if_pos qg,List.append_assoc];rfl
theorem PutTo.more {n:Int} {l out:yLI} {done:Bool} {i:Nat} (h:PutTo n l out done i) (hd:done=false) (hi:i < l.length) (h4:l[i]! > n):PutTo n l (out++[n]++[l[i]!]) true (i+1):=by
  subst hd
  have h1:=h.1
  have h2:=h.2
  rw [if_neg qj] at h1 h2
  refine ⟨by rw [if_pos rfl];simp;omega,?_⟩
  rw [if_pos rfl,← h2,drop_at hi,putL,if_neg qg,if_neg qg,List.append_assoc,List.append_assoc];rfl
theorem PutTo.bd {n:Int} {l out:yLI} {done:Bool} {i:Nat} (h:PutTo n l out done i):out.length≤i+1:=by
  have:=h.1
  split at this <;> omega
theorem PutTo.yes {n:Int} {l out:yLI} {done:Bool} {i:Nat} (h:PutTo n l out done i) (hd:done=true) (hi:i=l.length):out=putL n l:=by
  subst hd
  have h2:=h.2
  rw [if_pos rfl,hi,List.drop_length,List.append_nil] at h2
  exact h2
theorem PutTo.no {n:Int} {l out:yLI} {done:Bool} {i:Nat} (h:PutTo n l out done i) (hd:done=false) (hi:i=l.length):out++[n]=putL n l:=by
  subst hd
  have h2:=h.2
  rw [if_neg qj,hi,List.drop_length,putL] at h2
  exact h2
end
section
open Go.RowKit
theorem St.rowel_StockD {W0 w:World} {ps:List Prv} {Γ:List Fact} (H:St W0 w ps Γ) (k:Nat) {b c:Nat} {e:TypeId} {nn:Nat} {xs:List Value} (hp:ps[k]? =some (.row (.slice (some ⟨b,0,none⟩) nn c) e 2 nn xs)) (j:Nat) {fr:Bool} {F:yLN} {l:List qZ}
    (hf:Γ[j]? =some (xW fr F xs l)) {iv:Int} (i:Nat) (h:iv.toNat=i) (h1:i < nn):
    ∃ (aA:yOA) (cA:Nat) (FA:yLN) (aB:yOA) (cB:Nat) (FB:yLN),
      (∀ (q:Nat) (v:Value),([.slice aA ((l[i]!).qG.length) cA,.slice aB ((l[i]!).qF.length) cB]:List Value)[q]? =some v→xs[0+iv.toNat * 2+q]? =some v)∧
      St W0 w ps (isF fr FA (.slice aA ((l[i]!).qG.length) cA) ((l[i]!).qG) :: isF fr FB (.slice aB ((l[i]!).qF.length) cB) ((l[i]!).qF) :: Γ):=by
  obtain ⟨cs,G,hc,hr,hsub,hfr,v1,v2,hv,hv1⟩:=St.rowElem (α:=qZ) H k hp j hf qj h h1
  obtain ⟨vA,vB,FA,FB,rfl,hFF,hA,hB⟩:=id hr
  obtain ⟨aA,cA,rfl⟩:=slice_form hA
  obtain ⟨aB,cB,rfl⟩:=slice_form hB
  refine ⟨aA,cA,FA,aB,cB,FB,fun q v hq=>?_,?_⟩
  · have hv1:v1.length=i * 2:=hv1
    have hlt:q < 2:=by
      rcases Nat.lt_or_ge q 2 with h | h
      · exact h
      · rw [List.getElem?_eq_none (by simpa using h)] at hq;cases hq
    rw [hv,List.append_assoc,Nat.zero_add,h,← hv1,List.getElem?_append_right qg,Nat.add_sub_cancel_left,List.getElem?_append_left (by simpa using hlt)]
    exact hq
  · have s2:=H.yj j hf (isF fr FB (.slice aB ((l[i]!).qF.length) cB) ((l[i]!).qF)) ⟨hB,fun e=>(hfr e).sub (by rw [hFF];intro x hx;simp [hx])⟩ (fun x hx=>hsub x (by rw [hFF];have hx:x∈FB:=hx;simp [hx]))
    exact s2.yj (j+1) hf (isF fr FA (.slice aA ((l[i]!).qG.length) cA) ((l[i]!).qG)) ⟨hA,fun e=>(hfr e).sub (by rw [hFF];intro x hx;simp [hx])⟩ (fun x hx=>hsub x (by rw [hFF];have hx:x∈FA:=hx;simp [hx]))
theorem rep_at {α:Type} [qV α] {w:World} {G:yLN} {a:yOA} {n m c:Nat} {l:List α} (h:n=m) (k:qV.rep w G [.slice a n c] l):qV.rep w G [.slice a m c] l:=h▸k
theorem ret3 {P:Program} {n:Nat} {ρ:Env} {w:World} {fn:Func} {R:Ending→World→Prop} {t u z:Nat} (v x y:Value) (hr:fn.results=#[.tmp t,.tmp u,.tmp z]) (hv:ev n ρ (.tmp t)=v) (hx:ev n ρ (.tmp u)=x) (hy:ev n ρ (.tmp z)=y) (h:R (.returned (.tuple #[v,x,y])) w):bodyPost P fn R .ret (mk n ρ) w:=by
  refine bodyPost_ret (results_tmp3 hr _ _ _) rfl ?_
  have e:=congrFun (yX n ρ) (.tmp t)
  have e' :=congrFun (yX n ρ) (.tmp u)
  have e'' :=congrFun (yX n ρ) (.tmp z)
  simp only [Act.eval] at e e' e''
  rw [e,hv,e',hx,e'',hy]
  exact h
section
variable {P : Program} {Q : Exit → Act → World → Prop} {n : Nat} {ρ : Env} {w : World}
theorem enterD {f:FuncId} {fn:Func} {c:Code} {args:Array Value} {R:Ending→World→Prop}
    (hf:P.funcs[f]? =some fn) (hb:fn.body=some c) (hn:fn.ntmps=n) (hs:args.size≤n)
    (h:c.wp P (bodyPostD P fn R) (@mk dfr0 n (env0 args.toList)) w):Calls P f args w R:=by
  refine calls_of_wp_defers hf hb ?_
  have e:({ tmps:=args++Array.replicate (fn.ntmps - args.size) undef,defers:=[]}:Act)=@mk dfr0 n (env0 args.toList):=by
    simp only [mk,Act.mk.injEq]
    refine ⟨?_,rfl⟩
    apply Array.ext
    · simp [hn];omega
    · intro i h1 h2
      simp only [Array.getElem_ofFn,env0]
      by_cases hi:i < args.size
      · rw [Array.getElem_append_left hi]
        simp [List.getD_eq_getElem?_getD,hi]
      · rw [Array.getElem_append_right qg]
        simp [List.getD_eq_getElem?_getD,Array.getElem?_eq_none (show args.size≤i by omega)]
  rw [e]
  exact h
theorem enterD' {f:FuncId} {fn:Func} {c:Code} {args:Array Value} {R:Ending→World→Prop} {u:FrameMode}
    (hf:P.funcs[f]? =some fn) (hb:fn.body=some c) (hn:fn.ntmps=n) (hs:args.size≤n)
    (h:c.wp P (bodyPost P fn R) (@mk dfr0 n (env0 args.toList)) w):CallsD P f args u w fun e u' w' =>u' =u∧R e w' :=by
  refine callsD_of_wp hf hb ?_
  have e:({ tmps:=args++Array.replicate (fn.ntmps - args.size) undef,defers:=[]}:Act)=@mk dfr0 n (env0 args.toList):=by
    simp only [mk,Act.mk.injEq]
    refine ⟨?_,rfl⟩
    apply Array.ext
    · simp [hn];omega
    · intro i h1 h2
      simp only [Array.getElem_ofFn,env0]
      by_cases hi:i < args.size
      · rw [Array.getElem_append_left hi]
        simp [List.getD_eq_getElem?_getD,hi]
      · rw [Array.getElem_append_right qg]
        simp [List.getD_eq_getElem?_getD,Array.getElem?_eq_none (show args.size≤i by omega)]
  rw [e]
  exact h
theorem sw_defer {ops:Array Oper} {rest:List Oper} {x:Operand} {g:FuncId} {cap:Array Value} {ty:TypeId} {pos:String} {af:Array Edge} (hx:ev n ρ x=.func (.func g) #[] cap)
    (h:@WL ⟨[{ target:=.fn (.func g) cap,args:=#[]}]⟩ P ops Q n rest ρ w):
    @WL dfr0 P ops Q n (⟨none,.defer { callee:=.value x,args:=#[],argTypes:=#[]},ty,pos,af,none⟩ :: rest) ρ w:=by
  refine WL.of (wpList_plain rfl fun K hK=>?_)
  unfold Oper.wp
  rw [@yX dfr0 n ρ]
  have e:(execOp (ev n ρ) ⟨none,.defer { callee:=.value x,args:=#[],argTypes:=#[]},ty,pos,af,none⟩).run P w=.ok (.defer { target:=.fn (.func g) cap,args:=#[]}) w:=by
    simp [execOp,resolve,hx,Deferred.ofValue]
  rw [e]
  exact hK _ _ (@WL.out P ops Q n ρ w ⟨[{ target:=.fn (.func g) cap,args:=#[]}]⟩ rest h)
theorem sw_deferI {ops:Array Oper} {rest:List Oper} {x:Operand} {g:FuncId} {cap:Array Value} {ty:TypeId} {pos:String} {af:Array Edge} (hx:ev n ρ x=.func (.func g) #[] cap)
    (h:∀ D1:Dfr,D1.D=[{ target:=.fn (.func g) cap,args:=#[]}]→@WL D1 P ops Q n rest ρ w):
    @WL dfr0 P ops Q n (⟨none,.defer { callee:=.value x,args:=#[],argTypes:=#[]},ty,pos,af,none⟩ :: rest) ρ w:=sw_defer hx (h _ rfl)
theorem retD0 {fn:Func} {R:Ending→World→Prop} {t:Nat} (v:Value) (hr:fn.results=#[.tmp t]) (hv:ev n ρ (.tmp t)=v) (h:R (.returned v) w):bodyPostD P fn R .ret (@mk dfr0 n ρ) w:=by
  have e:=congrFun (@yX dfr0 n ρ) (.tmp t)
  rw [hv] at e
  refine ⟨_,results_tmp hr _ _ _,?_⟩
  simp only [Act.eval] at e
  rw [e]
  exact h
theorem retD1 {D1:Dfr} {fn fg:Func} {R:Ending→World→Prop} {t m:Nat} {g:FuncId} {cg:Code} {cap:Array Value} (hD:D1.D=[{ target:=.fn (.func g) cap,args:=#[]}]) (v:Value) (hr:fn.results=#[.tmp t]) (hv:ev n ρ (.tmp t)=v)
    (hf:∀ args w,(callFunc g args).run P w=.ok (.enter g args) w) (hg:P.funcs[g]? =some fg) (hb:fg.body=some cg) (hn:fg.ntmps=m) (hs:cap.size≤m)
    (h:cg.wp P (bodyPost P fg fun e w' =>e=.returned (.tuple #[])∧R (.returned v) w') (@mk dfr0 m (env0 cap.toList)) w):bodyPostD P fn R .ret (@mk D1 n ρ) w:=by
  have e:=congrFun (@yX D1 n ρ) (.tmp t)
  rw [hv] at e
  simp only [Act.eval] at e
  show Leaves P fn (@mk D1 n ρ).tmps R D1.D .returning w
  rw [hD]
  refine leaves_cons qo (by simp [invoke,hf]) ((enterD' hg hb hn hs h).mono ?_)
  rintro e1 u' w' ⟨rfl,rfl,hR⟩
  refine ⟨_,results_tmp hr _ _ _,?_⟩
  rw [e]
  exact hR
end
theorem o_mid [Dfr] {α:Type} [qV α] {P:Program} {Q:Exit→Act→World→Prop} {n:Nat} {ρ:Env} {W w:World} {d:Nat} {ty:TypeId} {pos:String} {af:Array Edge} {K:Env→World→Prop} {ps:List Prv} {Γ:List Fact}
    {x y z:Operand} {t e:TypeId} {v0:Value} {by' :Nat} {fr:Bool} {F:yLN} {a:yOA} {m c:Nat} {l:List α} (H:St W w ps Γ) (i:Nat) (hf:Γ[i]? =some (isF fr F (.slice a m c) l)) (lo hi:Nat) {iv jv:Int}
    (hu:P.underlying t=some (.slice e)) (he:TI P e v0 (qV.size α) by') (hx:ev n ρ x=.slice a m c) (hy:ev n ρ y=.int .i64 iv) (hz:ev n ρ z=.int .i64 jv) (hv:iv=lo) (hv2:jv=hi) (hk:lo≤hi) (hk2:hi≤l.length)
    (k:∀ a' G,(∀ b∈G,b∈F)→St W w ps (isF fr G (.slice a' ((l.drop lo).take (hi - lo)).length (c - lo)) ((l.drop lo).take (hi - lo)) :: Γ)→K (upd ρ d (.slice a' ((l.drop lo).take (hi - lo)).length (c - lo))) w):
    OW P Q ⟨some d,.slice t x (some y) (some z) none,ty,pos,af,none⟩ n ρ w K:=by
  subst hv hv2
  obtain ⟨⟨a0,c0,hc,⟨hl,hcap⟩,h⟩,hfr⟩:=H.get i hf
  simp only [List.cons.injEq,Value.slice.injEq,and_true] at hc
  obtain ⟨rfl,rfl,rfl⟩:=hc
  have hrun:(execOp (ev n ρ) ⟨some d,.slice t x (some y) (some z) none,ty,pos,af,none⟩).run P w=
      .ok (.value (.slice (if c=lo then a else a.map (·.add (lo * qV.size α))) (hi - lo) (c - lo))) w:=by
    simp [execOp,hx,hy,hz,Instr.sliceAt,Instr.slice,Instr.sliceBounds,Instr.sliceBound,asIntOf,run_underlying hu,he.sizeOf,show hi≤c by omega,show lo≤hi by omega]
  have hlen:((l.drop lo).take (hi - lo)).length=hi - lo:=by rw [List.length_take,List.length_drop];omega
  have hlc:((l.drop lo).take (hi - lo)).length≤9223372036854775807∧((l.drop lo).take (hi - lo)).length≤c - lo:=by rw [hlen];omega
  refine o_val _ hrun ?_
  rcases h with ⟨h0,hF⟩ | ⟨b,off,F',vs,ha,hF,hb,hr,hcells⟩
  · have:=k (if c=lo then a else a.map (·.add (lo * qV.size α))) [] qo (H.add _ ⟨⟨_,_,rfl,hlc,Or.inl ⟨by simp [h0],rfl⟩⟩,fun _=>zx.nil _⟩ (by simp [isF]))
    rwa [hlen] at this
  · subst ha
    by_cases hcl:c=lo
    · have e0:(l.drop lo).take (hi - lo)=[]:=List.eq_nil_of_length_eq_zero (by rw [hlen];omega)
      have:=k (if c=lo then some ⟨b,off,none⟩ else (some (⟨b,off,none⟩:Addr)).map (·.add (lo * qV.size α))) [] qo (H.add _ ⟨⟨_,_,rfl,hlc,Or.inl ⟨e0,rfl⟩⟩,fun _=>zx.nil _⟩ (by simp [isF]))
      rwa [hlen] at this
    · rw [← List.take_append_drop lo l] at hr
      obtain ⟨F1,F2,v1,v2,e1,e2,r1,r2⟩:=reps_split _ hr
      rw [← List.take_append_drop (hi - lo) (l.drop lo)] at r2
      obtain ⟨F3,F4,v3,v4,e3,e4,r3,r4⟩:=reps_split _ r2
      have hsub:∀ z∈b :: F3,z∈F:=by
        intro z hz
        rw [hF,e1,e3]
        simp only [List.mem_cons,List.mem_append] at hz ⊢
        rcases hz with h | h <;> simp [h]
      have hv1:v1.length=lo * qV.size α:=by rw [reps_len r1,List.length_take_of_le qg]
      have hadr:(if c=lo then some ⟨b,off,none⟩ else (some (⟨b,off,none⟩:Addr)).map (·.add (lo * qV.size α)))=some ⟨b,off+lo * qV.size α,none⟩:=by
        rw [if_neg hcl];simp [Addr.add_mid]
      rw [hadr]
      have:=k (some ⟨b,off+lo * qV.size α,none⟩) (b :: F3) hsub (H.yj i hf _ ⟨⟨_,_,rfl,hlc,Or.inr ⟨b,off+lo * qV.size α,F3,v3,rfl,rfl,hb,r3,?_⟩⟩,fun e=>(hfr e).sub hsub⟩ hsub)
      · rwa [hlen] at this
      · intro j v hv
        have:=hcells (lo * qV.size α+j) v (by
          obtain ⟨hj,_⟩:=List.getElem?_eq_some_iff.1 hv
          rw [e2,e4,List.getElem?_append_right qg,hv1,Nat.add_sub_cancel_left,List.getElem?_append_left hj]
          exact hv)
        rwa [← Nat.add_assoc] at this
theorem o_fromV [Dfr] {α:Type} [qV α] {P:Program} {Q:Exit→Act→World→Prop} {n:Nat} {ρ:Env} {W w:World} {d:Nat} {ty:TypeId} {pos:String} {af:Array Edge} {K:Env→World→Prop} {ps:List Prv} {Γ:List Fact}
    {x y:Operand} {t e:TypeId} {v0:Value} {by' :Nat} {fr:Bool} {F:yLN} {a:yOA} {m c:Nat} {l:List α} (H:St W w ps Γ) (i:Nat) (hf:Γ[i]? =some (isF fr F (.slice a m c) l)) (lo:Nat) {iv:Int}
    (hu:P.underlying t=some (.slice e)) (he:TI P e v0 (qV.size α) by') (hx:ev n ρ x=.slice a m c) (hy:ev n ρ y=.int .i64 iv) (hv:iv=lo) (hk:lo≤l.length)
    (k:∀ a' G,(∀ b∈G,b∈F)→St W w ps (isF fr G (.slice a' (l.drop lo).length (c - lo)) (l.drop lo) :: Γ)→K (upd ρ d (.slice a' (l.drop lo).length (c - lo))) w):
    OW P Q ⟨some d,.slice t x (some y) none none,ty,pos,af,none⟩ n ρ w K:=by
  subst hv
  obtain ⟨hi,hhi⟩:∃ z,z=l.length:=⟨_,rfl⟩
  obtain ⟨⟨a0,c0,hc,⟨hl,hcap⟩,h⟩,hfr⟩:=H.get i hf
  simp only [List.cons.injEq,Value.slice.injEq,and_true] at hc
  obtain ⟨rfl,rfl,rfl⟩:=hc
  have hrun:(execOp (ev n ρ) ⟨some d,.slice t x (some y) none none,ty,pos,af,none⟩).run P w=
      .ok (.value (.slice (if c=lo then a else a.map (·.add (lo * qV.size α))) (hi - lo) (c - lo))) w:=by
    rw [hhi]
    simp [execOp,hx,hy,Instr.sliceAt,Instr.slice,Instr.sliceBounds,Instr.sliceBound,asIntOf,run_underlying hu,he.sizeOf,show l.length≤c by omega,show lo≤l.length by omega]
  have hlen:(l.drop lo).length=hi - lo:=by rw [List.length_drop,hhi]
  have hlc:(l.drop lo).length≤9223372036854775807∧(l.drop lo).length≤c - lo:=by rw [hlen];omega
  refine o_val _ hrun ?_
  rcases h with ⟨h0,hF⟩ | ⟨b,off,F',vs,ha,hF,hb,hr,hcells⟩
  · have:=k (if c=lo then a else a.map (·.add (lo * qV.size α))) [] qo (H.add _ ⟨⟨_,_,rfl,hlc,Or.inl ⟨by simp [h0],rfl⟩⟩,fun _=>zx.nil _⟩ (by simp [isF]))
    rwa [hlen] at this
  · subst ha
    by_cases hcl:c=lo
    · have e0:(l.drop lo)=[]:=List.eq_nil_of_length_eq_zero (by rw [hlen];omega)
      have:=k (if c=lo then some ⟨b,off,none⟩ else (some (⟨b,off,none⟩:Addr)).map (·.add (lo * qV.size α))) [] qo (H.add _ ⟨⟨_,_,rfl,hlc,Or.inl ⟨e0,rfl⟩⟩,fun _=>zx.nil _⟩ (by simp [isF]))
      rwa [hlen] at this
    · rw [← List.take_append_drop lo l] at hr
      obtain ⟨F1,F2,v1,v2,e1,e2,r1,r2⟩:=reps_split _ hr
      obtain ⟨F3,v3,e3,e4,r3⟩:∃ F3 v3,F2=F3∧v2=v3∧reps w F3 v3 (l.drop lo):=⟨_,_,rfl,rfl,r2⟩
      have hsub:∀ z∈b :: F3,z∈F:=by
        intro z hz
        rw [hF,e1,e3]
        simp only [List.mem_cons,List.mem_append] at hz ⊢
        rcases hz with h | h <;> simp [h]
      have hv1:v1.length=lo * qV.size α:=by rw [reps_len r1,List.length_take_of_le qg]
      have hadr:(if c=lo then some ⟨b,off,none⟩ else (some (⟨b,off,none⟩:Addr)).map (·.add (lo * qV.size α)))=some ⟨b,off+lo * qV.size α,none⟩:=by
        rw [if_neg hcl];simp [Addr.add_mid]
      rw [hadr]
      have:=k (some ⟨b,off+lo * qV.size α,none⟩) (b :: F3) hsub (H.yj i hf _ ⟨⟨_,_,rfl,hlc,Or.inr ⟨b,off+lo * qV.size α,F3,v3,rfl,rfl,hb,r3,?_⟩⟩,fun e=>(hfr e).sub hsub⟩ hsub)
      · rwa [hlen] at this
      · intro j v hv
        have:=hcells (lo * qV.size α+j) v (by
          obtain ⟨hj,_⟩:=List.getElem?_eq_some_iff.1 hv
          rw [e2,e4,List.getElem?_append_right qg,hv1,Nat.add_sub_cancel_left]
          exact hv)
        rwa [← Nat.add_assoc] at this
end
section
set_option linter.unusedVariables false
variable {p : qW} {s : qZ} {cs : yLI}
theorem mv_old {u v K k:Nat} {o:Nat→Prop} [DecidablePred o] {a b:yLI} {t:Int} {f:yLI} (h1:u+K≤f.length) (h2:v+K≤f.length) (h3:u+K≤v∨v+K≤u) (hk:k < K):
    (mvTo u v o a b t f k)[u+k]! =f[u+k]! ∧(mvTo u v o a b t f k)[v+k]! =f[v+k]! :=by
  rw [mvTo_get u v o a b t h1 h2 h3 _ k qg,mvTo_get u v o a b t h1 h2 h3 _ k qg,mvJ,mvJ]
  rw [yU _ _ _ _ _ qg,yU _ _ _ _ _ qg,yU _ _ _ _ _ qg,yU _ _ _ _ _ qg]
  simp
section
variable {r : xM} {own k : Nat} {f : yLI} {o : Nat → Prop} [DecidablePred o] {t : Int}
structure GvAt (p:qW) (r:xM) (own:Nat) (f g:yLI) (t:Int) (k:Nat):Prop where
  len:g.length=f.length
  low:g[own+k]! =f[own+k]!
  high:∀ v,(g.set (own+k) v)[pAt p r.qE+k]! =f[pAt p r.qE+k]!
  lt1:own+k < f.length
  lt2:pAt p r.qE+k < f.length
  m1:0≤r.fIn[k]! * t∧r.fIn[k]! * t≤1000000
  m2:0≤r.qU[k]! * t∧r.qU[k]! * t≤1000000
theorem GvAt.of (hp:PFrame p) (hr:yQ p r) (G:TkGeo p r own f) (ht:0≤t∧t≤1000) (hk:k < pK p):GvAt p r own f (mvTo own (pAt p r.qE) o r.fIn r.qU t f k) t k:=by
  obtain ⟨e1,e2⟩:=mv_old (o:=o) (a:=r.fIn) (b:=r.qU) (t:=t) G.low G.high G.apart hk
  have h1:=G.low
  have h2:=G.high
  have h3:=G.apart
  have hl:=mvTo_len own (pAt p r.qE) o r.fIn r.qU t f k
  exact ⟨hl,e1,fun v=>by rw [pset _ _ _ _ qg,if_neg qg,e2],by omega,by omega,prod_bd (hr.2.2.1.1.1 k (by rw [jF hp hr.2.2.1];exact hk)) ht,prod_bd (hr.2.1.1.1 k (by rw [jF hp hr.2.1];exact hk)) ht⟩
theorem gv_closed (h:¬ o k):(mvTo own (pAt p r.qE) o r.fIn r.qU t f k).set (own+k) ((mvTo own (pAt p r.qE) o r.fIn r.qU t f k)[own+k]! +r.fIn[k]! * t)=mvTo own (pAt p r.qE) o r.fIn r.qU t f (k+1):=by
  rw [mvTo,mvStep,if_neg h]
theorem gv_open (h:o k):((mvTo own (pAt p r.qE) o r.fIn r.qU t f k).set (own+k) ((mvTo own (pAt p r.qE) o r.fIn r.qU t f k)[own+k]! +r.fIn[k]! * t)).set (pAt p r.qE+k)
    (((mvTo own (pAt p r.qE) o r.fIn r.qU t f k).set (own+k) ((mvTo own (pAt p r.qE) o r.fIn r.qU t f k)[own+k]! +r.fIn[k]! * t))[pAt p r.qE+k]! +r.qU[k]! * t)=mvTo own (pAt p r.qE) o r.fIn r.qU t f (k+1):=by
  rw [mvTo,mvStep,if_pos h]
end
theorem gain_sum_bd (hp:zi p) (hc:cs.length≤p.qB.length) (hb:∀ i,i < cs.length→0≤cs[i]! ∧cs[i]! ≤1000) (j:Nat) {i:Nat} (hi:i≤cs.length):0≤sigma (fun m=>gain p (p.qB[m]!) j * cs[m]!) i∧sigma (fun m=>gain p (p.qB[m]!) j * cs[m]!) i≤i * 2000000:=by
  have h:=fun m (hm:m < i)=>gain_nonneg hp.1 (hp.2 m qg) j
  refine ⟨sigma_nonneg fun m hm=>Int.mul_nonneg (h m hm).1 (hb m qg).1,sigma_le fun m hm=>?_⟩
  have:=Int.mul_le_mul (h m hm).2 (hb m qg).2 (hb m qg).1 (by omega:(0:Int)≤2000)
  omega
theorem gv_bd (hp:zi p) (hs:xG p s) (hc:Cnts p cs) (hf:Fits p s cs) {i:Nat} (hi:i≤cs.length) {j:Nat} (hj:j < (zh p (xF p s cs cs.length) cs i).length):
    0≤(zh p (xF p s cs cs.length) cs i)[j]! ∧(zh p (xF p s cs cs.length) cs i)[j]! ≤1000+i * 2000000:=by
  have hl:=hc.1
  rw [gvFrom_len,jB] at hj
  have h1:=hf.bd hp hs hc (Nat.le_refl _) hj
  have h2:=gain_sum_bd hp hc.1 (fun i hi=>⟨hc.2 i hi,hf.le hp hs hc hi⟩) j hi
  rw [gvFrom_get hp (by rw [jB,yu hp.1 hs]) j i qg]
  omega
theorem chunk_at {f:yLI} {K i lo hi:Nat} (h1:lo=i * K) (h2:hi=i * K+K):(f.drop lo).take (hi - lo)=chunk f K i:=by
  subst h1 h2;unfold chunk;rw [Nat.add_sub_cancel_left]
theorem chunks_snoc (f:yLI) (K i:Nat):(List.range i).map (fun i=>chunk f K i)++[chunk f K i]=(List.range (i+1)).map (fun i=>chunk f K i):=by simp [List.range_succ]
end
section

class CntTot (α:Type) [Mark α] [Tot α]:Prop where
  le:∀ x:α,cnt x≤10+10 * tot x
instance:CntTot Int:=⟨fun _=>by show 1≤_;omega⟩
instance:CntTot Bool:=⟨fun _=>by show 1≤_;omega⟩
section
variable {α : Type} [Mark α] [Tot α] [Inhabited α] [CntTot α]
theorem cntTo_tot (l:List α):∀ k,cntTo l k≤10 * k+10 * totTo l k
  | 0=>Nat.zero_le _
  | k+1=>by
    have h1:=cntTo_tot l k
    have h2:=CntTot.le (l[k]!)
    rw [Qi,totTo_succ]
    omega
theorem cntL_tot (l:List α):cnt l≤10 * tot l:=by
  have:=cntTo_tot l l.length
  rw [cnt_list,tot_list]
  omega
instance:CntTot (List α):=⟨fun l=>by have:=cntL_tot l;omega⟩
end
instance:CntTot xM:=⟨fun x=>by
  have h1:=cntL_tot x.qU
  have h2:=cntL_tot x.fIn
  have h3:=tot_PassRuleD x
  have h4:=yF x
  omega⟩
theorem cnt_ints (l:yLI):cnt l=l.length:=by
  have:∀ k,cntTo l k=k:=fun k=>by
    induction k with
    | zero=>rfl
    | succ k ih=>rw [Qi,ih];rfl
  rw [cnt_list,this]
variable {p : qW} {s : qZ} {mode : Int}
theorem outTo_nx:∀ (i:Nat) {l:List qZ} {nx:yLL},yV p s mode i=some (l,nx)→nx.length≤l.length
  | 0,l,nx,h=>by
    rw [yV] at h
    obtain ⟨rfl,rfl⟩:=Prod.mk.inj (Option.some.inj h)
    simp
  | i+1,l,nx,h=>by
    cases e:yV p s mode i with
    | none=>rw [yV,e] at h;cases h
    | some x=>
      obtain ⟨l0,n0⟩:=x
      have ih:=outTo_nx i e
      have ol:=outTo_len i e
      rw [yV,e] at h
      simp only at h
      split at h
      · split at h
        · split at h
          · cases h
          · rename_i m row hin
            obtain ⟨rfl,rfl⟩:=Prod.mk.inj (Option.some.inj h)
            have h1:=inTo_ge _ hin
            have h2:=ol.2.2 qg
            simp;omega
        · cases h
      · obtain ⟨rfl,rfl⟩:=Prod.mk.inj (Option.some.inj h)
        exact ih
theorem outTo_all:∀ (i:Nat) {l:List qZ} {nx:yLL},yV p s mode i=some (l,nx)→i≤nx.length∨nx.length=l.length
  | 0,l,nx,h=>.inl (Nat.zero_le _)
  | i+1,l,nx,h=>by
    cases e:yV p s mode i with
    | none=>rw [yV,e] at h;cases h
    | some x=>
      obtain ⟨l0,n0⟩:=x
      have ih:=outTo_all i e
      have on:=outTo_nx i e
      have ol:=outTo_len i e
      rw [yV,e] at h
      simp only at h
      split at h
      · split at h
        · split at h
          · cases h
          · obtain ⟨rfl,rfl⟩:=Prod.mk.inj (Option.some.inj h)
            have h2:=ol.2.2 qg
            exact .inl qA
        · cases h
      · rename_i hi
        obtain ⟨rfl,rfl⟩:=Prod.mk.inj (Option.some.inj h)
        rcases ih with h1 | h1
        · exact .inr qg
        · exact .inr h1
theorem outTo_full {l:List qZ} {nx:yLL} (h:yV p s mode 200=some (l,nx)):l.length≤nx.length:=by
  have h1:=outTo_all 200 h
  have h2:=outTo_len 200 h
  omega
end
end Go.Proofs.YtkgdkfkgnodheaaGreat
