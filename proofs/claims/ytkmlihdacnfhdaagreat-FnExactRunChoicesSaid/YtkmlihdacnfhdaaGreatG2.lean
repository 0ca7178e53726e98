/- Walks, printed by program (wip/tools/gv.py): what each function comes to, for all arguments. -/
import Derived.Test.YtkmlihdacnfhdaaGreatG1
namespace Go.Proofs.YtkmlihdacnfhdaaGreat
open Go.Proofs.YtkmlihdacnfhdaaGreat.Tot (tot)
open Go.Proofs.YtkmlihdacnfhdaaGreat.Mark (cnt mrk mkd mkd_mark cnt_mark)
open Go.RowKit
set_option linter.unusedVariables false
set_option linter.unusedSimpArgs false
set_option maxRecDepth 100000
set_option maxHeartbeats 4000000

theorem ti4 : TI Tryz.prog 4 (.bool false) 1 1 := by unfold TI; kernel_rfl
theorem ti22 : TI Tryz.prog 22 (.slice none 0 0) 1 24 := by unfold TI; kernel_rfl
theorem ti36 : TI Tryz.prog 36 (.agg #[.int .i64 0, .slice none 0 0, .slice none 0 0]) 3 56 := by unfold TI; kernel_rfl
theorem ti38 : TI Tryz.prog 38 (.agg #[.slice none 0 0, .slice none 0 0, .slice none 0 0]) 3 72 := by unfold TI; kernel_rfl
theorem ti105 : TI Tryz.prog 105 (.agg #[.int .i64 0, .int .i64 0, .slice none 0 0, .slice none 0 0, .slice none 0 0, .slice none 0 0, .slice none 0 0, .slice none 0 0, .bool false]) 9 168 := by unfold TI; kernel_rfl
theorem ti110 : TI Tryz.prog 110 (.agg #[.int .i64 0, .int .i64 0, .slice none 0 0, .slice none 0 0, .slice none 0 0, .slice none 0 0, .slice none 0 0, .slice none 0 0, .bool false]) 9 168 := by unfold TI; kernel_rfl
theorem ti115 : TI Tryz.prog 115 (.agg #[.int .i64 0, .slice none 0 0]) 2 32 := by unfold TI; kernel_rfl
theorem ti167 : TI Tryz.prog 167 (.agg #[.int .i64 0, .slice none 0 0]) 2 32 := by unfold TI; kernel_rfl


theorem Xl (w : World) (x : List Int) (left : Int) (ax : Option Addr) (cx : Nat) (Fx : List Nat) (hx : qV.rep w Fx [.slice ax x.length cx] x) (p0 : 0 ≤ left ∧ left ≤ 2000000) : Calls Tryz.prog 38 #[.slice ax x.length cx, .int .i64 left] w (Ret (fun v w' => v = .int .i64 (szR (tot x) left)) w) := by
 refine enter (n := 12) Tryz.func38 rfl Tryz.ntmps38 (Nat.le_of_ble_eq_true rfl) ?_
 have H := (St.start w).arg hx
 have nhx := qN hx
 clear hx
 refine qm (qA ?_)
 refine sp (.int .i64 0) ?_
 refine qx (t_n (qm (qA ?_)))
 refine sps [.int .i64 left, .slice ax x.length cx] ?_
 refine sw (zX Tryz.underlying22 ax x.length cx rfl ?_)
 refine sw (o_sub left x.length rfl rfl (by omega) ?_)
 refine sp (.int .i64 (left - x.length)) ?_
 refine qx (t_n (qm (qm (qA ?_))))
 refine sps [.int .i64 (left - x.length), .bool (decide ((left - x.length : Int) < 0))] ?_
 refine qx (t_n ?_)
 refine qW (decide ((left - x.length : Int) < 0)) rfl (fun h1 => ?_) (fun h1 => ?_)
 ·skip
  replace h1 := of_decide_eq_true h1
  refine qm (qA ?_)
  refine sp (.int .i64 (-1)) ?_
  refine qx (t_n (xC (t_r ?_)))
  refine ret1 (.int .i64 (-1)) rfl rfl ⟨_, rfl, ?_, H.base⟩
  refine congrArg (Value.int .i64) ?_
  have := zx (tot x) left
  rw [tot_ints] at *
  try omega
 replace h1 := of_decide_eq_false h1
 refine xk (t_n (qm (qA ?_)))
 refine sps [.int .i64 (left - x.length), .int .i64 (left - x.length)] ?_
 refine qx (t_n (xC ?_))
 refine ret1 (.int .i64 (left - x.length)) rfl rfl ⟨_, rfl, ?_, H.base⟩
 refine congrArg (Value.int .i64) ?_
 have := zx (tot x) left
 rw [tot_ints] at *
 try omega

theorem szBoolS_ok (w : World) (x : List Bool) (left : Int) (ax : Option Addr) (cx : Nat) (Fx : List Nat) (hx : qV.rep w Fx [.slice ax x.length cx] x) (p0 : 0 ≤ left ∧ left ≤ 2000000) : Calls Tryz.prog 40 #[.slice ax x.length cx, .int .i64 left] w (Ret (fun v w' => v = .int .i64 (szR (tot x) left)) w) := by
 refine enter (n := 12) Tryz.func40 rfl Tryz.ntmps40 (Nat.le_of_ble_eq_true rfl) ?_
 have H := (St.start w).arg hx
 have nhx := qN hx
 clear hx
 refine qm (qA ?_)
 refine sp (.int .i64 0) ?_
 refine qx (t_n (qm (qA ?_)))
 refine sps [.int .i64 left, .slice ax x.length cx] ?_
 refine sw (zX Tryz.underlying26 ax x.length cx rfl ?_)
 refine sw (o_sub left x.length rfl rfl (by omega) ?_)
 refine sp (.int .i64 (left - x.length)) ?_
 refine qx (t_n (qm (qm (qA ?_))))
 refine sps [.int .i64 (left - x.length), .bool (decide ((left - x.length : Int) < 0))] ?_
 refine qx (t_n ?_)
 refine qW (decide ((left - x.length : Int) < 0)) rfl (fun h1 => ?_) (fun h1 => ?_)
 ·skip
  replace h1 := of_decide_eq_true h1
  refine qm (qA ?_)
  refine sp (.int .i64 (-1)) ?_
  refine qx (t_n (xC (t_r ?_)))
  refine ret1 (.int .i64 (-1)) rfl rfl ⟨_, rfl, ?_, H.base⟩
  refine congrArg (Value.int .i64) ?_
  have := zx (tot x) left
  rw [tot_bools] at *
  try omega
 replace h1 := of_decide_eq_false h1
 refine xk (t_n (qm (qA ?_)))
 refine sps [.int .i64 (left - x.length), .int .i64 (left - x.length)] ?_
 refine qx (t_n (xC ?_))
 refine ret1 (.int .i64 (left - x.length)) rfl rfl ⟨_, rfl, ?_, H.base⟩
 refine congrArg (Value.int .i64) ?_
 have := zx (tot x) left
 rw [tot_bools] at *
 try omega

theorem szInt64SS_ok (w : World) (x : List (List Int)) (left : Int) (ax : Option Addr) (cx : Nat) (Fx : List Nat) (hx : qV.rep w Fx [.slice ax x.length cx] x) (p0 : 0 ≤ left ∧ left ≤ 2000000) : Calls Tryz.prog 29 #[.slice ax x.length cx, .int .i64 left] w (Ret (fun v w' => v = .int .i64 (szR (tot x) left)) w) := by
 refine enter (n := 27) Tryz.func29 rfl Tryz.ntmps29 (Nat.le_of_ble_eq_true rfl) ?_
 have H := (St.start w).arg hx
 have nhx := qN hx
 clear hx
 refine qm (qA ?_)
 refine sp (.int .i64 0) ?_
 refine qx (t_n (qm (qA ?_)))
 refine sps [.int .i64 left, .slice ax x.length cx] ?_
 refine sw (zX Tryz.underlying27 ax x.length cx rfl ?_)
 refine sw (o_sub left x.length rfl rfl (by omega) ?_)
 refine sp (.int .i64 (left - x.length)) ?_
 refine qx (t_n (qm (qm (qA ?_))))
 refine sps [.int .i64 (left - x.length), .bool (decide ((left - x.length : Int) < 0))] ?_
 refine qx (t_n ?_)
 refine qW (decide ((left - x.length : Int) < 0)) rfl (fun h1 => ?_) (fun h1 => ?_)
 ·skip
  replace h1 := of_decide_eq_true h1
  refine qm (qA ?_)
  refine sp (.int .i64 (-1)) ?_
  refine qx (t_n (xC (t_r ?_)))
  refine ret1 (.int .i64 (-1)) rfl rfl ⟨_, rfl, ?_, H.base⟩
  refine congrArg (Value.int .i64) ?_
  have := zx (tot x) left
  have := len_tot x
  omega
 replace h1 := of_decide_eq_false h1
 refine xk (t_n (qm (qm (qA ?_))))
 refine sp (.int .i64 0) ?_
 refine qx (t_n (xE ?_))
 refine zU (fun m' ρ w2 => ∃ (junk : Env) (k : Nat) (r : Int), ρ = upd (upd (upd junk 0 (.slice ax x.length cx)) 1 (.int .i64 r)) 5 (.int .i64 k) ∧ (k ≤ x.length) ∧ (r = left - (x.length : Int) - (totTo x k : Nat)) ∧ (0 ≤ r) ∧ m' = x.length - k ∧ St w w2 [] [isF false Fx (.slice ax x.length cx) x]) (x.length - 0) ⟨_, 0, left - (x.length : Int), (by exact qj (qj (qj (rfl) rfl) rfl) rfl), (by omega), (by rw [totTo_zero]; omega), (by omega), rfl, H⟩ ?_
 clear H
 rintro m' ρ w3 ⟨junk, k, r, rfl, i0, i1, i2, rfl, H⟩
 refine qm (qm (qA ?_))
 refine sps [.int .i64 k, .slice ax x.length cx] ?_
 refine sw (zX Tryz.underlying27 ax x.length cx rfl ?_)
 refine sp (.bool (decide ((k : Int) < x.length))) ?_
 refine qx (t_n ?_)
 refine qW (decide ((k : Int) < x.length)) rfl (fun h4 => ?_) (fun h4 => ?_)
 ·skip
  replace h4 := of_decide_eq_true h4
  refine xk (t_n (qm (xE (qm (qA ?_)))))
  refine sps [.slice ax x.length cx, .int .i64 k] ?_
  obtain ⟨b5, o6, rfl⟩ := H.addr 0 rfl (by omega)
  obtain ⟨ae7, ce7, Fe7, H⟩ := H.yH 0 rfl k k (by omega) (by omega) (by omega)
  refine sw (xK k Tryz.underlying27 ti22 rfl rfl (by omega) (by omega) ?_)
  refine sw (qE (.slice ae7 ((x[k]!).length) ce7) Tryz.isAgg22 rfl (H.xY 1 rfl 0 rfl) ?_)
  refine sp (.int .i64 r) ?_
  refine sw (qZ #[.slice ae7 ((x[k]!).length) ce7, .int .i64 r] rfl rfl Tryz.call38 (Xl w3 (x[k]!) r ae7 ce7 Fe7 (H.get 0 rfl).1 (by omega)) ?_)
  rintro _ w8 rfl x9
  replace H := H.ext x9
  have := zx (tot (x[k]!)) r
  refine sp (.int .i64 (szR (tot (x[k]!)) r)) ?_
  refine qx (t_n (qm (qA ?_)))
  refine sps [.int .i64 (szR (tot (x[k]!)) r), .bool (decide ((szR (tot (x[k]!)) r : Int) < 0))] ?_
  refine qx (t_n ?_)
  refine qW (decide ((szR (tot (x[k]!)) r : Int) < 0)) rfl (fun h10 => ?_) (fun h10 => ?_)
  ·skip
   replace h10 := of_decide_eq_true h10
   refine qm (qA ?_)
   refine sp (.int .i64 (-1)) ?_
   refine qx (t_n (xC (b_r (t_r (t_r (b_r (t_r ?_)))))))
   refine ret1 (.int .i64 (-1)) rfl rfl ⟨_, rfl, ?_, H.base⟩
   refine congrArg (Value.int .i64) ?_
   have := zx (tot x) left
   have := tot_get (l := x) (k := k) (by omega)
   omega
  replace h10 := of_decide_eq_false h10
  refine xk (b_n (t_n (qA ?_)))
  refine sp (.int .i64 k) ?_
  refine sw (zZ k 1 rfl rfl (by omega) ?_)
  refine sp (.int .i64 (k + 1)) ?_
  refine qx ?_
  refine xH (m' := x.length - (k + 1)) (by omega) ⟨_, k + 1, szR (tot (x[k]!)) r, (by exact qj (qj (qj (rfl) rfl) rfl) rfl), ?_, ?_, ?_, rfl, H.sel _ (.refl _) _ (by simp)⟩
  · omega
  · rw [totTo_succ]; omega
  · omega
 replace h4 := of_decide_eq_false h4
 refine zK (t_x (t_x (b_x (t_n (qm (qA ?_))))))
 refine sps [.int .i64 r, .int .i64 r] ?_
 refine qx (t_n (xC ?_))
 refine ret1 (.int .i64 r) rfl rfl ⟨_, rfl, ?_, H.base⟩
 refine congrArg (Value.int .i64) ?_
 obtain rfl : k = x.length := by omega
 have := zx (tot x) left
 rw [tot_list] at *
 omega

theorem szInto_ok (w : World) (x : IntoD) (left : Int) (axBag : Option Addr) (cxBag : Nat) (FxBag : List Nat) (hxBag : qV.rep w FxBag [.slice axBag x.vH.length cxBag] x.vH) (p0 : 0 ≤ left ∧ left ≤ 2000000) : Calls Tryz.prog 160 #[.agg #[.int .i64 x.qy, .slice axBag x.vH.length cxBag], .int .i64 left] w (Ret (fun v w' => v = .int .i64 (szR (tot x) left)) w) := by
 refine enter (n := 12) Tryz.func160 rfl Tryz.ntmps160 (Nat.le_of_ble_eq_true rfl) ?_
 have H := (St.start w).arg hxBag
 have nhxBag := qN hxBag
 clear hxBag
 refine qm (qA ?_)
 refine sw (o_box H (.agg #[.int .i64 x.qy, .slice axBag x.vH.length cxBag]) rfl fun b1 w2 H => ?_)
 replace H : St _ _ [.box b1 [.int .i64 x.qy, .slice axBag x.vH.length cxBag] 167] _ := H
 refine sp (.int .i64 0) ?_
 refine qx (t_n (qm (qA ?_)))
 refine sw (qP b1 (0) 1 Tryz.underlying167 rfl rfl Tryz.sizeOf22 rfl ?_)
 refine sw (qE (.slice axBag x.vH.length cxBag) Tryz.isAgg22 rfl (H.cell 0 rfl rfl) ?_)
 refine sp (.int .i64 left) ?_
 refine sw (qZ #[.slice axBag x.vH.length cxBag, .int .i64 left] rfl rfl Tryz.call38 (Xl w2 x.vH left axBag cxBag FxBag (H.get 0 rfl).1 (by omega)) ?_)
 rintro _ w3 rfl x4
 replace H := H.ext x4
 have := zx (tot x.vH) left
 refine sp (.int .i64 (szR (tot x.vH) left)) ?_
 refine qx (t_n (qm (qm (qA ?_))))
 refine sps [.int .i64 (szR (tot x.vH) left), .bool (decide ((szR (tot x.vH) left : Int) < 0))] ?_
 refine qx (t_n ?_)
 refine qW (decide ((szR (tot x.vH) left : Int) < 0)) rfl (fun h5 => ?_) (fun h5 => ?_)
 ·skip
  replace h5 := of_decide_eq_true h5
  refine qm (qA ?_)
  refine sp (.int .i64 (-1)) ?_
  refine qx (t_n (xC (t_r ?_)))
  refine ret1 (.int .i64 (-1)) rfl rfl ⟨_, rfl, ?_, H.base⟩
  refine congrArg (Value.int .i64) ?_
  have := zx (tot x) left
  rw [tot_IntoD] at *
  try omega
 replace h5 := of_decide_eq_false h5
 refine xk (t_n (qm (qA ?_)))
 refine sps [.int .i64 (szR (tot x.vH) left), .int .i64 (szR (tot x.vH) left)] ?_
 refine qx (t_n (xC ?_))
 refine ret1 (.int .i64 (szR (tot x.vH) left)) rfl rfl ⟨_, rfl, ?_, H.base⟩
 refine congrArg (Value.int .i64) ?_
 have := zx (tot x) left
 rw [tot_IntoD] at *
 try omega

theorem szIntoS_ok (w : World) (x : List IntoD) (left : Int) (ax : Option Addr) (cx : Nat) (Fx : List Nat) (hx : qV.rep w Fx [.slice ax x.length cx] x) (p0 : 0 ≤ left ∧ left ≤ 2000000) : Calls Tryz.prog 135 #[.slice ax x.length cx, .int .i64 left] w (Ret (fun v w' => v = .int .i64 (szR (tot x) left)) w) := by
 refine enter (n := 27) Tryz.func135 rfl Tryz.ntmps135 (Nat.le_of_ble_eq_true rfl) ?_
 have H := (St.start w).arg hx
 have nhx := qN hx
 clear hx
 refine qm (qA ?_)
 refine sp (.int .i64 0) ?_
 refine qx (t_n (qm (qA ?_)))
 refine sps [.int .i64 left, .slice ax x.length cx] ?_
 refine sw (zX Tryz.underlying103 ax x.length cx rfl ?_)
 refine sw (o_sub left x.length rfl rfl (by omega) ?_)
 refine sp (.int .i64 (left - x.length)) ?_
 refine qx (t_n (qm (qm (qA ?_))))
 refine sps [.int .i64 (left - x.length), .bool (decide ((left - x.length : Int) < 0))] ?_
 refine qx (t_n ?_)
 refine qW (decide ((left - x.length : Int) < 0)) rfl (fun h1 => ?_) (fun h1 => ?_)
 ·skip
  replace h1 := of_decide_eq_true h1
  refine qm (qA ?_)
  refine sp (.int .i64 (-1)) ?_
  refine qx (t_n (xC (t_r ?_)))
  refine ret1 (.int .i64 (-1)) rfl rfl ⟨_, rfl, ?_, H.base⟩
  refine congrArg (Value.int .i64) ?_
  have := zx (tot x) left
  have := len_tot x
  omega
 replace h1 := of_decide_eq_false h1
 refine xk (t_n (qm (qm (qA ?_))))
 refine sp (.int .i64 0) ?_
 refine qx (t_n (xE ?_))
 refine zU (fun m' ρ w2 => ∃ (junk : Env) (k : Nat) (r : Int), ρ = upd (upd (upd junk 0 (.slice ax x.length cx)) 1 (.int .i64 r)) 5 (.int .i64 k) ∧ (k ≤ x.length) ∧ (r = left - (x.length : Int) - (totTo x k : Nat)) ∧ (0 ≤ r) ∧ m' = x.length - k ∧ St w w2 [] [isF false Fx (.slice ax x.length cx) x]) (x.length - 0) ⟨_, 0, left - (x.length : Int), (by exact qj (qj (qj (rfl) rfl) rfl) rfl), (by omega), (by rw [totTo_zero]; omega), (by omega), rfl, H⟩ ?_
 clear H
 rintro m' ρ w3 ⟨junk, k, r, rfl, i0, i1, i2, rfl, H⟩
 refine qm (qm (qA ?_))
 refine sps [.int .i64 k, .slice ax x.length cx] ?_
 refine sw (zX Tryz.underlying103 ax x.length cx rfl ?_)
 refine sp (.bool (decide ((k : Int) < x.length))) ?_
 refine qx (t_n ?_)
 refine qW (decide ((k : Int) < x.length)) rfl (fun h4 => ?_) (fun h4 => ?_)
 ·skip
  replace h4 := of_decide_eq_true h4
  refine xk (t_n (qm (xE (qm (qA ?_)))))
  refine sps [.slice ax x.length cx, .int .i64 k] ?_
  obtain ⟨b5, o6, rfl⟩ := H.addr 0 rfl (by omega)
  obtain ⟨ae7Bag, ce7Bag, Fe7Bag, H⟩ := H.jT 0 rfl k k (by omega) (by omega) (by omega)
  refine sw (xK k Tryz.underlying103 ti167 rfl rfl (by omega) (by omega) ?_)
  refine sw (zg [.int .i64 ((x[k]!).qy), .slice ae7Bag (((x[k]!).vH).length) ce7Bag] Tryz.isAgg167 Tryz.sizeOf167 rfl (qH (H.get 1 rfl) 0 2) ?_)
  refine sp (.int .i64 r) ?_
  refine sw (qZ #[.agg #[.int .i64 ((x[k]!).qy), .slice ae7Bag (((x[k]!).vH).length) ce7Bag], .int .i64 r] rfl rfl Tryz.call160 (szInto_ok w3 (x[k]!) r ae7Bag ce7Bag Fe7Bag (H.get 0 rfl).1 (by omega)) ?_)
  rintro _ w8 rfl x9
  replace H := H.ext x9
  have := zx (tot (x[k]!)) r
  refine sp (.int .i64 (szR (tot (x[k]!)) r)) ?_
  refine qx (t_n (qm (qA ?_)))
  refine sps [.int .i64 (szR (tot (x[k]!)) r), .bool (decide ((szR (tot (x[k]!)) r : Int) < 0))] ?_
  refine qx (t_n ?_)
  refine qW (decide ((szR (tot (x[k]!)) r : Int) < 0)) rfl (fun h10 => ?_) (fun h10 => ?_)
  ·skip
   replace h10 := of_decide_eq_true h10
   refine qm (qA ?_)
   refine sp (.int .i64 (-1)) ?_
   refine qx (t_n (xC (b_r (t_r (t_r (b_r (t_r ?_)))))))
   refine ret1 (.int .i64 (-1)) rfl rfl ⟨_, rfl, ?_, H.base⟩
   refine congrArg (Value.int .i64) ?_
   have := zx (tot x) left
   have := tot_get (l := x) (k := k) (by omega)
   omega
  replace h10 := of_decide_eq_false h10
  refine xk (b_n (t_n (qA ?_)))
  refine sp (.int .i64 k) ?_
  refine sw (zZ k 1 rfl rfl (by omega) ?_)
  refine sp (.int .i64 (k + 1)) ?_
  refine qx ?_
  refine xH (m' := x.length - (k + 1)) (by omega) ⟨_, k + 1, szR (tot (x[k]!)) r, (by exact qj (qj (qj (rfl) rfl) rfl) rfl), ?_, ?_, ?_, rfl, H.sel _ (.refl _) _ (by simp)⟩
  · omega
  · rw [totTo_succ]; omega
  · omega
 replace h4 := of_decide_eq_false h4
 refine zK (t_x (t_x (b_x (t_n (qm (qA ?_))))))
 refine sps [.int .i64 r, .int .i64 r] ?_
 refine qx (t_n (xC ?_))
 refine ret1 (.int .i64 r) rfl rfl ⟨_, rfl, ?_, H.base⟩
 refine congrArg (Value.int .i64) ?_
 obtain rfl : k = x.length := by omega
 have := zx (tot x) left
 rw [tot_list] at *
 omega

theorem szRule_ok (w : World) (x : QG) (left : Int) (Qi : Option Addr) (Qc : Nat) (FxNeed : List Nat) (Qm : Option Addr) (Qh : Nat) (FxHave : List Nat) (Qj : Option Addr) (Qd : Nat) (FxLack : List Nat) (Ql : Option Addr) (Qg : Nat) (FxHere : List Nat) (XE : Option Addr) (XD : Nat) (FxOut : List Nat) (Qk : Option Addr) (Qe : Nat) (FxInto : List Nat) (hxNeed : qV.rep w FxNeed [.slice Qi x.qR.length Qc] x.qR) (hxHave : qV.rep w FxHave [.slice Qm x.xh.length Qh] x.xh) (hxLack : qV.rep w FxLack [.slice Qj x.xm.length Qd] x.xm) (hxHere : qV.rep w FxHere [.slice Ql x.xB.length Qg] x.xB) (hxOut : qV.rep w FxOut [.slice XE x.zk.length XD] x.zk) (hxInto : qV.rep w FxInto [.slice Qk x.qC.length Qe] x.qC) (p0 : 0 ≤ left ∧ left ≤ 2000000) : Calls Tryz.prog 82 #[.agg #[.int .i64 x.qy, .int .i64 x.zh, .slice Qi x.qR.length Qc, .slice Qm x.xh.length Qh, .slice Qj x.xm.length Qd, .slice Ql x.xB.length Qg, .slice XE x.zk.length XD, .slice Qk x.qC.length Qe, .bool x.xQ], .int .i64 left] w (Ret (fun v w' => v = .int .i64 (szR (tot x) left)) w) := by
 refine enter (n := 42) Tryz.func82 rfl Tryz.ntmps82 (Nat.le_of_ble_eq_true rfl) ?_
 have H := ((((((St.start w).arg hxInto).arg hxOut).arg hxHere).arg hxLack).arg hxHave).arg hxNeed
 have nhxNeed := qN hxNeed
 have nhxHave := qN hxHave
 have nhxLack := qN hxLack
 have nhxHere := qN hxHere
 have nhxOut := qN hxOut
 have nhxInto := qN hxInto
 clear hxNeed hxHave hxLack hxHere hxOut hxInto
 refine qm (qA ?_)
 refine sw (o_box H (.agg #[.int .i64 x.qy, .int .i64 x.zh, .slice Qi x.qR.length Qc, .slice Qm x.xh.length Qh, .slice Qj x.xm.length Qd, .slice Ql x.xB.length Qg, .slice XE x.zk.length XD, .slice Qk x.qC.length Qe, .bool x.xQ]) rfl fun b1 w2 H => ?_)
 replace H : St _ _ [.box b1 [.int .i64 x.qy, .int .i64 x.zh, .slice Qi x.qR.length Qc, .slice Qm x.xh.length Qh, .slice Qj x.xm.length Qd, .slice Ql x.xB.length Qg, .slice XE x.zk.length XD, .slice Qk x.qC.length Qe, .bool x.xQ] 105] _ := H
 refine sp (.int .i64 0) ?_
 refine qx (t_n (qm (qA ?_)))
 refine sw (qP b1 (0) 2 Tryz.underlying105 rfl rfl Tryz.sizeOf22 rfl ?_)
 refine sw (qE (.slice Qi x.qR.length Qc) Tryz.isAgg22 rfl (H.cell 0 rfl rfl) ?_)
 refine sp (.int .i64 left) ?_
 refine sw (qZ #[.slice Qi x.qR.length Qc, .int .i64 left] rfl rfl Tryz.call38 (Xl w2 x.qR left Qi Qc FxNeed (H.get 0 rfl).1 (by omega)) ?_)
 rintro _ w3 rfl x4
 replace H := H.ext x4
 have := zx (tot x.qR) left
 refine sp (.int .i64 (szR (tot x.qR) left)) ?_
 refine qx (t_n (qm (qm (qA ?_))))
 refine sps [.int .i64 (szR (tot x.qR) left), .bool (decide ((szR (tot x.qR) left : Int) < 0))] ?_
 refine qx (t_n ?_)
 refine qW (decide ((szR (tot x.qR) left : Int) < 0)) rfl (fun h5 => ?_) (fun h5 => ?_)
 ·skip
  replace h5 := of_decide_eq_true h5
  refine qm (qA ?_)
  refine sp (.int .i64 (-1)) ?_
  refine qx (t_n (xC (t_r ?_)))
  refine ret1 (.int .i64 (-1)) rfl rfl ⟨_, rfl, ?_, H.base⟩
  refine congrArg (Value.int .i64) ?_
  have := zx (tot x) left
  rw [tot_RuleD] at *
  try omega
 replace h5 := of_decide_eq_false h5
 refine xk (t_n (qm (qA ?_)))
 refine sw (qP b1 (0) 3 Tryz.underlying105 rfl rfl Tryz.sizeOf22 rfl ?_)
 refine sw (qE (.slice Qm x.xh.length Qh) Tryz.isAgg22 rfl (H.cell 0 rfl rfl) ?_)
 refine sp (.int .i64 (szR (tot x.qR) left)) ?_
 refine sw (qZ #[.slice Qm x.xh.length Qh, .int .i64 (szR (tot x.qR) left)] rfl rfl Tryz.call38 (Xl w3 x.xh (szR (tot x.qR) left) Qm Qh FxHave (H.get 1 rfl).1 (by omega)) ?_)
 rintro _ w6 rfl x7
 replace H := H.ext x7
 have := zx (tot x.xh) (szR (tot x.qR) left)
 refine sp (.int .i64 (szR (tot x.xh) (szR (tot x.qR) left))) ?_
 refine qx (t_n (qm (qm (qA ?_))))
 refine sps [.int .i64 (szR (tot x.xh) (szR (tot x.qR) left)), .bool (decide ((szR (tot x.xh) (szR (tot x.qR) left) : Int) < 0))] ?_
 refine qx (t_n ?_)
 refine qW (decide ((szR (tot x.xh) (szR (tot x.qR) left) : Int) < 0)) rfl (fun h8 => ?_) (fun h8 => ?_)
 ·skip
  replace h8 := of_decide_eq_true h8
  refine qm (qA ?_)
  refine sp (.int .i64 (-1)) ?_
  refine qx (t_n (xC (t_r ?_)))
  refine ret1 (.int .i64 (-1)) rfl rfl ⟨_, rfl, ?_, H.base⟩
  refine congrArg (Value.int .i64) ?_
  have := zx (tot x) left
  rw [tot_RuleD] at *
  try omega
 replace h8 := of_decide_eq_false h8
 refine xk (t_n (qm (qA ?_)))
 refine sw (qP b1 (0) 4 Tryz.underlying105 rfl rfl Tryz.sizeOf22 rfl ?_)
 refine sw (qE (.slice Qj x.xm.length Qd) Tryz.isAgg22 rfl (H.cell 0 rfl rfl) ?_)
 refine sp (.int .i64 (szR (tot x.xh) (szR (tot x.qR) left))) ?_
 refine sw (qZ #[.slice Qj x.xm.length Qd, .int .i64 (szR (tot x.xh) (szR (tot x.qR) left))] rfl rfl Tryz.call38 (Xl w6 x.xm (szR (tot x.xh) (szR (tot x.qR) left)) Qj Qd FxLack (H.get 2 rfl).1 (by omega)) ?_)
 rintro _ w9 rfl x10
 replace H := H.ext x10
 have := zx (tot x.xm) (szR (tot x.xh) (szR (tot x.qR) left))
 refine sp (.int .i64 (szR (tot x.xm) (szR (tot x.xh) (szR (tot x.qR) left)))) ?_
 refine qx (t_n (qm (qm (qA ?_))))
 refine sps [.int .i64 (szR (tot x.xm) (szR (tot x.xh) (szR (tot x.qR) left))), .bool (decide ((szR (tot x.xm) (szR (tot x.xh) (szR (tot x.qR) left)) : Int) < 0))] ?_
 refine qx (t_n ?_)
 refine qW (decide ((szR (tot x.xm) (szR (tot x.xh) (szR (tot x.qR) left)) : Int) < 0)) rfl (fun h11 => ?_) (fun h11 => ?_)
 ·skip
  replace h11 := of_decide_eq_true h11
  refine qm (qA ?_)
  refine sp (.int .i64 (-1)) ?_
  refine qx (t_n (xC (t_r ?_)))
  refine ret1 (.int .i64 (-1)) rfl rfl ⟨_, rfl, ?_, H.base⟩
  refine congrArg (Value.int .i64) ?_
  have := zx (tot x) left
  rw [tot_RuleD] at *
  try omega
 replace h11 := of_decide_eq_false h11
 refine xk (t_n (qm (qA ?_)))
 refine sw (qP b1 (0) 5 Tryz.underlying105 rfl rfl Tryz.sizeOf22 rfl ?_)
 refine sw (qE (.slice Ql x.xB.length Qg) Tryz.isAgg22 rfl (H.cell 0 rfl rfl) ?_)
 refine sp (.int .i64 (szR (tot x.xm) (szR (tot x.xh) (szR (tot x.qR) left)))) ?_
 refine sw (qZ #[.slice Ql x.xB.length Qg, .int .i64 (szR (tot x.xm) (szR (tot x.xh) (szR (tot x.qR) left)))] rfl rfl Tryz.call38 (Xl w9 x.xB (szR (tot x.xm) (szR (tot x.xh) (szR (tot x.qR) left))) Ql Qg FxHere (H.get 3 rfl).1 (by omega)) ?_)
 rintro _ w12 rfl x13
 replace H := H.ext x13
 have := zx (tot x.xB) (szR (tot x.xm) (szR (tot x.xh) (szR (tot x.qR) left)))
 refine sp (.int .i64 (szR (tot x.xB) (szR (tot x.xm) (szR (tot x.xh) (szR (tot x.qR) left))))) ?_
 refine qx (t_n (qm (qm (qA ?_))))
 refine sps [.int .i64 (szR (tot x.xB) (szR (tot x.xm) (szR (tot x.xh) (szR (tot x.qR) left)))), .bool (decide ((szR (tot x.xB) (szR (tot x.xm) (szR (tot x.xh) (szR (tot x.qR) left))) : Int) < 0))] ?_
 refine qx (t_n ?_)
 refine qW (decide ((szR (tot x.xB) (szR (tot x.xm) (szR (tot x.xh) (szR (tot x.qR) left))) : Int) < 0)) rfl (fun h14 => ?_) (fun h14 => ?_)
 ·skip
  replace h14 := of_decide_eq_true h14
  refine qm (qA ?_)
  refine sp (.int .i64 (-1)) ?_
  refine qx (t_n (xC (t_r ?_)))
  refine ret1 (.int .i64 (-1)) rfl rfl ⟨_, rfl, ?_, H.base⟩
  refine congrArg (Value.int .i64) ?_
  have := zx (tot x) left
  rw [tot_RuleD] at *
  try omega
 replace h14 := of_decide_eq_false h14
 refine xk (t_n (qm (qA ?_)))
 refine sw (qP b1 (0) 6 Tryz.underlying105 rfl rfl Tryz.sizeOf22 rfl ?_)
 refine sw (qE (.slice XE x.zk.length XD) Tryz.isAgg22 rfl (H.cell 0 rfl rfl) ?_)
 refine sp (.int .i64 (szR (tot x.xB) (szR (tot x.xm) (szR (tot x.xh) (szR (tot x.qR) left))))) ?_
 refine sw (qZ #[.slice XE x.zk.length XD, .int .i64 (szR (tot x.xB) (szR (tot x.xm) (szR (tot x.xh) (szR (tot x.qR) left))))] rfl rfl Tryz.call38 (Xl w12 x.zk (szR (tot x.xB) (szR (tot x.xm) (szR (tot x.xh) (szR (tot x.qR) left)))) XE XD FxOut (H.get 4 rfl).1 (by omega)) ?_)
 rintro _ w15 rfl x16
 replace H := H.ext x16
 have := zx (tot x.zk) (szR (tot x.xB) (szR (tot x.xm) (szR (tot x.xh) (szR (tot x.qR) left))))
 refine sp (.int .i64 (szR (tot x.zk) (szR (tot x.xB) (szR (tot x.xm) (szR (tot x.xh) (szR (tot x.qR) left)))))) ?_
 refine qx (t_n (qm (qm (qA ?_))))
 refine sps [.int .i64 (szR (tot x.zk) (szR (tot x.xB) (szR (tot x.xm) (szR (tot x.xh) (szR (tot x.qR) left))))), .bool (decide ((szR (tot x.zk) (szR (tot x.xB) (szR (tot x.xm) (szR (tot x.xh) (szR (tot x.qR) left)))) : Int) < 0))] ?_
 refine qx (t_n ?_)
 refine qW (decide ((szR (tot x.zk) (szR (tot x.xB) (szR (tot x.xm) (szR (tot x.xh) (szR (tot x.qR) left)))) : Int) < 0)) rfl (fun h17 => ?_) (fun h17 => ?_)
 ·skip
  replace h17 := of_decide_eq_true h17
  refine qm (qA ?_)
  refine sp (.int .i64 (-1)) ?_
  refine qx (t_n (xC (t_r ?_)))
  refine ret1 (.int .i64 (-1)) rfl rfl ⟨_, rfl, ?_, H.base⟩
  refine congrArg (Value.int .i64) ?_
  have := zx (tot x) left
  rw [tot_RuleD] at *
  try omega
 replace h17 := of_decide_eq_false h17
 refine xk (t_n (qm (qA ?_)))
 refine sw (qP b1 (0) 7 Tryz.underlying105 rfl rfl Tryz.sizeOf103 rfl ?_)
 refine sw (qE (.slice Qk x.qC.length Qe) Tryz.isAgg103 rfl (H.cell 0 rfl rfl) ?_)
 refine sp (.int .i64 (szR (tot x.zk) (szR (tot x.xB) (szR (tot x.xm) (szR (tot x.xh) (szR (tot x.qR) left)))))) ?_
 refine sw (qZ #[.slice Qk x.qC.length Qe, .int .i64 (szR (tot x.zk) (szR (tot x.xB) (szR (tot x.xm) (szR (tot x.xh) (szR (tot x.qR) left)))))] rfl rfl Tryz.call135 (szIntoS_ok w15 x.qC (szR (tot x.zk) (szR (tot x.xB) (szR (tot x.xm) (szR (tot x.xh) (szR (tot x.qR) left))))) Qk Qe FxInto (H.get 5 rfl).1 (by omega)) ?_)
 rintro _ w18 rfl x19
 replace H := H.ext x19
 have := zx (tot x.qC) (szR (tot x.zk) (szR (tot x.xB) (szR (tot x.xm) (szR (tot x.xh) (szR (tot x.qR) left)))))
 refine sp (.int .i64 (szR (tot x.qC) (szR (tot x.zk) (szR (tot x.xB) (szR (tot x.xm) (szR (tot x.xh) (szR (tot x.qR) left))))))) ?_
 refine qx (t_n (qm (qm (qA ?_))))
 refine sps [.int .i64 (szR (tot x.qC) (szR (tot x.zk) (szR (tot x.xB) (szR (tot x.xm) (szR (tot x.xh) (szR (tot x.qR) left)))))), .bool (decide ((szR (tot x.qC) (szR (tot x.zk) (szR (tot x.xB) (szR (tot x.xm) (szR (tot x.xh) (szR (tot x.qR) left))))) : Int) < 0))] ?_
 refine qx (t_n ?_)
 refine qW (decide ((szR (tot x.qC) (szR (tot x.zk) (szR (tot x.xB) (szR (tot x.xm) (szR (tot x.xh) (szR (tot x.qR) left))))) : Int) < 0)) rfl (fun h20 => ?_) (fun h20 => ?_)
 ·skip
  replace h20 := of_decide_eq_true h20
  refine qm (qA ?_)
  refine sp (.int .i64 (-1)) ?_
  refine qx (t_n (xC (t_r ?_)))
  refine ret1 (.int .i64 (-1)) rfl rfl ⟨_, rfl, ?_, H.base⟩
  refine congrArg (Value.int .i64) ?_
  have := zx (tot x) left
  rw [tot_RuleD] at *
  try omega
 replace h20 := of_decide_eq_false h20
 refine xk (t_n (qm (qA ?_)))
 refine sps [.int .i64 (szR (tot x.qC) (szR (tot x.zk) (szR (tot x.xB) (szR (tot x.xm) (szR (tot x.xh) (szR (tot x.qR) left)))))), .int .i64 (szR (tot x.qC) (szR (tot x.zk) (szR (tot x.xB) (szR (tot x.xm) (szR (tot x.xh) (szR (tot x.qR) left))))))] ?_
 refine qx (t_n (xC ?_))
 refine ret1 (.int .i64 (szR (tot x.qC) (szR (tot x.zk) (szR (tot x.xB) (szR (tot x.xm) (szR (tot x.xh) (szR (tot x.qR) left))))))) rfl rfl ⟨_, rfl, ?_, H.base⟩
 refine congrArg (Value.int .i64) ?_
 have := zx (tot x) left
 rw [tot_RuleD] at *
 try omega

theorem szRuleS_ok (w : World) (x : List QG) (left : Int) (ax : Option Addr) (cx : Nat) (Fx : List Nat) (hx : qV.rep w Fx [.slice ax x.length cx] x) (p0 : 0 ≤ left ∧ left ≤ 2000000) : Calls Tryz.prog 39 #[.slice ax x.length cx, .int .i64 left] w (Ret (fun v w' => v = .int .i64 (szR (tot x) left)) w) := by
 refine enter (n := 27) Tryz.func39 rfl Tryz.ntmps39 (Nat.le_of_ble_eq_true rfl) ?_
 have H := (St.start w).arg hx
 have nhx := qN hx
 clear hx
 refine qm (qA ?_)
 refine sp (.int .i64 0) ?_
 refine qx (t_n (qm (qA ?_)))
 refine sps [.int .i64 left, .slice ax x.length cx] ?_
 refine sw (zX Tryz.underlying23 ax x.length cx rfl ?_)
 refine sw (o_sub left x.length rfl rfl (by omega) ?_)
 refine sp (.int .i64 (left - x.length)) ?_
 refine qx (t_n (qm (qm (qA ?_))))
 refine sps [.int .i64 (left - x.length), .bool (decide ((left - x.length : Int) < 0))] ?_
 refine qx (t_n ?_)
 refine qW (decide ((left - x.length : Int) < 0)) rfl (fun h1 => ?_) (fun h1 => ?_)
 ·skip
  replace h1 := of_decide_eq_true h1
  refine qm (qA ?_)
  refine sp (.int .i64 (-1)) ?_
  refine qx (t_n (xC (t_r ?_)))
  refine ret1 (.int .i64 (-1)) rfl rfl ⟨_, rfl, ?_, H.base⟩
  refine congrArg (Value.int .i64) ?_
  have := zx (tot x) left
  have := len_tot x
  omega
 replace h1 := of_decide_eq_false h1
 refine xk (t_n (qm (qm (qA ?_))))
 refine sp (.int .i64 0) ?_
 refine qx (t_n (xE ?_))
 refine zU (fun m' ρ w2 => ∃ (junk : Env) (k : Nat) (r : Int), ρ = upd (upd (upd junk 0 (.slice ax x.length cx)) 1 (.int .i64 r)) 5 (.int .i64 k) ∧ (k ≤ x.length) ∧ (r = left - (x.length : Int) - (totTo x k : Nat)) ∧ (0 ≤ r) ∧ m' = x.length - k ∧ St w w2 [] [isF false Fx (.slice ax x.length cx) x]) (x.length - 0) ⟨_, 0, left - (x.length : Int), (by exact qj (qj (qj (rfl) rfl) rfl) rfl), (by omega), (by rw [totTo_zero]; omega), (by omega), rfl, H⟩ ?_
 clear H
 rintro m' ρ w3 ⟨junk, k, r, rfl, i0, i1, i2, rfl, H⟩
 refine qm (qm (qA ?_))
 refine sps [.int .i64 k, .slice ax x.length cx] ?_
 refine sw (zX Tryz.underlying23 ax x.length cx rfl ?_)
 refine sp (.bool (decide ((k : Int) < x.length))) ?_
 refine qx (t_n ?_)
 refine qW (decide ((k : Int) < x.length)) rfl (fun h4 => ?_) (fun h4 => ?_)
 ·skip
  replace h4 := of_decide_eq_true h4
  refine xk (t_n (qm (xE (qm (qA ?_)))))
  refine sps [.slice ax x.length cx, .int .i64 k] ?_
  obtain ⟨b5, o6, rfl⟩ := H.addr 0 rfl (by omega)
  obtain ⟨ae7Need, ce7Need, Fe7Need, ae7Have, ce7Have, Fe7Have, ae7Lack, ce7Lack, Fe7Lack, ae7Here, ce7Here, Fe7Here, ae7Out, ce7Out, Fe7Out, ae7Into, ce7Into, Fe7Into, H⟩ := H.yB 0 rfl k k (by omega) (by omega) (by omega)
  refine sw (xK k Tryz.underlying23 ti105 rfl rfl (by omega) (by omega) ?_)
  refine sw (zg [.int .i64 ((x[k]!).qy), .int .i64 ((x[k]!).zh), .slice ae7Need (((x[k]!).qR).length) ce7Need, .slice ae7Have (((x[k]!).xh).length) ce7Have, .slice ae7Lack (((x[k]!).xm).length) ce7Lack, .slice ae7Here (((x[k]!).xB).length) ce7Here, .slice ae7Out (((x[k]!).zk).length) ce7Out, .slice ae7Into (((x[k]!).qC).length) ce7Into, .bool ((x[k]!).xQ)] Tryz.isAgg105 Tryz.sizeOf105 rfl (qH (H.get 6 rfl) 0 9) ?_)
  refine sp (.int .i64 r) ?_
  refine sw (qZ #[.agg #[.int .i64 ((x[k]!).qy), .int .i64 ((x[k]!).zh), .slice ae7Need (((x[k]!).qR).length) ce7Need, .slice ae7Have (((x[k]!).xh).length) ce7Have, .slice ae7Lack (((x[k]!).xm).length) ce7Lack, .slice ae7Here (((x[k]!).xB).length) ce7Here, .slice ae7Out (((x[k]!).zk).length) ce7Out, .slice ae7Into (((x[k]!).qC).length) ce7Into, .bool ((x[k]!).xQ)], .int .i64 r] rfl rfl Tryz.call82 (szRule_ok w3 (x[k]!) r ae7Need ce7Need Fe7Need ae7Have ce7Have Fe7Have ae7Lack ce7Lack Fe7Lack ae7Here ce7Here Fe7Here ae7Out ce7Out Fe7Out ae7Into ce7Into Fe7Into (H.get 0 rfl).1 (H.get 1 rfl).1 (H.get 2 rfl).1 (H.get 3 rfl).1 (H.get 4 rfl).1 (H.get 5 rfl).1 (by omega)) ?_)
  rintro _ w8 rfl x9
  replace H := H.ext x9
  have := zx (tot (x[k]!)) r
  refine sp (.int .i64 (szR (tot (x[k]!)) r)) ?_
  refine qx (t_n (qm (qA ?_)))
  refine sps [.int .i64 (szR (tot (x[k]!)) r), .bool (decide ((szR (tot (x[k]!)) r : Int) < 0))] ?_
  refine qx (t_n ?_)
  refine qW (decide ((szR (tot (x[k]!)) r : Int) < 0)) rfl (fun h10 => ?_) (fun h10 => ?_)
  ·skip
   replace h10 := of_decide_eq_true h10
   refine qm (qA ?_)
   refine sp (.int .i64 (-1)) ?_
   refine qx (t_n (xC (b_r (t_r (t_r (b_r (t_r ?_)))))))
   refine ret1 (.int .i64 (-1)) rfl rfl ⟨_, rfl, ?_, H.base⟩
   refine congrArg (Value.int .i64) ?_
   have := zx (tot x) left
   have := tot_get (l := x) (k := k) (by omega)
   omega
  replace h10 := of_decide_eq_false h10
  refine xk (b_n (t_n (qA ?_)))
  refine sp (.int .i64 k) ?_
  refine sw (zZ k 1 rfl rfl (by omega) ?_)
  refine sp (.int .i64 (k + 1)) ?_
  refine qx ?_
  refine xH (m' := x.length - (k + 1)) (by omega) ⟨_, k + 1, szR (tot (x[k]!)) r, (by exact qj (qj (qj (rfl) rfl) rfl) rfl), ?_, ?_, ?_, rfl, H.sel _ (.refl _) _ (by simp)⟩
  · omega
  · rw [totTo_succ]; omega
  · omega
 replace h4 := of_decide_eq_false h4
 refine zK (t_x (t_x (b_x (t_n (qm (qA ?_))))))
 refine sps [.int .i64 r, .int .i64 r] ?_
 refine qx (t_n (xC ?_))
 refine ret1 (.int .i64 r) rfl rfl ⟨_, rfl, ?_, H.base⟩
 refine congrArg (Value.int .i64) ?_
 obtain rfl : k = x.length := by omega
 have := zx (tot x) left
 rw [tot_list] at *
 omega

theorem szSystem_ok (w : World) (x : qX) (left : Int) (zI : Option Addr) (zH : Nat) (yu : List Nat) (jA : Option Addr) (jy : Nat) (QV : List Nat) (Qz : qV.rep w yu [.slice zI x.qf.length zH] x.qf) (Vb : qV.rep w QV [.slice jA x.qg.length jy] x.qg) (p0 : 0 ≤ left ∧ left ≤ 2000000) : Calls Tryz.prog 8 #[.agg #[.int .i64 x.qJ, .slice zI x.qf.length zH, .slice jA x.qg.length jy], .int .i64 left] w (Ret (fun v w' => v = .int .i64 (szR (tot x) left)) w) := by
 refine enter (n := 18) Tryz.func8 rfl Tryz.ntmps8 (Nat.le_of_ble_eq_true rfl) ?_
 have H := ((St.start w).arg Vb).arg Qz
 have nhxParents := qN Qz
 have nhxRules := qN Vb
 clear Qz Vb
 refine qm (qA ?_)
 refine sw (o_box H (.agg #[.int .i64 x.qJ, .slice zI x.qf.length zH, .slice jA x.qg.length jy]) rfl fun b1 w2 H => ?_)
 replace H : St _ _ [.box b1 [.int .i64 x.qJ, .slice zI x.qf.length zH, .slice jA x.qg.length jy] 25] _ := H
 refine sp (.int .i64 0) ?_
 refine qx (t_n (qm (qA ?_)))
 refine sw (qP b1 (0) 1 Tryz.underlying25 rfl rfl Tryz.sizeOf22 rfl ?_)
 refine sw (qE (.slice zI x.qf.length zH) Tryz.isAgg22 rfl (H.cell 0 rfl rfl) ?_)
 refine sp (.int .i64 left) ?_
 refine sw (qZ #[.slice zI x.qf.length zH, .int .i64 left] rfl rfl Tryz.call38 (Xl w2 x.qf left zI zH yu (H.get 0 rfl).1 (by omega)) ?_)
 rintro _ w3 rfl x4
 replace H := H.ext x4
 have := zx (tot x.qf) left
 refine sp (.int .i64 (szR (tot x.qf) left)) ?_
 refine qx (t_n (qm (qm (qA ?_))))
 refine sps [.int .i64 (szR (tot x.qf) left), .bool (decide ((szR (tot x.qf) left : Int) < 0))] ?_
 refine qx (t_n ?_)
 refine qW (decide ((szR (tot x.qf) left : Int) < 0)) rfl (fun h5 => ?_) (fun h5 => ?_)
 ·skip
  replace h5 := of_decide_eq_true h5
  refine qm (qA ?_)
  refine sp (.int .i64 (-1)) ?_
  refine qx (t_n (xC (t_r ?_)))
  refine ret1 (.int .i64 (-1)) rfl rfl ⟨_, rfl, ?_, H.base⟩
  refine congrArg (Value.int .i64) ?_
  have := zx (tot x) left
  rw [tot_SystemD] at *
  try omega
 replace h5 := of_decide_eq_false h5
 refine xk (t_n (qm (qA ?_)))
 refine sw (qP b1 (0) 2 Tryz.underlying25 rfl rfl Tryz.sizeOf23 rfl ?_)
 refine sw (qE (.slice jA x.qg.length jy) Tryz.isAgg23 rfl (H.cell 0 rfl rfl) ?_)
 refine sp (.int .i64 (szR (tot x.qf) left)) ?_
 refine sw (qZ #[.slice jA x.qg.length jy, .int .i64 (szR (tot x.qf) left)] rfl rfl Tryz.call39 (szRuleS_ok w3 x.qg (szR (tot x.qf) left) jA jy QV (H.get 1 rfl).1 (by omega)) ?_)
 rintro _ w6 rfl x7
 replace H := H.ext x7
 have := zx (tot x.qg) (szR (tot x.qf) left)
 refine sp (.int .i64 (szR (tot x.qg) (szR (tot x.qf) left))) ?_
 refine qx (t_n (qm (qm (qA ?_))))
 refine sps [.int .i64 (szR (tot x.qg) (szR (tot x.qf) left)), .bool (decide ((szR (tot x.qg) (szR (tot x.qf) left) : Int) < 0))] ?_
 refine qx (t_n ?_)
 refine qW (decide ((szR (tot x.qg) (szR (tot x.qf) left) : Int) < 0)) rfl (fun h8 => ?_) (fun h8 => ?_)
 ·skip
  replace h8 := of_decide_eq_true h8
  refine qm (qA ?_)
  refine sp (.int .i64 (-1)) ?_
  refine qx (t_n (xC (t_r ?_)))
  refine ret1 (.int .i64 (-1)) rfl rfl ⟨_, rfl, ?_, H.base⟩
  refine congrArg (Value.int .i64) ?_
  have := zx (tot x) left
  rw [tot_SystemD] at *
  try omega
 replace h8 := of_decide_eq_false h8
 refine xk (t_n (qm (qA ?_)))
 refine sps [.int .i64 (szR (tot x.qg) (szR (tot x.qf) left)), .int .i64 (szR (tot x.qg) (szR (tot x.qf) left))] ?_
 refine qx (t_n (xC ?_))
 refine ret1 (.int .i64 (szR (tot x.qg) (szR (tot x.qf) left))) rfl rfl ⟨_, rfl, ?_, H.base⟩
 refine congrArg (Value.int .i64) ?_
 have := zx (tot x) left
 rw [tot_SystemD] at *
 try omega

theorem szState_ok (w : World) (x : qU) (left : Int) (vJ : Option Addr) (vI : Nat) (Qs : List Nat) (jM : Option Addr) (jL : Nat) (Xj : List Nat) (zG : Option Addr) (zF : Nat) (yz : List Nat) (Xd : qV.rep w Qs [.slice vJ x.qh.length vI] x.qh) (Vz : qV.rep w Xj [.slice jM x.qp.length jL] x.qp) (Qu : qV.rep w yz [.slice zG x.ql.length zF] x.ql) (p0 : 0 ≤ left ∧ left ≤ 2000000) : Calls Tryz.prog 9 #[.agg #[.slice vJ x.qh.length vI, .slice jM x.qp.length jL, .slice zG x.ql.length zF], .int .i64 left] w (Ret (fun v w' => v = .int .i64 (szR (tot x) left)) w) := by
 refine enter (n := 24) Tryz.func9 rfl Tryz.ntmps9 (Nat.le_of_ble_eq_true rfl) ?_
 have H := (((St.start w).arg Qu).arg Vz).arg Xd
 have nhxAlive := qN Xd
 have nhxBags := qN Vz
 have nhxAround := qN Qu
 clear Xd Vz Qu
 refine qm (qA ?_)
 refine sw (o_box H (.agg #[.slice vJ x.qh.length vI, .slice jM x.qp.length jL, .slice zG x.ql.length zF]) rfl fun b1 w2 H => ?_)
 replace H : St _ _ [.box b1 [.slice vJ x.qh.length vI, .slice jM x.qp.length jL, .slice zG x.ql.length zF] 29] _ := H
 refine sp (.int .i64 0) ?_
 refine qx (t_n (qm (qA ?_)))
 refine sw (qP b1 (0) 0 Tryz.underlying29 rfl rfl Tryz.sizeOf26 rfl ?_)
 refine sw (qE (.slice vJ x.qh.length vI) Tryz.isAgg26 rfl (H.cell 0 rfl rfl) ?_)
 refine sp (.int .i64 left) ?_
 refine sw (qZ #[.slice vJ x.qh.length vI, .int .i64 left] rfl rfl Tryz.call40 (szBoolS_ok w2 x.qh left vJ vI Qs (H.get 0 rfl).1 (by omega)) ?_)
 rintro _ w3 rfl x4
 replace H := H.ext x4
 have := zx (tot x.qh) left
 refine sp (.int .i64 (szR (tot x.qh) left)) ?_
 refine qx (t_n (qm (qm (qA ?_))))
 refine sps [.int .i64 (szR (tot x.qh) left), .bool (decide ((szR (tot x.qh) left : Int) < 0))] ?_
 refine qx (t_n ?_)
 refine qW (decide ((szR (tot x.qh) left : Int) < 0)) rfl (fun h5 => ?_) (fun h5 => ?_)
 ·skip
  replace h5 := of_decide_eq_true h5
  refine qm (qA ?_)
  refine sp (.int .i64 (-1)) ?_
  refine qx (t_n (xC (t_r ?_)))
  refine ret1 (.int .i64 (-1)) rfl rfl ⟨_, rfl, ?_, H.base⟩
  refine congrArg (Value.int .i64) ?_
  have := zx (tot x) left
  rw [tot_StateD] at *
  try omega
 replace h5 := of_decide_eq_false h5
 refine xk (t_n (qm (qA ?_)))
 refine sw (qP b1 (0) 1 Tryz.underlying29 rfl rfl Tryz.sizeOf27 rfl ?_)
 refine sw (qE (.slice jM x.qp.length jL) Tryz.isAgg27 rfl (H.cell 0 rfl rfl) ?_)
 refine sp (.int .i64 (szR (tot x.qh) left)) ?_
 refine sw (qZ #[.slice jM x.qp.length jL, .int .i64 (szR (tot x.qh) left)] rfl rfl Tryz.call29 (szInt64SS_ok w3 x.qp (szR (tot x.qh) left) jM jL Xj (H.get 1 rfl).1 (by omega)) ?_)
 rintro _ w6 rfl x7
 replace H := H.ext x7
 have := zx (tot x.qp) (szR (tot x.qh) left)
 refine sp (.int .i64 (szR (tot x.qp) (szR (tot x.qh) left))) ?_
 refine qx (t_n (qm (qm (qA ?_))))
 refine sps [.int .i64 (szR (tot x.qp) (szR (tot x.qh) left)), .bool (decide ((szR (tot x.qp) (szR (tot x.qh) left) : Int) < 0))] ?_
 refine qx (t_n ?_)
 refine qW (decide ((szR (tot x.qp) (szR (tot x.qh) left) : Int) < 0)) rfl (fun h8 => ?_) (fun h8 => ?_)
 ·skip
  replace h8 := of_decide_eq_true h8
  refine qm (qA ?_)
  refine sp (.int .i64 (-1)) ?_
  refine qx (t_n (xC (t_r ?_)))
  refine ret1 (.int .i64 (-1)) rfl rfl ⟨_, rfl, ?_, H.base⟩
  refine congrArg (Value.int .i64) ?_
  have := zx (tot x) left
  rw [tot_StateD] at *
  try omega
 replace h8 := of_decide_eq_false h8
 refine xk (t_n (qm (qA ?_)))
 refine sw (qP b1 (0) 2 Tryz.underlying29 rfl rfl Tryz.sizeOf22 rfl ?_)
 refine sw (qE (.slice zG x.ql.length zF) Tryz.isAgg22 rfl (H.cell 0 rfl rfl) ?_)
 refine sp (.int .i64 (szR (tot x.qp) (szR (tot x.qh) left))) ?_
 refine sw (qZ #[.slice zG x.ql.length zF, .int .i64 (szR (tot x.qp) (szR (tot x.qh) left))] rfl rfl Tryz.call38 (Xl w6 x.ql (szR (tot x.qp) (szR (tot x.qh) left)) zG zF yz (H.get 2 rfl).1 (by omega)) ?_)
 rintro _ w9 rfl x10
 replace H := H.ext x10
 have := zx (tot x.ql) (szR (tot x.qp) (szR (tot x.qh) left))
 refine sp (.int .i64 (szR (tot x.ql) (szR (tot x.qp) (szR (tot x.qh) left)))) ?_
 refine qx (t_n (qm (qm (qA ?_))))
 refine sps [.int .i64 (szR (tot x.ql) (szR (tot x.qp) (szR (tot x.qh) left))), .bool (decide ((szR (tot x.ql) (szR (tot x.qp) (szR (tot x.qh) left)) : Int) < 0))] ?_
 refine qx (t_n ?_)
 refine qW (decide ((szR (tot x.ql) (szR (tot x.qp) (szR (tot x.qh) left)) : Int) < 0)) rfl (fun h11 => ?_) (fun h11 => ?_)
 ·skip
  replace h11 := of_decide_eq_true h11
  refine qm (qA ?_)
  refine sp (.int .i64 (-1)) ?_
  refine qx (t_n (xC (t_r ?_)))
  refine ret1 (.int .i64 (-1)) rfl rfl ⟨_, rfl, ?_, H.base⟩
  refine congrArg (Value.int .i64) ?_
  have := zx (tot x) left
  rw [tot_StateD] at *
  try omega
 replace h11 := of_decide_eq_false h11
 refine xk (t_n (qm (qA ?_)))
 refine sps [.int .i64 (szR (tot x.ql) (szR (tot x.qp) (szR (tot x.qh) left))), .int .i64 (szR (tot x.ql) (szR (tot x.qp) (szR (tot x.qh) left)))] ?_
 refine qx (t_n (xC ?_))
 refine ret1 (.int .i64 (szR (tot x.ql) (szR (tot x.qp) (szR (tot x.qh) left)))) rfl rfl ⟨_, rfl, ?_, H.base⟩
 refine congrArg (Value.int .i64) ?_
 have := zx (tot x) left
 rw [tot_StateD] at *
 try omega

theorem Xk (w : World) (x : List Int) (ax : Option Addr) (cx : Nat) (Fx : List Nat) (hx : qV.rep w Fx [.slice ax x.length cx] x) (p0 : tot x ≤ 2000000) : Calls Tryz.prog 25 #[.slice ax x.length cx] w (Ret (fun v w' => OwnNew w w' 2 v x) w) := by
 refine enter (n := 22) Tryz.func25 rfl Tryz.ntmps25 (Nat.le_of_ble_eq_true rfl) ?_
 have H := (St.start w).arg hx
 have nhx := qN hx
 clear hx
 have p1 := len_tot x
 refine qm (qA ?_)
 refine sp (.slice none 0 0) ?_
 refine qx (t_n (qm (qA ?_)))
 refine sp (.slice ax x.length cx) ?_
 refine sw (zX Tryz.underlying22 ax x.length cx rfl ?_)
 refine sw (o_make1 H Tryz.underlying22 ti2 rfl x.length rfl rfl (by omega) (by omega) fun b1 w2 H => ?_)
 replace H : St _ _ [.box b1 (List.replicate x.length (.int .i64 0)) 2] _ := H
 refine sp (.slice (aa b1 0) x.length x.length) ?_
 refine qx (t_n (qm (qm (qA ?_))))
 refine sp (.int .i64 0) ?_
 refine qx (t_n (xE ?_))
 refine zU (fun m' ρ w3 => ∃ (junk : Env) (k : Nat), ρ = upd (upd (upd (upd junk 0 (.slice ax x.length cx)) 2 (.slice none 0 0)) 3 (.slice (aa b1 0) x.length x.length)) 4 (.int .i64 k) ∧ (k ≤ x.length) ∧ m' = x.length - k ∧ St w w3 [.box b1 ((x.take k).map (Value.int .i64) ++ List.replicate (x.length - (k)) (.int .i64 0)) 2] [isF false Fx (.slice ax x.length cx) x]) (x.length - 0) ⟨_, 0, (by exact qj (qj (qj (qj (rfl) rfl) rfl) rfl) rfl), (by omega), rfl, H⟩ ?_
 clear H
 rintro m' ρ w4 ⟨junk, k, rfl, i0, rfl, H⟩
 refine qm (qm (qA ?_))
 refine sps [.int .i64 k, .slice ax x.length cx] ?_
 refine sw (zX Tryz.underlying22 ax x.length cx rfl ?_)
 refine sp (.bool (decide ((k : Int) < x.length))) ?_
 refine qx (t_n ?_)
 refine qW (decide ((k : Int) < x.length)) rfl (fun h5 => ?_) (fun h5 => ?_)
 ·skip
  replace h5 := of_decide_eq_true h5
  refine xk (t_n (qm (xE (qA ?_))))
  refine sps [.slice (aa b1 0) x.length x.length, .int .i64 k, .slice ax x.length cx, .int .i64 k] ?_
  obtain ⟨b6, o7, rfl⟩ := H.addr 0 rfl (by omega)
  refine sw (xK k Tryz.underlying22 ti2 rfl rfl (by omega) (by omega) ?_)
  refine sw (qE (.int .i64 (x[k]!)) Tryz.isAgg2 rfl (H.jq 0 rfl k (by omega) (by omega)) ?_)
  refine sw (xK k Tryz.underlying22 ti2 rfl rfl (by omega) (by omega) ?_)
  refine sw (yR H 0 rfl (.int .i64 (x[k]!)) Tryz.sizeOf2 rfl rfl rfl (by simp only [List.length_append, List.length_replicate]; have : ((x.take k).map (Value.int .i64)).length = k := (by (simp; omega)); omega) fun w9 H => ?_)
  rw [fill_set (k := k) (by (simp; omega)) (by simp) (by omega)] at H
  replace H : St _ _ [.box b1 ((x.take k).map (Value.int .i64) ++ [.int .i64 (x[k]!)] ++ List.replicate (x.length - (k + 1)) (.int .i64 0)) 2] _ := H
  refine qx (b_n (t_n (qA ?_)))
  refine sp (.int .i64 k) ?_
  refine sw (zZ k 1 rfl rfl (by omega) ?_)
  refine sp (.int .i64 (k + 1)) ?_
  refine qx ?_
  rw [show (x.take k).map (Value.int .i64) ++ [.int .i64 (x[k]!)] = (x.take (k + 1)).map (Value.int .i64) from by exact map_take_snoc _ (by omega)] at H
  refine xH (m' := x.length - (k + 1)) (by omega) ⟨_, k + 1, (by exact qj (qj (qj (qj (rfl) rfl) rfl) rfl) rfl), ?_, rfl, H⟩
  · omega
 replace h5 := of_decide_eq_false h5
 refine zK (t_x (t_x (b_x (t_n (qm (qA ?_))))))
 refine sps [.slice (aa b1 0) x.length x.length, .slice (aa b1 0) x.length x.length] ?_
 refine qx (t_n (xC ?_))
 refine ret1 (.slice (aa b1 0) x.length x.length) rfl rfl ⟨_, rfl, ?_, H.base⟩
 rw [List.take_of_length_le (by omega : x.length ≤ k)] at H
 rw [fill_end1 (by omega)] at H
 replace H := H.boxRow 0 rfl 1 x.length (by (first | omega | (simp; done) | (simp; omega))) (by unfold maxLen; omega)
 exact H.newInts 0 rfl (by omega)

theorem toBoolS_ok (w : World) (x : List Bool) (ax : Option Addr) (cx : Nat) (Fx : List Nat) (hx : qV.rep w Fx [.slice ax x.length cx] x) (p0 : tot x ≤ 2000000) : Calls Tryz.prog 48 #[.slice ax x.length cx] w (Ret (fun v w' => OwnNew w w' 4 v x) w) := by
 refine enter (n := 22) Tryz.func48 rfl Tryz.ntmps48 (Nat.le_of_ble_eq_true rfl) ?_
 have H := (St.start w).arg hx
 have nhx := qN hx
 clear hx
 have p1 := len_tot x
 refine qm (qA ?_)
 refine sp (.slice none 0 0) ?_
 refine qx (t_n (qm (qA ?_)))
 refine sp (.slice ax x.length cx) ?_
 refine sw (zX Tryz.underlying26 ax x.length cx rfl ?_)
 refine sw (o_make1 H Tryz.underlying26 ti4 rfl x.length rfl rfl (by omega) (by omega) fun b1 w2 H => ?_)
 replace H : St _ _ [.box b1 (List.replicate x.length (.bool false)) 4] _ := H
 refine sp (.slice (aa b1 0) x.length x.length) ?_
 refine qx (t_n (qm (qm (qA ?_))))
 refine sp (.int .i64 0) ?_
 refine qx (t_n (xE ?_))
 refine zU (fun m' ρ w3 => ∃ (junk : Env) (k : Nat), ρ = upd (upd (upd (upd junk 0 (.slice ax x.length cx)) 2 (.slice none 0 0)) 3 (.slice (aa b1 0) x.length x.length)) 4 (.int .i64 k) ∧ (k ≤ x.length) ∧ m' = x.length - k ∧ St w w3 [.box b1 ((x.take k).map (Value.bool) ++ List.replicate (x.length - (k)) (.bool false)) 4] [isF false Fx (.slice ax x.length cx) x]) (x.length - 0) ⟨_, 0, (by exact qj (qj (qj (qj (rfl) rfl) rfl) rfl) rfl), (by omega), rfl, H⟩ ?_
 clear H
 rintro m' ρ w4 ⟨junk, k, rfl, i0, rfl, H⟩
 refine qm (qm (qA ?_))
 refine sps [.int .i64 k, .slice ax x.length cx] ?_
 refine sw (zX Tryz.underlying26 ax x.length cx rfl ?_)
 refine sp (.bool (decide ((k : Int) < x.length))) ?_
 refine qx (t_n ?_)
 refine qW (decide ((k : Int) < x.length)) rfl (fun h5 => ?_) (fun h5 => ?_)
 ·skip
  replace h5 := of_decide_eq_true h5
  refine xk (t_n (qm (xE (qA ?_))))
  refine sps [.slice (aa b1 0) x.length x.length, .int .i64 k, .slice ax x.length cx, .int .i64 k] ?_
  obtain ⟨b6, o7, rfl⟩ := H.addr 0 rfl (by omega)
  refine sw (xK k Tryz.underlying26 ti4 rfl rfl (by omega) (by omega) ?_)
  refine sw (qE (.bool (x[k]!)) Tryz.isAgg4 rfl (H.Q7 0 rfl k (by omega) (by omega)) ?_)
  refine sw (xK k Tryz.underlying26 ti4 rfl rfl (by omega) (by omega) ?_)
  refine sw (yR H 0 rfl (.bool (x[k]!)) Tryz.sizeOf4 rfl rfl rfl (by simp only [List.length_append, List.length_replicate]; have : ((x.take k).map (Value.bool)).length = k := (by (simp; omega)); omega) fun w9 H => ?_)
  rw [fill_set (k := k) (by (simp; omega)) (by simp) (by omega)] at H
  replace H : St _ _ [.box b1 ((x.take k).map (Value.bool) ++ [.bool (x[k]!)] ++ List.replicate (x.length - (k + 1)) (.bool false)) 4] _ := H
  refine qx (b_n (t_n (qA ?_)))
  refine sp (.int .i64 k) ?_
  refine sw (zZ k 1 rfl rfl (by omega) ?_)
  refine sp (.int .i64 (k + 1)) ?_
  refine qx ?_
  rw [show (x.take k).map (Value.bool) ++ [.bool (x[k]!)] = (x.take (k + 1)).map (Value.bool) from by exact map_take_snoc _ (by omega)] at H
  refine xH (m' := x.length - (k + 1)) (by omega) ⟨_, k + 1, (by exact qj (qj (qj (qj (rfl) rfl) rfl) rfl) rfl), ?_, rfl, H⟩
  · omega
 replace h5 := of_decide_eq_false h5
 refine zK (t_x (t_x (b_x (t_n (qm (qA ?_))))))
 refine sps [.slice (aa b1 0) x.length x.length, .slice (aa b1 0) x.length x.length] ?_
 refine qx (t_n (xC ?_))
 refine ret1 (.slice (aa b1 0) x.length x.length) rfl rfl ⟨_, rfl, ?_, H.base⟩
 rw [List.take_of_length_le (by omega : x.length ≤ k)] at H
 rw [fill_end1 (by omega)] at H
 replace H := H.boxRow 0 rfl 1 x.length (by (first | omega | (simp; done) | (simp; omega))) (by unfold maxLen; omega)
 exact H.newBools 0 rfl (by omega)

theorem Qq (w : World) (x : List (List Int)) (ax : Option Addr) (cx : Nat) (Fx : List Nat) (hx : qV.rep w Fx [.slice ax x.length cx] x) (p0 : tot x ≤ 2000000) : Calls Tryz.prog 31 #[.slice ax x.length cx] w (Ret (fun v w' => OwnNew w w' 22 v x) w) := by
 refine enter (n := 23) Tryz.func31 rfl Tryz.ntmps31 (Nat.le_of_ble_eq_true rfl) ?_
 have H := (St.start w).arg hx
 have nhx := qN hx
 clear hx
 have p1 := len_tot x
 refine qm (qA ?_)
 refine sp (.slice none 0 0) ?_
 refine qx (t_n (qm (qA ?_)))
 refine sp (.slice ax x.length cx) ?_
 refine sw (zX Tryz.underlying27 ax x.length cx rfl ?_)
 refine sw (o_make1 H Tryz.underlying27 ti22 rfl x.length rfl rfl (by omega) (by omega) fun b1 w2 H => ?_)
 replace H : St _ _ [.box b1 (List.replicate x.length (.slice none 0 0)) 22] _ := H
 refine sp (.slice (aa b1 0) x.length x.length) ?_
 refine qx (t_n (qm (qm (qA ?_))))
 refine sp (.int .i64 0) ?_
 refine qx (t_n (xE ?_))
 replace H := H.Qw (α := List Int)
 refine zU (fun m' ρ w3 => ∃ (junk : Env) (k : Nat) (xs3 : List Value) (Fr3 : List Nat), ρ = upd (upd (upd (upd junk 0 (.slice ax x.length cx)) 2 (.slice none 0 0)) 3 (.slice (aa b1 0) x.length x.length)) 4 (.int .i64 k) ∧ (k ≤ x.length) ∧ (xs3.length = k * 1) ∧ (∀ b ∈ Fr3, w.heap.size ≤ b) ∧ (Fr3.Nodup) ∧ m' = x.length - k ∧ St w w3 [.box b1 (xs3 ++ List.replicate (x.length - (k)) (.slice none 0 0)) 22] [vX true Fr3 xs3 (x.take k), isF false Fx (.slice ax x.length cx) x]) (x.length - 0) ⟨_, 0, [], [], (by exact qj (qj (qj (qj (rfl) rfl) rfl) rfl) rfl), (by omega), (by rfl), (by simp), (by simp), rfl, H⟩ ?_
 clear H
 rintro m' ρ w4 ⟨junk, k, xs3, Fr3, rfl, i0, hl3, nf3, nd3, rfl, H⟩
 have p2 := fun h => tot_get (l := x) (k := k) h
 refine qm (qm (qA ?_))
 refine sps [.int .i64 k, .slice ax x.length cx] ?_
 refine sw (zX Tryz.underlying27 ax x.length cx rfl ?_)
 refine sp (.bool (decide ((k : Int) < x.length))) ?_
 refine qx (t_n ?_)
 refine qW (decide ((k : Int) < x.length)) rfl (fun h5 => ?_) (fun h5 => ?_)
 ·skip
  replace h5 := of_decide_eq_true h5
  refine xk (t_n (qm (xE (qA ?_))))
  refine sps [.slice (aa b1 0) x.length x.length, .int .i64 k, .slice ax x.length cx, .int .i64 k] ?_
  obtain ⟨b6, o7, rfl⟩ := H.addr 1 rfl (by omega)
  obtain ⟨ae8, ce8, Fe8, H⟩ := H.yH 1 rfl k k (by omega) (by omega) (by omega)
  refine sw (xK k Tryz.underlying27 ti22 rfl rfl (by omega) (by omega) ?_)
  refine sw (qE (.slice ae8 ((x[k]!).length) ce8) Tryz.isAgg22 rfl (H.xY 1 rfl 0 rfl) ?_)
  have szx10 := H.base.size
  have lt11 := H.repsLt 2 rfl
  refine sw (qZ #[.slice ae8 ((x[k]!).length) ce8] rfl rfl Tryz.call25 (Xk w4 (x[k]!) ae8 ce8 Fe8 (H.get 0 rfl).1 (by first | omega | (have := p2 (by omega); omega))) ?_)
  rintro v12 w9 r12 x10
  obtain ⟨a12, c12, F12, rfl, f12, H⟩ := H.add_is x10 r12.isNew
  have d12 := f12.2
  have q12 := f12.1
  replace f12 : ∀ b ∈ F12, w.heap.size ≤ b := fun b hb => Nat.le_trans szx10 (f12.1 b hb)
  refine sw (xK k Tryz.underlying27 ti22 rfl rfl (by omega) (by omega) ?_)
  refine sw (yR H 0 rfl (.slice a12 ((x[k]!).length) c12) Tryz.sizeOf22 rfl rfl rfl (by simp only [List.length_append, List.length_replicate]; have : (xs3).length = k := (by (omega)); omega) fun w14 H => ?_)
  rw [fill_set (k := k) (by (omega)) (by simp) (by omega)] at H
  replace H : St _ _ [.box b1 (xs3 ++ [.slice a12 ((x[k]!).length) c12] ++ List.replicate (x.length - (k + 1)) (.slice none 0 0)) 22] _ := H
  refine qx (b_n (t_n (qA ?_)))
  refine sp (.int .i64 k) ?_
  refine sw (zZ k 1 rfl rfl (by omega) ?_)
  refine sp (.int .i64 (k + 1)) ?_
  refine qx ?_
  replace H := H.repsSnoc 3 rfl 0 rfl
  rw [show (x.take k) ++ [(x[k]!)] = x.take (k + 1) from by exact take_snoc (by omega)] at H
  refine xH (m' := x.length - (k + 1)) (by omega) ⟨_, k + 1, (xs3 ++ [.slice a12 ((x[k]!).length) c12]), (Fr3 ++ F12), (by exact qj (qj (qj (qj (rfl) rfl) rfl) rfl) rfl), ?_, ?_, ?_, ?_, rfl, H.sel _ (.refl _) _ (by simp)⟩
  · omega
  · first | (simp only [List.length_append, List.length_cons, List.length_nil]; omega) | (simp [hl3]; done) | (simp; omega)
  · exact Xe nf3 f12
  · exact Xb nd3 d12 lt11 q12
 replace h5 := of_decide_eq_false h5
 refine zK (t_x (t_x (b_x (t_n (qm (qA ?_))))))
 refine sps [.slice (aa b1 0) x.length x.length, .slice (aa b1 0) x.length x.length] ?_
 refine qx (t_n (xC ?_))
 refine ret1 (.slice (aa b1 0) x.length x.length) rfl rfl ⟨_, rfl, ?_, H.base⟩
 rw [List.take_of_length_le (by omega : x.length ≤ k)] at H
 rw [fill_end1 (by omega)] at H
 replace H := H.boxRow 0 rfl 1 x.length (by omega) (by unfold maxLen; omega)
 exact H.newRow 0 rfl 0 rfl (by omega) (by assumption) (by assumption)

theorem toInto_ok (w : World) (x : IntoD) (axBag : Option Addr) (cxBag : Nat) (FxBag : List Nat) (hxBag : qV.rep w FxBag [.slice axBag x.vH.length cxBag] x.vH) (p0 : tot x ≤ 2000000) : Calls Tryz.prog 161 #[.agg #[.int .i64 x.qy, .slice axBag x.vH.length cxBag]] w (Ret (fun v w' => New_IntoD w w' v x) w) := by
 refine enter (n := 12) Tryz.func161 rfl Tryz.ntmps161 (Nat.le_of_ble_eq_true rfl) ?_
 have H := (St.start w).arg hxBag
 have nhxBag := qN hxBag
 clear hxBag
 have p1 := tot_IntoD x
 refine qm (qA ?_)
 refine sw (o_box H (.agg #[.int .i64 x.qy, .slice axBag x.vH.length cxBag]) rfl fun b1 w2 H => ?_)
 replace H : St _ _ [.box b1 [.int .i64 x.qy, .slice axBag x.vH.length cxBag] 167] _ := H
 refine sw (o_alloc H ti115 fun b3 w4 H => ?_)
 replace H : St _ _ [.box b3 [.int .i64 0, .slice none 0 0] 115, .box b1 [.int .i64 x.qy, .slice axBag x.vH.length cxBag] 167] _ := H
 refine qx (t_n (qm (qA ?_)))
 refine sw (o_alloc H ti115 fun b5 w6 H => ?_)
 replace H : St _ _ [.box b5 [.int .i64 0, .slice none 0 0] 115, .box b3 [.int .i64 0, .slice none 0 0] 115, .box b1 [.int .i64 x.qy, .slice axBag x.vH.length cxBag] 167] _ := H
 refine qx (t_n (qm (qA ?_)))
 refine sw (qP b1 (0) 0 Tryz.underlying167 rfl rfl Tryz.sizeOf2 rfl ?_)
 refine sw (qE (.int .i64 x.qy) Tryz.isAgg2 rfl (H.cell 2 rfl rfl) ?_)
 refine sw (qP b5 (0) 0 Tryz.underlying115 rfl rfl Tryz.sizeOf2 rfl ?_)
 refine sw (yR H 0 rfl (.int .i64 x.qy) Tryz.sizeOf2 rfl rfl rfl (Nat.le_of_ble_eq_true rfl) fun w7 H => ?_)
 replace H : St _ _ [.box b5 [.int .i64 x.qy, .slice none 0 0] 115, .box b3 [.int .i64 0, .slice none 0 0] 115, .box b1 [.int .i64 x.qy, .slice axBag x.vH.length cxBag] 167] _ := H
 refine qx (t_n (qm (qA ?_)))
 refine sw (qP b1 (0) 1 Tryz.underlying167 rfl rfl Tryz.sizeOf22 rfl ?_)
 refine sw (qE (.slice axBag x.vH.length cxBag) Tryz.isAgg22 rfl (H.cell 2 rfl rfl) ?_)
 have szx9 := H.base.size
 refine sw (qZ #[.slice axBag x.vH.length cxBag] rfl rfl Tryz.call25 (Xk w7 x.vH axBag cxBag FxBag (H.get 0 rfl).1 (by first | omega | (have := p2 (by omega); omega))) ?_)
 rintro v10 w8 r10 x9
 obtain ⟨a10, c10, F10, rfl, f10, H⟩ := H.add_is x9 r10.isNew
 have d10 := f10.2
 have q10 := f10.1
 replace f10 : ∀ b ∈ F10, w.heap.size ≤ b := fun b hb => Nat.le_trans szx9 (f10.1 b hb)
 refine sw (qP b5 (0) 1 Tryz.underlying115 rfl rfl Tryz.sizeOf22 rfl ?_)
 refine sw (yR H 0 rfl (.slice a10 x.vH.length c10) Tryz.sizeOf22 rfl rfl rfl (Nat.le_of_ble_eq_true rfl) fun w11 H => ?_)
 replace H : St _ _ [.box b5 [.int .i64 x.qy, .slice a10 x.vH.length c10] 115, .box b3 [.int .i64 0, .slice none 0 0] 115, .box b1 [.int .i64 x.qy, .slice axBag x.vH.length cxBag] 167] _ := H
 refine qx (t_n (qm (qA ?_)))
 refine sw (zg [.int .i64 x.qy, .slice a10 x.vH.length c10] Tryz.isAgg115 Tryz.sizeOf115 rfl (qH (H.cells 0 rfl) 0 2) ?_)
 refine sw (o_store H 1 rfl (.agg #[.int .i64 x.qy, .slice a10 x.vH.length c10]) Tryz.sizeOf115 rfl rfl (by simp [Value.oneCell', Value.cells]) (Nat.le_of_ble_eq_true rfl) fun w12 H => ?_)
 replace H : St _ _ [.box b5 [.int .i64 x.qy, .slice a10 x.vH.length c10] 115, .box b3 [.int .i64 x.qy, .slice a10 x.vH.length c10] 115, .box b1 [.int .i64 x.qy, .slice axBag x.vH.length cxBag] 167] _ := H
 refine qx (t_n (xC ?_))
 refine retC H 1 rfl rfl Tryz.isAgg115 Tryz.sizeOf115 rfl ⟨_, rfl, ?_, H.base⟩
 exact ⟨_, _, _, rfl, (H.get 0 rfl).1, f10, d10, ((H.get 0 rfl).2 rfl)⟩

theorem toIntoS_ok (w : World) (x : List IntoD) (ax : Option Addr) (cx : Nat) (Fx : List Nat) (hx : qV.rep w Fx [.slice ax x.length cx] x) (p0 : tot x ≤ 2000000) : Calls Tryz.prog 140 #[.slice ax x.length cx] w (Ret (fun v w' => OwnNew w w' 115 v x) w) := by
 refine enter (n := 23) Tryz.func140 rfl Tryz.ntmps140 (Nat.le_of_ble_eq_true rfl) ?_
 have H := (St.start w).arg hx
 have nhx := qN hx
 clear hx
 have p1 := len_tot x
 refine qm (qA ?_)
 refine sp (.slice none 0 0) ?_
 refine qx (t_n (qm (qA ?_)))
 refine sp (.slice ax x.length cx) ?_
 refine sw (zX Tryz.underlying103 ax x.length cx rfl ?_)
 refine sw (o_makeN H Tryz.underlying108 ti115 rfl (by decide) x.length rfl rfl (by omega) (by omega) fun b1 w2 H => ?_)
 replace H : St _ _ [.box b1 ((List.replicate x.length [.int .i64 0, .slice none 0 0]).flatten) 115] _ := H
 refine sp (.slice (aa b1 0) x.length x.length) ?_
 refine qx (t_n (qm (qm (qA ?_))))
 refine sp (.int .i64 0) ?_
 refine qx (t_n (xE ?_))
 replace H := H.Qw (α := IntoD)
 refine zU (fun m' ρ w3 => ∃ (junk : Env) (k : Nat) (xs3 : List Value) (Fr3 : List Nat), ρ = upd (upd (upd (upd junk 0 (.slice ax x.length cx)) 2 (.slice none 0 0)) 3 (.slice (aa b1 0) x.length x.length)) 4 (.int .i64 k) ∧ (k ≤ x.length) ∧ (xs3.length = k * 2) ∧ (∀ b ∈ Fr3, w.heap.size ≤ b) ∧ (Fr3.Nodup) ∧ m' = x.length - k ∧ St w w3 [.box b1 (xs3 ++ (List.replicate (x.length - (k)) [.int .i64 0, .slice none 0 0]).flatten) 115] [vX true Fr3 xs3 (x.take k), isF false Fx (.slice ax x.length cx) x]) (x.length - 0) ⟨_, 0, [], [], (by exact qj (qj (qj (qj (rfl) rfl) rfl) rfl) rfl), (by omega), (by rfl), (by simp), (by simp), rfl, H⟩ ?_
 clear H
 rintro m' ρ w4 ⟨junk, k, xs3, Fr3, rfl, i0, hl3, nf3, nd3, rfl, H⟩
 have p2 := fun h => tot_get (l := x) (k := k) h
 refine qm (qm (qA ?_))
 refine sps [.int .i64 k, .slice ax x.length cx] ?_
 refine sw (zX Tryz.underlying103 ax x.length cx rfl ?_)
 refine sp (.bool (decide ((k : Int) < x.length))) ?_
 refine qx (t_n ?_)
 refine qW (decide ((k : Int) < x.length)) rfl (fun h5 => ?_) (fun h5 => ?_)
 ·skip
  replace h5 := of_decide_eq_true h5
  refine xk (t_n (qm (xE (qA ?_))))
  refine sps [.slice (aa b1 0) x.length x.length, .int .i64 k, .slice ax x.length cx, .int .i64 k] ?_
  obtain ⟨b6, o7, rfl⟩ := H.addr 1 rfl (by omega)
  obtain ⟨ae8Bag, ce8Bag, Fe8Bag, H⟩ := H.jT 1 rfl k k (by omega) (by omega) (by omega)
  refine sw (xK k Tryz.underlying103 ti167 rfl rfl (by omega) (by omega) ?_)
  refine sw (zg [.int .i64 ((x[k]!).qy), .slice ae8Bag (((x[k]!).vH).length) ce8Bag] Tryz.isAgg167 Tryz.sizeOf167 rfl (qH (H.get 1 rfl) 0 2) ?_)
  have szx10 := H.base.size
  have lt11 := H.repsLt 2 rfl
  refine sw (qZ #[.agg #[.int .i64 ((x[k]!).qy), .slice ae8Bag (((x[k]!).vH).length) ce8Bag]] rfl rfl Tryz.call161 (toInto_ok w4 (x[k]!) ae8Bag ce8Bag Fe8Bag (H.get 0 rfl).1 (by omega)) ?_)
  rintro v12 w9 r12 x10
  obtain ⟨a12Bag, c12Bag, F12Bag, rfl, f12, H⟩ := H.add_IntoD x10 r12
  have d12 := f12.2
  have q12 := f12.1
  replace f12 : ∀ b ∈ F12Bag, w.heap.size ≤ b := fun b hb => Nat.le_trans szx10 (f12.1 b hb)
  refine sw (xK k Tryz.underlying108 ti115 rfl rfl (by omega) (by omega) ?_)
  refine sw (o_store H 0 rfl (.agg #[.int .i64 ((x[k]!).qy), .slice a12Bag (((x[k]!).vH).length) c12Bag]) Tryz.sizeOf115 rfl rfl (by simp [Value.oneCell', Value.cells]) (by have : (xs3).length = k * 2 := (by (exact hl3)); simp [Value.cells]; have := fill_room (n := x.length) (k := k) (s := 2) (by omega); simp at this; omega) fun w14 H => ?_)
  replace H : St _ _ [.box b1 (xs3 ++ [.int .i64 ((x[k]!).qy), .slice a12Bag (((x[k]!).vH).length) c12Bag] ++ (List.replicate (x.length - (k + 1)) [.int .i64 0, .slice none 0 0]).flatten) 115] _ := (fill_put (vs := [.int .i64 ((x[k]!).qy), .slice a12Bag (((x[k]!).vH).length) c12Bag]) (zs := [.int .i64 0, .slice none 0 0]) (off := 0 + (k : Int).toNat * 2) (xs := xs3) (k := k) (s := 2) (n := x.length) (by (exact hl3)) (by simp) rfl rfl (by omega)) ▸ H
  replace H : St _ _ [.box b1 (xs3 ++ [.int .i64 ((x[k]!).qy), .slice a12Bag (((x[k]!).vH).length) c12Bag] ++ (List.replicate (x.length - (k + 1)) [.int .i64 0, .slice none 0 0]).flatten) 115] _ := H
  refine qx (b_n (t_n (qA ?_)))
  refine sp (.int .i64 k) ?_
  refine sw (zZ k 1 rfl rfl (by omega) ?_)
  refine sp (.int .i64 (k + 1)) ?_
  refine qx ?_
  replace H := H.snoc_IntoD 3 rfl ((x[k]!).qy) 0 rfl
  rw [show (x.take k) ++ [⟨(x[k]!).qy, (x[k]!).vH⟩] = x.take (k + 1) from by exact take_snoc (by omega)] at H
  refine xH (m' := x.length - (k + 1)) (by omega) ⟨_, k + 1, (xs3 ++ [.int .i64 ((x[k]!).qy), .slice a12Bag (((x[k]!).vH).length) c12Bag]), (Fr3 ++ F12Bag), (by exact qj (qj (qj (qj (rfl) rfl) rfl) rfl) rfl), ?_, ?_, ?_, ?_, rfl, H.sel _ (.refl _) _ (by simp)⟩
  · omega
  · first | (simp only [List.length_append, List.length_cons, List.length_nil]; omega) | (simp [hl3]; done) | (simp; omega)
  · exact Xe nf3 f12
  · exact Xb nd3 d12 lt11 q12
 replace h5 := of_decide_eq_false h5
 refine zK (t_x (t_x (b_x (t_n (qm (qA ?_))))))
 refine sps [.slice (aa b1 0) x.length x.length, .slice (aa b1 0) x.length x.length] ?_
 refine qx (t_n (xC ?_))
 refine ret1 (.slice (aa b1 0) x.length x.length) rfl rfl ⟨_, rfl, ?_, H.base⟩
 rw [List.take_of_length_le (by omega : x.length ≤ k)] at H
 rw [fill_endN (by omega)] at H
 replace H := H.boxRow 0 rfl 2 x.length (by omega) (by unfold maxLen; omega)
 exact H.newRow 0 rfl 0 rfl (by omega) (by assumption) (by assumption)

theorem toRule_ok (w : World) (x : QG) (Qi : Option Addr) (Qc : Nat) (FxNeed : List Nat) (Qm : Option Addr) (Qh : Nat) (FxHave : List Nat) (Qj : Option Addr) (Qd : Nat) (FxLack : List Nat) (Ql : Option Addr) (Qg : Nat) (FxHere : List Nat) (XE : Option Addr) (XD : Nat) (FxOut : List Nat) (Qk : Option Addr) (Qe : Nat) (FxInto : List Nat) (hxNeed : qV.rep w FxNeed [.slice Qi x.qR.length Qc] x.qR) (hxHave : qV.rep w FxHave [.slice Qm x.xh.length Qh] x.xh) (hxLack : qV.rep w FxLack [.slice Qj x.xm.length Qd] x.xm) (hxHere : qV.rep w FxHere [.slice Ql x.xB.length Qg] x.xB) (hxOut : qV.rep w FxOut [.slice XE x.zk.length XD] x.zk) (hxInto : qV.rep w FxInto [.slice Qk x.qC.length Qe] x.qC) (p0 : tot x ≤ 2000000) : Calls Tryz.prog 90 #[.agg #[.int .i64 x.qy, .int .i64 x.zh, .slice Qi x.qR.length Qc, .slice Qm x.xh.length Qh, .slice Qj x.xm.length Qd, .slice Ql x.xB.length Qg, .slice XE x.zk.length XD, .slice Qk x.qC.length Qe, .bool x.xQ]] w (Ret (fun v w' => New_RuleD w w' v x) w) := by
 refine enter (n := 38) Tryz.func90 rfl Tryz.ntmps90 (Nat.le_of_ble_eq_true rfl) ?_
 have H := ((((((St.start w).arg hxInto).arg hxOut).arg hxHere).arg hxLack).arg hxHave).arg hxNeed
 have nhxNeed := qN hxNeed
 have nhxHave := qN hxHave
 have nhxLack := qN hxLack
 have nhxHere := qN hxHere
 have nhxOut := qN hxOut
 have nhxInto := qN hxInto
 clear hxNeed hxHave hxLack hxHere hxOut hxInto
 have p1 := tot_RuleD x
 refine qm (qA ?_)
 refine sw (o_box H (.agg #[.int .i64 x.qy, .int .i64 x.zh, .slice Qi x.qR.length Qc, .slice Qm x.xh.length Qh, .slice Qj x.xm.length Qd, .slice Ql x.xB.length Qg, .slice XE x.zk.length XD, .slice Qk x.qC.length Qe, .bool x.xQ]) rfl fun b1 w2 H => ?_)
 replace H : St _ _ [.box b1 [.int .i64 x.qy, .int .i64 x.zh, .slice Qi x.qR.length Qc, .slice Qm x.xh.length Qh, .slice Qj x.xm.length Qd, .slice Ql x.xB.length Qg, .slice XE x.zk.length XD, .slice Qk x.qC.length Qe, .bool x.xQ] 105] _ := H
 refine sw (o_alloc H ti110 fun b3 w4 H => ?_)
 replace H : St _ _ [.box b3 [.int .i64 0, .int .i64 0, .slice none 0 0, .slice none 0 0, .slice none 0 0, .slice none 0 0, .slice none 0 0, .slice none 0 0, .bool false] 110, .box b1 [.int .i64 x.qy, .int .i64 x.zh, .slice Qi x.qR.length Qc, .slice Qm x.xh.length Qh, .slice Qj x.xm.length Qd, .slice Ql x.xB.length Qg, .slice XE x.zk.length XD, .slice Qk x.qC.length Qe, .bool x.xQ] 105] _ := H
 refine qx (t_n (qm (qA ?_)))
 refine sw (o_alloc H ti110 fun b5 w6 H => ?_)
 replace H : St _ _ [.box b5 [.int .i64 0, .int .i64 0, .slice none 0 0, .slice none 0 0, .slice none 0 0, .slice none 0 0, .slice none 0 0, .slice none 0 0, .bool false] 110, .box b3 [.int .i64 0, .int .i64 0, .slice none 0 0, .slice none 0 0, .slice none 0 0, .slice none 0 0, .slice none 0 0, .slice none 0 0, .bool false] 110, .box b1 [.int .i64 x.qy, .int .i64 x.zh, .slice Qi x.qR.length Qc, .slice Qm x.xh.length Qh, .slice Qj x.xm.length Qd, .slice Ql x.xB.length Qg, .slice XE x.zk.length XD, .slice Qk x.qC.length Qe, .bool x.xQ] 105] _ := H
 refine qx (t_n (qm (qA ?_)))
 refine sw (qP b1 (0) 0 Tryz.underlying105 rfl rfl Tryz.sizeOf2 rfl ?_)
 refine sw (qE (.int .i64 x.qy) Tryz.isAgg2 rfl (H.cell 2 rfl rfl) ?_)
 refine sw (qP b5 (0) 0 Tryz.underlying110 rfl rfl Tryz.sizeOf2 rfl ?_)
 refine sw (yR H 0 rfl (.int .i64 x.qy) Tryz.sizeOf2 rfl rfl rfl (Nat.le_of_ble_eq_true rfl) fun w7 H => ?_)
 replace H : St _ _ [.box b5 [.int .i64 x.qy, .int .i64 0, .slice none 0 0, .slice none 0 0, .slice none 0 0, .slice none 0 0, .slice none 0 0, .slice none 0 0, .bool false] 110, .box b3 [.int .i64 0, .int .i64 0, .slice none 0 0, .slice none 0 0, .slice none 0 0, .slice none 0 0, .slice none 0 0, .slice none 0 0, .bool false] 110, .box b1 [.int .i64 x.qy, .int .i64 x.zh, .slice Qi x.qR.length Qc, .slice Qm x.xh.length Qh, .slice Qj x.xm.length Qd, .slice Ql x.xB.length Qg, .slice XE x.zk.length XD, .slice Qk x.qC.length Qe, .bool x.xQ] 105] _ := H
 refine qx (t_n (qm (qA ?_)))
 refine sw (qP b1 (0) 1 Tryz.underlying105 rfl rfl Tryz.sizeOf2 rfl ?_)
 refine sw (qE (.int .i64 x.zh) Tryz.isAgg2 rfl (H.cell 2 rfl rfl) ?_)
 refine sw (qP b5 (0) 1 Tryz.underlying110 rfl rfl Tryz.sizeOf2 rfl ?_)
 refine sw (yR H 0 rfl (.int .i64 x.zh) Tryz.sizeOf2 rfl rfl rfl (Nat.le_of_ble_eq_true rfl) fun w8 H => ?_)
 replace H : St _ _ [.box b5 [.int .i64 x.qy, .int .i64 x.zh, .slice none 0 0, .slice none 0 0, .slice none 0 0, .slice none 0 0, .slice none 0 0, .slice none 0 0, .bool false] 110, .box b3 [.int .i64 0, .int .i64 0, .slice none 0 0, .slice none 0 0, .slice none 0 0, .slice none 0 0, .slice none 0 0, .slice none 0 0, .bool false] 110, .box b1 [.int .i64 x.qy, .int .i64 x.zh, .slice Qi x.qR.length Qc, .slice Qm x.xh.length Qh, .slice Qj x.xm.length Qd, .slice Ql x.xB.length Qg, .slice XE x.zk.length XD, .slice Qk x.qC.length Qe, .bool x.xQ] 105] _ := H
 refine qx (t_n (qm (qA ?_)))
 refine sw (qP b1 (0) 2 Tryz.underlying105 rfl rfl Tryz.sizeOf22 rfl ?_)
 refine sw (qE (.slice Qi x.qR.length Qc) Tryz.isAgg22 rfl (H.cell 2 rfl rfl) ?_)
 have szx10 := H.base.size
 refine sw (qZ #[.slice Qi x.qR.length Qc] rfl rfl Tryz.call25 (Xk w8 x.qR Qi Qc FxNeed (H.get 0 rfl).1 (by first | omega | (have := p2 (by omega); omega))) ?_)
 rintro v11 w9 r11 x10
 obtain ⟨a11, c11, F11, rfl, f11, H⟩ := H.add_is x10 r11.isNew
 have d11 := f11.2
 have q11 := f11.1
 replace f11 : ∀ b ∈ F11, w.heap.size ≤ b := fun b hb => Nat.le_trans szx10 (f11.1 b hb)
 refine sw (qP b5 (0) 2 Tryz.underlying110 rfl rfl Tryz.sizeOf22 rfl ?_)
 refine sw (yR H 0 rfl (.slice a11 x.qR.length c11) Tryz.sizeOf22 rfl rfl rfl (Nat.le_of_ble_eq_true rfl) fun w12 H => ?_)
 replace H : St _ _ [.box b5 [.int .i64 x.qy, .int .i64 x.zh, .slice a11 x.qR.length c11, .slice none 0 0, .slice none 0 0, .slice none 0 0, .slice none 0 0, .slice none 0 0, .bool false] 110, .box b3 [.int .i64 0, .int .i64 0, .slice none 0 0, .slice none 0 0, .slice none 0 0, .slice none 0 0, .slice none 0 0, .slice none 0 0, .bool false] 110, .box b1 [.int .i64 x.qy, .int .i64 x.zh, .slice Qi x.qR.length Qc, .slice Qm x.xh.length Qh, .slice Qj x.xm.length Qd, .slice Ql x.xB.length Qg, .slice XE x.zk.length XD, .slice Qk x.qC.length Qe, .bool x.xQ] 105] _ := H
 refine qx (t_n (qm (qA ?_)))
 refine sw (qP b1 (0) 3 Tryz.underlying105 rfl rfl Tryz.sizeOf22 rfl ?_)
 refine sw (qE (.slice Qm x.xh.length Qh) Tryz.isAgg22 rfl (H.cell 2 rfl rfl) ?_)
 have szx14 := H.base.size
 have lt15 := H.isLt 0 rfl
 refine sw (qZ #[.slice Qm x.xh.length Qh] rfl rfl Tryz.call25 (Xk w12 x.xh Qm Qh FxHave (H.get 2 rfl).1 (by first | omega | (have := p2 (by omega); omega))) ?_)
 rintro v16 w13 r16 x14
 obtain ⟨a16, c16, F16, rfl, f16, H⟩ := H.add_is x14 r16.isNew
 have d16 := f16.2
 have q16 := f16.1
 replace f16 : ∀ b ∈ F16, w.heap.size ≤ b := fun b hb => Nat.le_trans szx14 (f16.1 b hb)
 refine sw (qP b5 (0) 3 Tryz.underlying110 rfl rfl Tryz.sizeOf22 rfl ?_)
 refine sw (yR H 0 rfl (.slice a16 x.xh.length c16) Tryz.sizeOf22 rfl rfl rfl (Nat.le_of_ble_eq_true rfl) fun w17 H => ?_)
 replace H : St _ _ [.box b5 [.int .i64 x.qy, .int .i64 x.zh, .slice a11 x.qR.length c11, .slice a16 x.xh.length c16, .slice none 0 0, .slice none 0 0, .slice none 0 0, .slice none 0 0, .bool false] 110, .box b3 [.int .i64 0, .int .i64 0, .slice none 0 0, .slice none 0 0, .slice none 0 0, .slice none 0 0, .slice none 0 0, .slice none 0 0, .bool false] 110, .box b1 [.int .i64 x.qy, .int .i64 x.zh, .slice Qi x.qR.length Qc, .slice Qm x.xh.length Qh, .slice Qj x.xm.length Qd, .slice Ql x.xB.length Qg, .slice XE x.zk.length XD, .slice Qk x.qC.length Qe, .bool x.xQ] 105] _ := H
 refine qx (t_n (qm (qA ?_)))
 refine sw (qP b1 (0) 4 Tryz.underlying105 rfl rfl Tryz.sizeOf22 rfl ?_)
 refine sw (qE (.slice Qj x.xm.length Qd) Tryz.isAgg22 rfl (H.cell 2 rfl rfl) ?_)
 have szx19 := H.base.size
 have lt20 := H.isLt 0 rfl
 have lt21 := H.isLt 1 rfl
 refine sw (qZ #[.slice Qj x.xm.length Qd] rfl rfl Tryz.call25 (Xk w17 x.xm Qj Qd FxLack (H.get 4 rfl).1 (by first | omega | (have := p2 (by omega); omega))) ?_)
 rintro v22 w18 r22 x19
 obtain ⟨a22, c22, F22, rfl, f22, H⟩ := H.add_is x19 r22.isNew
 have d22 := f22.2
 have q22 := f22.1
 replace f22 : ∀ b ∈ F22, w.heap.size ≤ b := fun b hb => Nat.le_trans szx19 (f22.1 b hb)
 refine sw (qP b5 (0) 4 Tryz.underlying110 rfl rfl Tryz.sizeOf22 rfl ?_)
 refine sw (yR H 0 rfl (.slice a22 x.xm.length c22) Tryz.sizeOf22 rfl rfl rfl (Nat.le_of_ble_eq_true rfl) fun w23 H => ?_)
 replace H : St _ _ [.box b5 [.int .i64 x.qy, .int .i64 x.zh, .slice a11 x.qR.length c11, .slice a16 x.xh.length c16, .slice a22 x.xm.length c22, .slice none 0 0, .slice none 0 0, .slice none 0 0, .bool false] 110, .box b3 [.int .i64 0, .int .i64 0, .slice none 0 0, .slice none 0 0, .slice none 0 0, .slice none 0 0, .slice none 0 0, .slice none 0 0, .bool false] 110, .box b1 [.int .i64 x.qy, .int .i64 x.zh, .slice Qi x.qR.length Qc, .slice Qm x.xh.length Qh, .slice Qj x.xm.length Qd, .slice Ql x.xB.length Qg, .slice XE x.zk.length XD, .slice Qk x.qC.length Qe, .bool x.xQ] 105] _ := H
 refine qx (t_n (qm (qA ?_)))
 refine sw (qP b1 (0) 5 Tryz.underlying105 rfl rfl Tryz.sizeOf22 rfl ?_)
 refine sw (qE (.slice Ql x.xB.length Qg) Tryz.isAgg22 rfl (H.cell 2 rfl rfl) ?_)
 have szx25 := H.base.size
 have lt26 := H.isLt 0 rfl
 have lt27 := H.isLt 1 rfl
 have lt28 := H.isLt 2 rfl
 refine sw (qZ #[.slice Ql x.xB.length Qg] rfl rfl Tryz.call25 (Xk w23 x.xB Ql Qg FxHere (H.get 6 rfl).1 (by first | omega | (have := p2 (by omega); omega))) ?_)
 rintro v29 w24 r29 x25
 obtain ⟨a29, c29, F29, rfl, f29, H⟩ := H.add_is x25 r29.isNew
 have d29 := f29.2
 have q29 := f29.1
 replace f29 : ∀ b ∈ F29, w.heap.size ≤ b := fun b hb => Nat.le_trans szx25 (f29.1 b hb)
 refine sw (qP b5 (0) 5 Tryz.underlying110 rfl rfl Tryz.sizeOf22 rfl ?_)
 refine sw (yR H 0 rfl (.slice a29 x.xB.length c29) Tryz.sizeOf22 rfl rfl rfl (Nat.le_of_ble_eq_true rfl) fun w30 H => ?_)
 replace H : St _ _ [.box b5 [.int .i64 x.qy, .int .i64 x.zh, .slice a11 x.qR.length c11, .slice a16 x.xh.length c16, .slice a22 x.xm.length c22, .slice a29 x.xB.length c29, .slice none 0 0, .slice none 0 0, .bool false] 110, .box b3 [.int .i64 0, .int .i64 0, .slice none 0 0, .slice none 0 0, .slice none 0 0, .slice none 0 0, .slice none 0 0, .slice none 0 0, .bool false] 110, .box b1 [.int .i64 x.qy, .int .i64 x.zh, .slice Qi x.qR.length Qc, .slice Qm x.xh.length Qh, .slice Qj x.xm.length Qd, .slice Ql x.xB.length Qg, .slice XE x.zk.length XD, .slice Qk x.qC.length Qe, .bool x.xQ] 105] _ := H
 refine qx (t_n (qm (qA ?_)))
 refine sw (qP b1 (0) 6 Tryz.underlying105 rfl rfl Tryz.sizeOf22 rfl ?_)
 refine sw (qE (.slice XE x.zk.length XD) Tryz.isAgg22 rfl (H.cell 2 rfl rfl) ?_)
 have szx32 := H.base.size
 have lt33 := H.isLt 0 rfl
 have lt34 := H.isLt 1 rfl
 have lt35 := H.isLt 2 rfl
 have lt36 := H.isLt 3 rfl
 refine sw (qZ #[.slice XE x.zk.length XD] rfl rfl Tryz.call25 (Xk w30 x.zk XE XD FxOut (H.get 8 rfl).1 (by first | omega | (have := p2 (by omega); omega))) ?_)
 rintro v37 w31 r37 x32
 obtain ⟨a37, c37, F37, rfl, f37, H⟩ := H.add_is x32 r37.isNew
 have d37 := f37.2
 have q37 := f37.1
 replace f37 : ∀ b ∈ F37, w.heap.size ≤ b := fun b hb => Nat.le_trans szx32 (f37.1 b hb)
 refine sw (qP b5 (0) 6 Tryz.underlying110 rfl rfl Tryz.sizeOf22 rfl ?_)
 refine sw (yR H 0 rfl (.slice a37 x.zk.length c37) Tryz.sizeOf22 rfl rfl rfl (Nat.le_of_ble_eq_true rfl) fun w38 H => ?_)
 replace H : St _ _ [.box b5 [.int .i64 x.qy, .int .i64 x.zh, .slice a11 x.qR.length c11, .slice a16 x.xh.length c16, .slice a22 x.xm.length c22, .slice a29 x.xB.length c29, .slice a37 x.zk.length c37, .slice none 0 0, .bool false] 110, .box b3 [.int .i64 0, .int .i64 0, .slice none 0 0, .slice none 0 0, .slice none 0 0, .slice none 0 0, .slice none 0 0, .slice none 0 0, .bool false] 110, .box b1 [.int .i64 x.qy, .int .i64 x.zh, .slice Qi x.qR.length Qc, .slice Qm x.xh.length Qh, .slice Qj x.xm.length Qd, .slice Ql x.xB.length Qg, .slice XE x.zk.length XD, .slice Qk x.qC.length Qe, .bool x.xQ] 105] _ := H
 refine qx (t_n (qm (qA ?_)))
 refine sw (qP b1 (0) 7 Tryz.underlying105 rfl rfl Tryz.sizeOf103 rfl ?_)
 refine sw (qE (.slice Qk x.qC.length Qe) Tryz.isAgg103 rfl (H.cell 2 rfl rfl) ?_)
 have szx40 := H.base.size
 have lt41 := H.isLt 0 rfl
 have lt42 := H.isLt 1 rfl
 have lt43 := H.isLt 2 rfl
 have lt44 := H.isLt 3 rfl
 have lt45 := H.isLt 4 rfl
 refine sw (qZ #[.slice Qk x.qC.length Qe] rfl rfl Tryz.call140 (toIntoS_ok w38 x.qC Qk Qe FxInto (H.get 10 rfl).1 (by first | omega | (have := p2 (by omega); omega))) ?_)
 rintro v46 w39 r46 x40
 obtain ⟨a46, c46, F46, rfl, f46, H⟩ := H.add_is x40 r46.isNew
 have d46 := f46.2
 have q46 := f46.1
 replace f46 : ∀ b ∈ F46, w.heap.size ≤ b := fun b hb => Nat.le_trans szx40 (f46.1 b hb)
 refine sw (qP b5 (0) 7 Tryz.underlying110 rfl rfl Tryz.sizeOf108 rfl ?_)
 refine sw (yR H 0 rfl (.slice a46 x.qC.length c46) Tryz.sizeOf108 rfl rfl rfl (Nat.le_of_ble_eq_true rfl) fun w47 H => ?_)
 replace H : St _ _ [.box b5 [.int .i64 x.qy, .int .i64 x.zh, .slice a11 x.qR.length c11, .slice a16 x.xh.length c16, .slice a22 x.xm.length c22, .slice a29 x.xB.length c29, .slice a37 x.zk.length c37, .slice a46 x.qC.length c46, .bool false] 110, .box b3 [.int .i64 0, .int .i64 0, .slice none 0 0, .slice none 0 0, .slice none 0 0, .slice none 0 0, .slice none 0 0, .slice none 0 0, .bool false] 110, .box b1 [.int .i64 x.qy, .int .i64 x.zh, .slice Qi x.qR.length Qc, .slice Qm x.xh.length Qh, .slice Qj x.xm.length Qd, .slice Ql x.xB.length Qg, .slice XE x.zk.length XD, .slice Qk x.qC.length Qe, .bool x.xQ] 105] _ := H
 refine qx (t_n (qm (qA ?_)))
 refine sw (qP b1 (0) 8 Tryz.underlying105 rfl rfl Tryz.sizeOf4 rfl ?_)
 refine sw (qE (.bool x.xQ) Tryz.isAgg4 rfl (H.cell 2 rfl rfl) ?_)
 refine sw (qP b5 (0) 8 Tryz.underlying110 rfl rfl Tryz.sizeOf4 rfl ?_)
 refine sw (yR H 0 rfl (.bool x.xQ) Tryz.sizeOf4 rfl rfl rfl (Nat.le_of_ble_eq_true rfl) fun w48 H => ?_)
 replace H : St _ _ [.box b5 [.int .i64 x.qy, .int .i64 x.zh, .slice a11 x.qR.length c11, .slice a16 x.xh.length c16, .slice a22 x.xm.length c22, .slice a29 x.xB.length c29, .slice a37 x.zk.length c37, .slice a46 x.qC.length c46, .bool x.xQ] 110, .box b3 [.int .i64 0, .int .i64 0, .slice none 0 0, .slice none 0 0, .slice none 0 0, .slice none 0 0, .slice none 0 0, .slice none 0 0, .bool false] 110, .box b1 [.int .i64 x.qy, .int .i64 x.zh, .slice Qi x.qR.length Qc, .slice Qm x.xh.length Qh, .slice Qj x.xm.length Qd, .slice Ql x.xB.length Qg, .slice XE x.zk.length XD, .slice Qk x.qC.length Qe, .bool x.xQ] 105] _ := H
 refine qx (t_n (qm (qA ?_)))
 refine sw (zg [.int .i64 x.qy, .int .i64 x.zh, .slice a11 x.qR.length c11, .slice a16 x.xh.length c16, .slice a22 x.xm.length c22, .slice a29 x.xB.length c29, .slice a37 x.zk.length c37, .slice a46 x.qC.length c46, .bool x.xQ] Tryz.isAgg110 Tryz.sizeOf110 rfl (qH (H.cells 0 rfl) 0 9) ?_)
 refine sw (o_store H 1 rfl (.agg #[.int .i64 x.qy, .int .i64 x.zh, .slice a11 x.qR.length c11, .slice a16 x.xh.length c16, .slice a22 x.xm.length c22, .slice a29 x.xB.length c29, .slice a37 x.zk.length c37, .slice a46 x.qC.length c46, .bool x.xQ]) Tryz.sizeOf110 rfl rfl (by simp [Value.oneCell', Value.cells]) (Nat.le_of_ble_eq_true rfl) fun w49 H => ?_)
 replace H : St _ _ [.box b5 [.int .i64 x.qy, .int .i64 x.zh, .slice a11 x.qR.length c11, .slice a16 x.xh.length c16, .slice a22 x.xm.length c22, .slice a29 x.xB.length c29, .slice a37 x.zk.length c37, .slice a46 x.qC.length c46, .bool x.xQ] 110, .box b3 [.int .i64 x.qy, .int .i64 x.zh, .slice a11 x.qR.length c11, .slice a16 x.xh.length c16, .slice a22 x.xm.length c22, .slice a29 x.xB.length c29, .slice a37 x.zk.length c37, .slice a46 x.qC.length c46, .bool x.xQ] 110, .box b1 [.int .i64 x.qy, .int .i64 x.zh, .slice Qi x.qR.length Qc, .slice Qm x.xh.length Qh, .slice Qj x.xm.length Qd, .slice Ql x.xB.length Qg, .slice XE x.zk.length XD, .slice Qk x.qC.length Qe, .bool x.xQ] 105] _ := H
 refine qx (t_n (xC ?_))
 refine retC H 1 rfl rfl Tryz.isAgg110 Tryz.sizeOf110 rfl ⟨_, rfl, ?_, H.base⟩
 exact ⟨_, _, _, _, _, _, _, _, _, _, _, _, _, _, _, _, _, _, rfl, (H.get 5 rfl).1, (H.get 4 rfl).1, (H.get 3 rfl).1, (H.get 2 rfl).1, (H.get 1 rfl).1, (H.get 0 rfl).1, (Xe (Xe (Xe (Xe (Xe f11 f16) f22) f29) f37) f46), (Xb (Xb (Xb (Xb (Xb d11 d16 lt15 q16) d22 (Vd lt21 lt20) q22) d29 (Vd (Vd lt28 lt27) lt26) q29) d37 (Vd (Vd (Vd lt36 lt35) lt34) lt33) q37) d46 (Vd (Vd (Vd (Vd lt45 lt44) lt43) lt42) lt41) q46), (((((((H.get 5 rfl).2 rfl).app ((H.get 4 rfl).2 rfl)).app ((H.get 3 rfl).2 rfl)).app ((H.get 2 rfl).2 rfl)).app ((H.get 1 rfl).2 rfl)).app ((H.get 0 rfl).2 rfl))⟩

theorem toRuleS_ok (w : World) (x : List QG) (ax : Option Addr) (cx : Nat) (Fx : List Nat) (hx : qV.rep w Fx [.slice ax x.length cx] x) (p0 : tot x ≤ 2000000) : Calls Tryz.prog 47 #[.slice ax x.length cx] w (Ret (fun v w' => OwnNew w w' 110 v x) w) := by
 refine enter (n := 23) Tryz.func47 rfl Tryz.ntmps47 (Nat.le_of_ble_eq_true rfl) ?_
 have H := (St.start w).arg hx
 have nhx := qN hx
 clear hx
 have p1 := len_tot x
 refine qm (qA ?_)
 refine sp (.slice none 0 0) ?_
 refine qx (t_n (qm (qA ?_)))
 refine sp (.slice ax x.length cx) ?_
 refine sw (zX Tryz.underlying23 ax x.length cx rfl ?_)
 refine sw (o_makeN H Tryz.underlying34 ti110 rfl (by decide) x.length rfl rfl (by omega) (by omega) fun b1 w2 H => ?_)
 replace H : St _ _ [.box b1 ((List.replicate x.length [.int .i64 0, .int .i64 0, .slice none 0 0, .slice none 0 0, .slice none 0 0, .slice none 0 0, .slice none 0 0, .slice none 0 0, .bool false]).flatten) 110] _ := H
 refine sp (.slice (aa b1 0) x.length x.length) ?_
 refine qx (t_n (qm (qm (qA ?_))))
 refine sp (.int .i64 0) ?_
 refine qx (t_n (xE ?_))
 replace H := H.Qw (α := QG)
 refine zU (fun m' ρ w3 => ∃ (junk : Env) (k : Nat) (xs3 : List Value) (Fr3 : List Nat), ρ = upd (upd (upd (upd junk 0 (.slice ax x.length cx)) 2 (.slice none 0 0)) 3 (.slice (aa b1 0) x.length x.length)) 4 (.int .i64 k) ∧ (k ≤ x.length) ∧ (xs3.length = k * 9) ∧ (∀ b ∈ Fr3, w.heap.size ≤ b) ∧ (Fr3.Nodup) ∧ m' = x.length - k ∧ St w w3 [.box b1 (xs3 ++ (List.replicate (x.length - (k)) [.int .i64 0, .int .i64 0, .slice none 0 0, .slice none 0 0, .slice none 0 0, .slice none 0 0, .slice none 0 0, .slice none 0 0, .bool false]).flatten) 110] [vX true Fr3 xs3 (x.take k), isF false Fx (.slice ax x.length cx) x]) (x.length - 0) ⟨_, 0, [], [], (by exact qj (qj (qj (qj (rfl) rfl) rfl) rfl) rfl), (by omega), (by rfl), (by simp), (by simp), rfl, H⟩ ?_
 clear H
 rintro m' ρ w4 ⟨junk, k, xs3, Fr3, rfl, i0, hl3, nf3, nd3, rfl, H⟩
 have p2 := fun h => tot_get (l := x) (k := k) h
 refine qm (qm (qA ?_))
 refine sps [.int .i64 k, .slice ax x.length cx] ?_
 refine sw (zX Tryz.underlying23 ax x.length cx rfl ?_)
 refine sp (.bool (decide ((k : Int) < x.length))) ?_
 refine qx (t_n ?_)
 refine qW (decide ((k : Int) < x.length)) rfl (fun h5 => ?_) (fun h5 => ?_)
 ·skip
  replace h5 := of_decide_eq_true h5
  refine xk (t_n (qm (xE (qA ?_))))
  refine sps [.slice (aa b1 0) x.length x.length, .int .i64 k, .slice ax x.length cx, .int .i64 k] ?_
  obtain ⟨b6, o7, rfl⟩ := H.addr 1 rfl (by omega)
  obtain ⟨ae8Need, ce8Need, Fe8Need, ae8Have, ce8Have, Fe8Have, ae8Lack, ce8Lack, Fe8Lack, ae8Here, ce8Here, Fe8Here, ae8Out, ce8Out, Fe8Out, ae8Into, ce8Into, Fe8Into, H⟩ := H.yB 1 rfl k k (by omega) (by omega) (by omega)
  refine sw (xK k Tryz.underlying23 ti105 rfl rfl (by omega) (by omega) ?_)
  refine sw (zg [.int .i64 ((x[k]!).qy), .int .i64 ((x[k]!).zh), .slice ae8Need (((x[k]!).qR).length) ce8Need, .slice ae8Have (((x[k]!).xh).length) ce8Have, .slice ae8Lack (((x[k]!).xm).length) ce8Lack, .slice ae8Here (((x[k]!).xB).length) ce8Here, .slice ae8Out (((x[k]!).zk).length) ce8Out, .slice ae8Into (((x[k]!).qC).length) ce8Into, .bool ((x[k]!).xQ)] Tryz.isAgg105 Tryz.sizeOf105 rfl (qH (H.get 6 rfl) 0 9) ?_)
  have szx10 := H.base.size
  have lt11 := H.repsLt 7 rfl
  refine sw (qZ #[.agg #[.int .i64 ((x[k]!).qy), .int .i64 ((x[k]!).zh), .slice ae8Need (((x[k]!).qR).length) ce8Need, .slice ae8Have (((x[k]!).xh).length) ce8Have, .slice ae8Lack (((x[k]!).xm).length) ce8Lack, .slice ae8Here (((x[k]!).xB).length) ce8Here, .slice ae8Out (((x[k]!).zk).length) ce8Out, .slice ae8Into (((x[k]!).qC).length) ce8Into, .bool ((x[k]!).xQ)]] rfl rfl Tryz.call90 (toRule_ok w4 (x[k]!) ae8Need ce8Need Fe8Need ae8Have ce8Have Fe8Have ae8Lack ce8Lack Fe8Lack ae8Here ce8Here Fe8Here ae8Out ce8Out Fe8Out ae8Into ce8Into Fe8Into (H.get 0 rfl).1 (H.get 1 rfl).1 (H.get 2 rfl).1 (H.get 3 rfl).1 (H.get 4 rfl).1 (H.get 5 rfl).1 (by omega)) ?_)
  rintro v12 w9 r12 x10
  obtain ⟨a12Need, c12Need, F12Need, a12Have, c12Have, F12Have, a12Lack, c12Lack, F12Lack, a12Here, c12Here, F12Here, a12Out, c12Out, F12Out, a12Into, c12Into, F12Into, rfl, f12, H⟩ := H.add_RuleD x10 r12
  have d12 := f12.2
  have q12 := f12.1
  replace f12 : ∀ b ∈ (F12Need ++ F12Have ++ F12Lack ++ F12Here ++ F12Out ++ F12Into), w.heap.size ≤ b := fun b hb => Nat.le_trans szx10 (f12.1 b hb)
  refine sw (xK k Tryz.underlying34 ti110 rfl rfl (by omega) (by omega) ?_)
  refine sw (o_store H 0 rfl (.agg #[.int .i64 ((x[k]!).qy), .int .i64 ((x[k]!).zh), .slice a12Need (((x[k]!).qR).length) c12Need, .slice a12Have (((x[k]!).xh).length) c12Have, .slice a12Lack (((x[k]!).xm).length) c12Lack, .slice a12Here (((x[k]!).xB).length) c12Here, .slice a12Out (((x[k]!).zk).length) c12Out, .slice a12Into (((x[k]!).qC).length) c12Into, .bool ((x[k]!).xQ)]) Tryz.sizeOf110 rfl rfl (by simp [Value.oneCell', Value.cells]) (by have : (xs3).length = k * 9 := (by (exact hl3)); simp [Value.cells]; have := fill_room (n := x.length) (k := k) (s := 9) (by omega); simp at this; omega) fun w14 H => ?_)
  replace H : St _ _ [.box b1 (xs3 ++ [.int .i64 ((x[k]!).qy), .int .i64 ((x[k]!).zh), .slice a12Need (((x[k]!).qR).length) c12Need, .slice a12Have (((x[k]!).xh).length) c12Have, .slice a12Lack (((x[k]!).xm).length) c12Lack, .slice a12Here (((x[k]!).xB).length) c12Here, .slice a12Out (((x[k]!).zk).length) c12Out, .slice a12Into (((x[k]!).qC).length) c12Into, .bool ((x[k]!).xQ)] ++ (List.replicate (x.length - (k + 1)) [.int .i64 0, .int .i64 0, .slice none 0 0, .slice none 0 0, .slice none 0 0, .slice none 0 0, .slice none 0 0, .slice none 0 0, .bool false]).flatten) 110] _ := (fill_put (vs := [.int .i64 ((x[k]!).qy), .int .i64 ((x[k]!).zh), .slice a12Need (((x[k]!).qR).length) c12Need, .slice a12Have (((x[k]!).xh).length) c12Have, .slice a12Lack (((x[k]!).xm).length) c12Lack, .slice a12Here (((x[k]!).xB).length) c12Here, .slice a12Out (((x[k]!).zk).length) c12Out, .slice a12Into (((x[k]!).qC).length) c12Into, .bool ((x[k]!).xQ)]) (zs := [.int .i64 0, .int .i64 0, .slice none 0 0, .slice none 0 0, .slice none 0 0, .slice none 0 0, .slice none 0 0, .slice none 0 0, .bool false]) (off := 0 + (k : Int).toNat * 9) (xs := xs3) (k := k) (s := 9) (n := x.length) (by (exact hl3)) (by simp) rfl rfl (by omega)) ▸ H
  replace H : St _ _ [.box b1 (xs3 ++ [.int .i64 ((x[k]!).qy), .int .i64 ((x[k]!).zh), .slice a12Need (((x[k]!).qR).length) c12Need, .slice a12Have (((x[k]!).xh).length) c12Have, .slice a12Lack (((x[k]!).xm).length) c12Lack, .slice a12Here (((x[k]!).xB).length) c12Here, .slice a12Out (((x[k]!).zk).length) c12Out, .slice a12Into (((x[k]!).qC).length) c12Into, .bool ((x[k]!).xQ)] ++ (List.replicate (x.length - (k + 1)) [.int .i64 0, .int .i64 0, .slice none 0 0, .slice none 0 0, .slice none 0 0, .slice none 0 0, .slice none 0 0, .slice none 0 0, .bool false]).flatten) 110] _ := H
  refine qx (b_n (t_n (qA ?_)))
  refine sp (.int .i64 k) ?_
  refine sw (zZ k 1 rfl rfl (by omega) ?_)
  refine sp (.int .i64 (k + 1)) ?_
  refine qx ?_
  replace H := H.snoc_RuleD 13 rfl ((x[k]!).qy) ((x[k]!).zh) 0 rfl 1 rfl 2 rfl 3 rfl 4 rfl 5 rfl ((x[k]!).xQ)
  rw [show (x.take k) ++ [⟨(x[k]!).qy, (x[k]!).zh, (x[k]!).qR, (x[k]!).xh, (x[k]!).xm, (x[k]!).xB, (x[k]!).zk, (x[k]!).qC, (x[k]!).xQ⟩] = x.take (k + 1) from by exact take_snoc (by omega)] at H
  refine xH (m' := x.length - (k + 1)) (by omega) ⟨_, k + 1, (xs3 ++ [.int .i64 ((x[k]!).qy), .int .i64 ((x[k]!).zh), .slice a12Need (((x[k]!).qR).length) c12Need, .slice a12Have (((x[k]!).xh).length) c12Have, .slice a12Lack (((x[k]!).xm).length) c12Lack, .slice a12Here (((x[k]!).xB).length) c12Here, .slice a12Out (((x[k]!).zk).length) c12Out, .slice a12Into (((x[k]!).qC).length) c12Into, .bool ((x[k]!).xQ)]), (Fr3 ++ (F12Need ++ F12Have ++ F12Lack ++ F12Here ++ F12Out ++ F12Into)), (by exact qj (qj (qj (qj (rfl) rfl) rfl) rfl) rfl), ?_, ?_, ?_, ?_, rfl, H.sel _ (.refl _) _ (by simp)⟩
  · omega
  · first | (simp only [List.length_append, List.length_cons, List.length_nil]; omega) | (simp [hl3]; done) | (simp; omega)
  · exact Xe nf3 f12
  · exact Xb nd3 d12 lt11 q12
 replace h5 := of_decide_eq_false h5
 refine zK (t_x (t_x (b_x (t_n (qm (qA ?_))))))
 refine sps [.slice (aa b1 0) x.length x.length, .slice (aa b1 0) x.length x.length] ?_
 refine qx (t_n (xC ?_))
 refine ret1 (.slice (aa b1 0) x.length x.length) rfl rfl ⟨_, rfl, ?_, H.base⟩
 rw [List.take_of_length_le (by omega : x.length ≤ k)] at H
 rw [fill_endN (by omega)] at H
 replace H := H.boxRow 0 rfl 9 x.length (by omega) (by unfold maxLen; omega)
 exact H.newRow 0 rfl 0 rfl (by omega) (by assumption) (by assumption)

theorem toSystem_ok (w : World) (x : qX) (zI : Option Addr) (zH : Nat) (yu : List Nat) (jA : Option Addr) (jy : Nat) (QV : List Nat) (Qz : qV.rep w yu [.slice zI x.qf.length zH] x.qf) (Vb : qV.rep w QV [.slice jA x.qg.length jy] x.qg) (p0 : tot x ≤ 2000000) : Calls Tryz.prog 11 #[.agg #[.int .i64 x.qJ, .slice zI x.qf.length zH, .slice jA x.qg.length jy]] w (Ret (fun v w' => New_SystemD w w' v x) w) := by
 refine enter (n := 16) Tryz.func11 rfl Tryz.ntmps11 (Nat.le_of_ble_eq_true rfl) ?_
 have H := ((St.start w).arg Vb).arg Qz
 have nhxParents := qN Qz
 have nhxRules := qN Vb
 clear Qz Vb
 have p1 := tot_SystemD x
 refine qm (qA ?_)
 refine sw (o_box H (.agg #[.int .i64 x.qJ, .slice zI x.qf.length zH, .slice jA x.qg.length jy]) rfl fun b1 w2 H => ?_)
 replace H : St _ _ [.box b1 [.int .i64 x.qJ, .slice zI x.qf.length zH, .slice jA x.qg.length jy] 25] _ := H
 refine sw (o_alloc H ti36 fun b3 w4 H => ?_)
 replace H : St _ _ [.box b3 [.int .i64 0, .slice none 0 0, .slice none 0 0] 36, .box b1 [.int .i64 x.qJ, .slice zI x.qf.length zH, .slice jA x.qg.length jy] 25] _ := H
 refine qx (t_n (qm (qA ?_)))
 refine sw (o_alloc H ti36 fun b5 w6 H => ?_)
 replace H : St _ _ [.box b5 [.int .i64 0, .slice none 0 0, .slice none 0 0] 36, .box b3 [.int .i64 0, .slice none 0 0, .slice none 0 0] 36, .box b1 [.int .i64 x.qJ, .slice zI x.qf.length zH, .slice jA x.qg.length jy] 25] _ := H
 refine qx (t_n (qm (qA ?_)))
 refine sw (qP b1 (0) 0 Tryz.underlying25 rfl rfl Tryz.sizeOf2 rfl ?_)
 refine sw (qE (.int .i64 x.qJ) Tryz.isAgg2 rfl (H.cell 2 rfl rfl) ?_)
 refine sw (qP b5 (0) 0 Tryz.underlying36 rfl rfl Tryz.sizeOf2 rfl ?_)
 refine sw (yR H 0 rfl (.int .i64 x.qJ) Tryz.sizeOf2 rfl rfl rfl (Nat.le_of_ble_eq_true rfl) fun w7 H => ?_)
 replace H : St _ _ [.box b5 [.int .i64 x.qJ, .slice none 0 0, .slice none 0 0] 36, .box b3 [.int .i64 0, .slice none 0 0, .slice none 0 0] 36, .box b1 [.int .i64 x.qJ, .slice zI x.qf.length zH, .slice jA x.qg.length jy] 25] _ := H
 refine qx (t_n (qm (qA ?_)))
 refine sw (qP b1 (0) 1 Tryz.underlying25 rfl rfl Tryz.sizeOf22 rfl ?_)
 refine sw (qE (.slice zI x.qf.length zH) Tryz.isAgg22 rfl (H.cell 2 rfl rfl) ?_)
 have szx9 := H.base.size
 refine sw (qZ #[.slice zI x.qf.length zH] rfl rfl Tryz.call25 (Xk w7 x.qf zI zH yu (H.get 0 rfl).1 (by first | omega | (have := p2 (by omega); omega))) ?_)
 rintro v10 w8 r10 x9
 obtain ⟨a10, c10, F10, rfl, f10, H⟩ := H.add_is x9 r10.isNew
 have d10 := f10.2
 have q10 := f10.1
 replace f10 : ∀ b ∈ F10, w.heap.size ≤ b := fun b hb => Nat.le_trans szx9 (f10.1 b hb)
 refine sw (qP b5 (0) 1 Tryz.underlying36 rfl rfl Tryz.sizeOf22 rfl ?_)
 refine sw (yR H 0 rfl (.slice a10 x.qf.length c10) Tryz.sizeOf22 rfl rfl rfl (Nat.le_of_ble_eq_true rfl) fun w11 H => ?_)
 replace H : St _ _ [.box b5 [.int .i64 x.qJ, .slice a10 x.qf.length c10, .slice none 0 0] 36, .box b3 [.int .i64 0, .slice none 0 0, .slice none 0 0] 36, .box b1 [.int .i64 x.qJ, .slice zI x.qf.length zH, .slice jA x.qg.length jy] 25] _ := H
 refine qx (t_n (qm (qA ?_)))
 refine sw (qP b1 (0) 2 Tryz.underlying25 rfl rfl Tryz.sizeOf23 rfl ?_)
 refine sw (qE (.slice jA x.qg.length jy) Tryz.isAgg23 rfl (H.cell 2 rfl rfl) ?_)
 have szx13 := H.base.size
 have lt14 := H.isLt 0 rfl
 refine sw (qZ #[.slice jA x.qg.length jy] rfl rfl Tryz.call47 (toRuleS_ok w11 x.qg jA jy QV (H.get 2 rfl).1 (by first | omega | (have := p2 (by omega); omega))) ?_)
 rintro v15 w12 r15 x13
 obtain ⟨a15, c15, F15, rfl, f15, H⟩ := H.add_is x13 r15.isNew
 have d15 := f15.2
 have q15 := f15.1
 replace f15 : ∀ b ∈ F15, w.heap.size ≤ b := fun b hb => Nat.le_trans szx13 (f15.1 b hb)
 refine sw (qP b5 (0) 2 Tryz.underlying36 rfl rfl Tryz.sizeOf34 rfl ?_)
 refine sw (yR H 0 rfl (.slice a15 x.qg.length c15) Tryz.sizeOf34 rfl rfl rfl (Nat.le_of_ble_eq_true rfl) fun w16 H => ?_)
 replace H : St _ _ [.box b5 [.int .i64 x.qJ, .slice a10 x.qf.length c10, .slice a15 x.qg.length c15] 36, .box b3 [.int .i64 0, .slice none 0 0, .slice none 0 0] 36, .box b1 [.int .i64 x.qJ, .slice zI x.qf.length zH, .slice jA x.qg.length jy] 25] _ := H
 refine qx (t_n (qm (qA ?_)))
 refine sw (zg [.int .i64 x.qJ, .slice a10 x.qf.length c10, .slice a15 x.qg.length c15] Tryz.isAgg36 Tryz.sizeOf36 rfl (qH (H.cells 0 rfl) 0 3) ?_)
 refine sw (o_store H 1 rfl (.agg #[.int .i64 x.qJ, .slice a10 x.qf.length c10, .slice a15 x.qg.length c15]) Tryz.sizeOf36 rfl rfl (by simp [Value.oneCell', Value.cells]) (Nat.le_of_ble_eq_true rfl) fun w17 H => ?_)
 replace H : St _ _ [.box b5 [.int .i64 x.qJ, .slice a10 x.qf.length c10, .slice a15 x.qg.length c15] 36, .box b3 [.int .i64 x.qJ, .slice a10 x.qf.length c10, .slice a15 x.qg.length c15] 36, .box b1 [.int .i64 x.qJ, .slice zI x.qf.length zH, .slice jA x.qg.length jy] 25] _ := H
 refine qx (t_n (xC ?_))
 refine retC H 1 rfl rfl Tryz.isAgg36 Tryz.sizeOf36 rfl ⟨_, rfl, ?_, H.base⟩
 exact ⟨_, _, _, _, _, _, rfl, (H.get 1 rfl).1, (H.get 0 rfl).1, (Xe f10 f15), (Xb d10 d15 lt14 q15), (((H.get 1 rfl).2 rfl).app ((H.get 0 rfl).2 rfl))⟩

theorem Vu (w : World) (x : qU) (vJ : Option Addr) (vI : Nat) (Qs : List Nat) (jM : Option Addr) (jL : Nat) (Xj : List Nat) (zG : Option Addr) (zF : Nat) (yz : List Nat) (Xd : qV.rep w Qs [.slice vJ x.qh.length vI] x.qh) (Vz : qV.rep w Xj [.slice jM x.qp.length jL] x.qp) (Qu : qV.rep w yz [.slice zG x.ql.length zF] x.ql) (p0 : tot x ≤ 2000000) : Calls Tryz.prog 12 #[.agg #[.slice vJ x.qh.length vI, .slice jM x.qp.length jL, .slice zG x.ql.length zF]] w (Ret (fun v w' => New_StateD w w' v x) w) := by
 refine enter (n := 17) Tryz.func12 rfl Tryz.ntmps12 (Nat.le_of_ble_eq_true rfl) ?_
 have H := (((St.start w).arg Qu).arg Vz).arg Xd
 have nhxAlive := qN Xd
 have nhxBags := qN Vz
 have nhxAround := qN Qu
 clear Xd Vz Qu
 have p1 := tot_StateD x
 refine qm (qA ?_)
 refine sw (o_box H (.agg #[.slice vJ x.qh.length vI, .slice jM x.qp.length jL, .slice zG x.ql.length zF]) rfl fun b1 w2 H => ?_)
 replace H : St _ _ [.box b1 [.slice vJ x.qh.length vI, .slice jM x.qp.length jL, .slice zG x.ql.length zF] 29] _ := H
 refine sw (o_alloc H ti38 fun b3 w4 H => ?_)
 replace H : St _ _ [.box b3 [.slice none 0 0, .slice none 0 0, .slice none 0 0] 38, .box b1 [.slice vJ x.qh.length vI, .slice jM x.qp.length jL, .slice zG x.ql.length zF] 29] _ := H
 refine qx (t_n (qm (qA ?_)))
 refine sw (o_alloc H ti38 fun b5 w6 H => ?_)
 replace H : St _ _ [.box b5 [.slice none 0 0, .slice none 0 0, .slice none 0 0] 38, .box b3 [.slice none 0 0, .slice none 0 0, .slice none 0 0] 38, .box b1 [.slice vJ x.qh.length vI, .slice jM x.qp.length jL, .slice zG x.ql.length zF] 29] _ := H
 refine qx (t_n (qm (qA ?_)))
 refine sw (qP b1 (0) 0 Tryz.underlying29 rfl rfl Tryz.sizeOf26 rfl ?_)
 refine sw (qE (.slice vJ x.qh.length vI) Tryz.isAgg26 rfl (H.cell 2 rfl rfl) ?_)
 have szx8 := H.base.size
 refine sw (qZ #[.slice vJ x.qh.length vI] rfl rfl Tryz.call48 (toBoolS_ok w6 x.qh vJ vI Qs (H.get 0 rfl).1 (by first | omega | (have := p2 (by omega); omega))) ?_)
 rintro v9 w7 r9 x8
 obtain ⟨a9, c9, F9, rfl, f9, H⟩ := H.add_is x8 r9.isNew
 have d9 := f9.2
 have q9 := f9.1
 replace f9 : ∀ b ∈ F9, w.heap.size ≤ b := fun b hb => Nat.le_trans szx8 (f9.1 b hb)
 refine sw (qP b5 (0) 0 Tryz.underlying38 rfl rfl Tryz.sizeOf26 rfl ?_)
 refine sw (yR H 0 rfl (.slice a9 x.qh.length c9) Tryz.sizeOf26 rfl rfl rfl (Nat.le_of_ble_eq_true rfl) fun w10 H => ?_)
 replace H : St _ _ [.box b5 [.slice a9 x.qh.length c9, .slice none 0 0, .slice none 0 0] 38, .box b3 [.slice none 0 0, .slice none 0 0, .slice none 0 0] 38, .box b1 [.slice vJ x.qh.length vI, .slice jM x.qp.length jL, .slice zG x.ql.length zF] 29] _ := H
 refine qx (t_n (qm (qA ?_)))
 refine sw (qP b1 (0) 1 Tryz.underlying29 rfl rfl Tryz.sizeOf27 rfl ?_)
 refine sw (qE (.slice jM x.qp.length jL) Tryz.isAgg27 rfl (H.cell 2 rfl rfl) ?_)
 have szx12 := H.base.size
 have lt13 := H.isLt 0 rfl
 refine sw (qZ #[.slice jM x.qp.length jL] rfl rfl Tryz.call31 (Qq w10 x.qp jM jL Xj (H.get 2 rfl).1 (by first | omega | (have := p2 (by omega); omega))) ?_)
 rintro v14 w11 r14 x12
 obtain ⟨a14, c14, F14, rfl, f14, H⟩ := H.add_is x12 r14.isNew
 have d14 := f14.2
 have q14 := f14.1
 replace f14 : ∀ b ∈ F14, w.heap.size ≤ b := fun b hb => Nat.le_trans szx12 (f14.1 b hb)
 refine sw (qP b5 (0) 1 Tryz.underlying38 rfl rfl Tryz.sizeOf27 rfl ?_)
 refine sw (yR H 0 rfl (.slice a14 x.qp.length c14) Tryz.sizeOf27 rfl rfl rfl (Nat.le_of_ble_eq_true rfl) fun w15 H => ?_)
 replace H : St _ _ [.box b5 [.slice a9 x.qh.length c9, .slice a14 x.qp.length c14, .slice none 0 0] 38, .box b3 [.slice none 0 0, .slice none 0 0, .slice none 0 0] 38, .box b1 [.slice vJ x.qh.length vI, .slice jM x.qp.length jL, .slice zG x.ql.length zF] 29] _ := H
 refine qx (t_n (qm (qA ?_)))
 refine sw (qP b1 (0) 2 Tryz.underlying29 rfl rfl Tryz.sizeOf22 rfl ?_)
 refine sw (qE (.slice zG x.ql.length zF) Tryz.isAgg22 rfl (H.cell 2 rfl rfl) ?_)
 have szx17 := H.base.size
 have lt18 := H.isLt 0 rfl
 have lt19 := H.isLt 1 rfl
 refine sw (qZ #[.slice zG x.ql.length zF] rfl rfl Tryz.call25 (Xk w15 x.ql zG zF yz (H.get 4 rfl).1 (by first | omega | (have := p2 (by omega); omega))) ?_)
 rintro v20 w16 r20 x17
 obtain ⟨a20, c20, F20, rfl, f20, H⟩ := H.add_is x17 r20.isNew
 have d20 := f20.2
 have q20 := f20.1
 replace f20 : ∀ b ∈ F20, w.heap.size ≤ b := fun b hb => Nat.le_trans szx17 (f20.1 b hb)
 refine sw (qP b5 (0) 2 Tryz.underlying38 rfl rfl Tryz.sizeOf22 rfl ?_)
 refine sw (yR H 0 rfl (.slice a20 x.ql.length c20) Tryz.sizeOf22 rfl rfl rfl (Nat.le_of_ble_eq_true rfl) fun w21 H => ?_)
 replace H : St _ _ [.box b5 [.slice a9 x.qh.length c9, .slice a14 x.qp.length c14, .slice a20 x.ql.length c20] 38, .box b3 [.slice none 0 0, .slice none 0 0, .slice none 0 0] 38, .box b1 [.slice vJ x.qh.length vI, .slice jM x.qp.length jL, .slice zG x.ql.length zF] 29] _ := H
 refine qx (t_n (qm (qA ?_)))
 refine sw (zg [.slice a9 x.qh.length c9, .slice a14 x.qp.length c14, .slice a20 x.ql.length c20] Tryz.isAgg38 Tryz.sizeOf38 rfl (qH (H.cells 0 rfl) 0 3) ?_)
 refine sw (o_store H 1 rfl (.agg #[.slice a9 x.qh.length c9, .slice a14 x.qp.length c14, .slice a20 x.ql.length c20]) Tryz.sizeOf38 rfl rfl (by simp [Value.oneCell', Value.cells]) (Nat.le_of_ble_eq_true rfl) fun w22 H => ?_)
 replace H : St _ _ [.box b5 [.slice a9 x.qh.length c9, .slice a14 x.qp.length c14, .slice a20 x.ql.length c20] 38, .box b3 [.slice a9 x.qh.length c9, .slice a14 x.qp.length c14, .slice a20 x.ql.length c20] 38, .box b1 [.slice vJ x.qh.length vI, .slice jM x.qp.length jL, .slice zG x.ql.length zF] 29] _ := H
 refine qx (t_n (xC ?_))
 refine retC H 1 rfl rfl Tryz.isAgg38 Tryz.sizeOf38 rfl ⟨_, rfl, ?_, H.base⟩
 exact ⟨_, _, _, _, _, _, _, _, _, rfl, (H.get 2 rfl).1, (H.get 1 rfl).1, (H.get 0 rfl).1, (Xe (Xe f9 f14) f20), (Xb (Xb d9 d14 lt13 q14) d20 (Vd lt19 lt18) q20), ((((H.get 2 rfl).2 rfl).app ((H.get 1 rfl).2 rfl)).app ((H.get 0 rfl).2 rfl))⟩

theorem Q4 (w : World) (x : List Int) (y : List Int) (ax : Option Addr) (cx : Nat) (Fx : List Nat) (ay : Option Addr) (cy : Nat) (Fy : List Nat) (hx : qV.rep w Fx [.slice ax x.length cx] x) (hy : qV.rep w Fy [.slice ay y.length cy] y) : Calls Tryz.prog 27 #[.slice ax x.length cx, .slice ay y.length cy] w (Ret (fun v w' => v = .bool (decide (x = y))) w) := by
 refine enter (n := 26) Tryz.func27 rfl Tryz.ntmps27 (Nat.le_of_ble_eq_true rfl) ?_
 have H := ((St.start w).arg hy).arg hx
 have nhx := qN hx
 have nhy := qN hy
 clear hx hy
 refine qm (qA ?_)
 refine sp (.bool false) ?_
 refine qx (t_n (qm (qm (qA ?_))))
 refine sp (.slice ax x.length cx) ?_
 refine sw (zX Tryz.underlying22 ax x.length cx rfl ?_)
 refine sp (.slice ay y.length cy) ?_
 refine sw (zX Tryz.underlying22 ay y.length cy rfl ?_)
 refine sp (.bool ((x.length : Int) != y.length)) ?_
 refine qx (t_n ?_)
 refine qW ((x.length : Int) != y.length) rfl (fun h1 => ?_) (fun h1 => ?_)
 ·skip
  replace h1 := bne_iff_ne.1 h1
  refine qm (qA ?_)
  refine sp (.bool false) ?_
  refine qx (t_n (xC (t_r ?_)))
  refine ret1 (.bool false) rfl rfl ⟨_, rfl, ?_, H.base⟩
  first | rw [decide_eq_false (fun e => by subst e; omega)] | rw [decide_eq_false (yZ (k := k) ‹_›)] | rw [decide_eq_true (yA (k := k) (by omega) (by omega) ‹_›)]
 replace h1 := xR h1
 refine xk (t_n (qm (qm (qA ?_))))
 refine sp (.int .i64 0) ?_
 refine qx (t_n (xE ?_))
 refine zU (fun m' ρ w2 => ∃ (junk : Env) (k : Nat), ρ = upd (upd (upd junk 0 (.slice ax x.length cx)) 1 (.slice ay y.length cy)) 5 (.int .i64 k) ∧ (k ≤ x.length) ∧ (x.take k = y.take k) ∧ m' = x.length - k ∧ St w w2 [] [isF false Fx (.slice ax x.length cx) x, isF false Fy (.slice ay y.length cy) y]) (x.length - 0) ⟨_, 0, (by exact qj (qj (qj (rfl) rfl) rfl) rfl), (by omega), (by rfl), rfl, H⟩ ?_
 clear H
 rintro m' ρ w3 ⟨junk, k, rfl, i0, i1, rfl, H⟩
 refine qm (qm (qA ?_))
 refine sps [.int .i64 k, .slice ax x.length cx] ?_
 refine sw (zX Tryz.underlying22 ax x.length cx rfl ?_)
 refine sp (.bool (decide ((k : Int) < x.length))) ?_
 refine qx (t_n ?_)
 refine qW (decide ((k : Int) < x.length)) rfl (fun h4 => ?_) (fun h4 => ?_)
 ·skip
  replace h4 := of_decide_eq_true h4
  refine xk (t_n (qm (xE (qm ?_))))
  refine yw rfl H fun H => ?_
  refine rtp 0 (.slice ax x.length cx) H ?_
  refine rtp 1 (.int .i64 k) H ?_
  obtain ⟨b6, o7, rfl⟩ := H.addr 0 rfl (by omega)
  refine rt 2 (pp b6 (o7 + (k : Int).toNat * 1)) (xO b6 (o7) x.length cx k Tryz.underlying22 ti2 rfl rfl (by omega) (by omega)) H ?_
  refine rt 3 (.int .i64 (x[k]!)) (xA Tryz.isAgg2 rfl (fun _ h => h.jq 0 rfl k (by omega) (by omega))) H ?_
  refine rtp 4 (.slice ay y.length cy) H ?_
  refine rtp 5 (.int .i64 k) H ?_
  obtain ⟨b8, o9, rfl⟩ := H.addr 1 rfl (by omega)
  refine rt 6 (pp b8 (o9 + (k : Int).toNat * 1)) (xO b8 (o9) y.length cy k Tryz.underlying22 ti2 rfl rfl (by omega) (by omega)) H ?_
  refine rt 7 (.int .i64 (y[k]!)) (xA Tryz.isAgg2 rfl (fun _ h => h.jq 1 rfl k (by omega) (by omega))) H ?_
  refine rtp 8 (.bool ((x[k]! : Int) != (y[k]!))) H ?_
  refine xN (by kernel_rfl) (t_n ?_)
  refine qW ((x[k]! : Int) != (y[k]!)) rfl (fun h10 => ?_) (fun h10 => ?_)
  ·skip
   replace h10 := bne_iff_ne.1 h10
   refine qm (qA ?_)
   refine sp (.bool false) ?_
   refine qx (t_n (xC (b_r (t_r (t_r (b_r (t_r ?_)))))))
   refine ret1 (.bool false) rfl rfl ⟨_, rfl, ?_, H.base⟩
   first | rw [decide_eq_false (fun e => by subst e; omega)] | rw [decide_eq_false (yZ (k := k) ‹_›)] | rw [decide_eq_true (yA (k := k) (by omega) (by omega) ‹_›)]
  replace h10 := xR h10
  refine xk (b_n (t_n (qA ?_)))
  refine sp (.int .i64 k) ?_
  refine sw (zZ k 1 rfl rfl (by omega) ?_)
  refine sp (.int .i64 (k + 1)) ?_
  refine qx ?_
  refine xH (m' := x.length - (k + 1)) (by omega) ⟨_, k + 1, (by exact qj (qj (qj (rfl) rfl) rfl) rfl), ?_, ?_, rfl, H⟩
  · omega
  · exact eqTo_succ (by omega) (by omega) ‹_› (by first | assumption | omega)
 replace h4 := of_decide_eq_false h4
 refine zK (t_x (t_x (b_x (t_n (qm (qA ?_))))))
 refine sp (.bool true) ?_
 refine qx (t_n (xC ?_))
 refine ret1 (.bool true) rfl rfl ⟨_, rfl, ?_, H.base⟩
 first | rw [decide_eq_false (fun e => by subst e; omega)] | rw [decide_eq_false (yZ (k := k) ‹_›)] | rw [decide_eq_true (yA (k := k) (by omega) (by omega) ‹_›)]

theorem eqBoolS_ok (w : World) (x : List Bool) (y : List Bool) (ax : Option Addr) (cx : Nat) (Fx : List Nat) (ay : Option Addr) (cy : Nat) (Fy : List Nat) (hx : qV.rep w Fx [.slice ax x.length cx] x) (hy : qV.rep w Fy [.slice ay y.length cy] y) : Calls Tryz.prog 56 #[.slice ax x.length cx, .slice ay y.length cy] w (Ret (fun v w' => v = .bool (decide (x = y))) w) := by
 refine enter (n := 26) Tryz.func56 rfl Tryz.ntmps56 (Nat.le_of_ble_eq_true rfl) ?_
 have H := ((St.start w).arg hy).arg hx
 have nhx := qN hx
 have nhy := qN hy
 clear hx hy
 refine qm (qA ?_)
 refine sp (.bool false) ?_
 refine qx (t_n (qm (qm (qA ?_))))
 refine sp (.slice ax x.length cx) ?_
 refine sw (zX Tryz.underlying26 ax x.length cx rfl ?_)
 refine sp (.slice ay y.length cy) ?_
 refine sw (zX Tryz.underlying26 ay y.length cy rfl ?_)
 refine sp (.bool ((x.length : Int) != y.length)) ?_
 refine qx (t_n ?_)
 refine qW ((x.length : Int) != y.length) rfl (fun h1 => ?_) (fun h1 => ?_)
 ·skip
  replace h1 := bne_iff_ne.1 h1
  refine qm (qA ?_)
  refine sp (.bool false) ?_
  refine qx (t_n (xC (t_r ?_)))
  refine ret1 (.bool false) rfl rfl ⟨_, rfl, ?_, H.base⟩
  first | rw [decide_eq_false (fun e => by subst e; omega)] | rw [decide_eq_false (yZ (k := k) ‹_›)] | rw [decide_eq_true (yA (k := k) (by omega) (by omega) ‹_›)]
 replace h1 := xR h1
 refine xk (t_n (qm (qm (qA ?_))))
 refine sp (.int .i64 0) ?_
 refine qx (t_n (xE ?_))
 refine zU (fun m' ρ w2 => ∃ (junk : Env) (k : Nat), ρ = upd (upd (upd junk 0 (.slice ax x.length cx)) 1 (.slice ay y.length cy)) 5 (.int .i64 k) ∧ (k ≤ x.length) ∧ (x.take k = y.take k) ∧ m' = x.length - k ∧ St w w2 [] [isF false Fx (.slice ax x.length cx) x, isF false Fy (.slice ay y.length cy) y]) (x.length - 0) ⟨_, 0, (by exact qj (qj (qj (rfl) rfl) rfl) rfl), (by omega), (by rfl), rfl, H⟩ ?_
 clear H
 rintro m' ρ w3 ⟨junk, k, rfl, i0, i1, rfl, H⟩
 refine qm (qm (qA ?_))
 refine sps [.int .i64 k, .slice ax x.length cx] ?_
 refine sw (zX Tryz.underlying26 ax x.length cx rfl ?_)
 refine sp (.bool (decide ((k : Int) < x.length))) ?_
 refine qx (t_n ?_)
 refine qW (decide ((k : Int) < x.length)) rfl (fun h4 => ?_) (fun h4 => ?_)
 ·skip
  replace h4 := of_decide_eq_true h4
  refine xk (t_n (qm (xE (qm ?_))))
  refine yw rfl H fun H => ?_
  refine rtp 0 (.slice ax x.length cx) H ?_
  refine rtp 1 (.int .i64 k) H ?_
  obtain ⟨b6, o7, rfl⟩ := H.addr 0 rfl (by omega)
  refine rt 2 (pp b6 (o7 + (k : Int).toNat * 1)) (xO b6 (o7) x.length cx k Tryz.underlying26 ti4 rfl rfl (by omega) (by omega)) H ?_
  refine rt 3 (.bool (x[k]!)) (xA Tryz.isAgg4 rfl (fun _ h => h.Q7 0 rfl k (by omega) (by omega))) H ?_
  refine rtp 4 (.slice ay y.length cy) H ?_
  refine rtp 5 (.int .i64 k) H ?_
  obtain ⟨b8, o9, rfl⟩ := H.addr 1 rfl (by omega)
  refine rt 6 (pp b8 (o9 + (k : Int).toNat * 1)) (xO b8 (o9) y.length cy k Tryz.underlying26 ti4 rfl rfl (by omega) (by omega)) H ?_
  refine rt 7 (.bool (y[k]!)) (xA Tryz.isAgg4 rfl (fun _ h => h.Q7 1 rfl k (by omega) (by omega))) H ?_
  refine rt 8 (.bool ((x[k]!) != (y[k]!))) (y_neB Tryz.underlying4 (x[k]!) (y[k]!) rfl rfl) H ?_
  refine xN (by kernel_rfl) (t_n ?_)
  refine qW ((x[k]!) != (y[k]!)) rfl (fun h10 => ?_) (fun h10 => ?_)
  ·skip
   replace h10 := bne_iff_ne.1 h10
   refine qm (qA ?_)
   refine sp (.bool false) ?_
   refine qx (t_n (xC (b_r (t_r (t_r (b_r (t_r ?_)))))))
   refine ret1 (.bool false) rfl rfl ⟨_, rfl, ?_, H.base⟩
   first | rw [decide_eq_false (fun e => by subst e; omega)] | rw [decide_eq_false (yZ (k := k) ‹_›)] | rw [decide_eq_true (yA (k := k) (by omega) (by omega) ‹_›)]
  replace h10 := xR h10
  refine xk (b_n (t_n (qA ?_)))
  refine sp (.int .i64 k) ?_
  refine sw (zZ k 1 rfl rfl (by omega) ?_)
  refine sp (.int .i64 (k + 1)) ?_
  refine qx ?_
  refine xH (m' := x.length - (k + 1)) (by omega) ⟨_, k + 1, (by exact qj (qj (qj (rfl) rfl) rfl) rfl), ?_, ?_, rfl, H⟩
  · omega
  · exact eqTo_succ (by omega) (by omega) ‹_› (by first | assumption | omega)
 replace h4 := of_decide_eq_false h4
 refine zK (t_x (t_x (b_x (t_n (qm (qA ?_))))))
 refine sp (.bool true) ?_
 refine qx (t_n (xC ?_))
 refine ret1 (.bool true) rfl rfl ⟨_, rfl, ?_, H.base⟩
 first | rw [decide_eq_false (fun e => by subst e; omega)] | rw [decide_eq_false (yZ (k := k) ‹_›)] | rw [decide_eq_true (yA (k := k) (by omega) (by omega) ‹_›)]

theorem eqInt64SS_ok (w : World) (x : List (List Int)) (y : List (List Int)) (ax : Option Addr) (cx : Nat) (Fx : List Nat) (ay : Option Addr) (cy : Nat) (Fy : List Nat) (hx : qV.rep w Fx [.slice ax x.length cx] x) (hy : qV.rep w Fy [.slice ay y.length cy] y) : Calls Tryz.prog 14 #[.slice ax x.length cx, .slice ay y.length cy] w (Ret (fun v w' => v = .bool (decide (x = y))) w) := by
 refine enter (n := 27) Tryz.func14 rfl Tryz.ntmps14 (Nat.le_of_ble_eq_true rfl) ?_
 have H := ((St.start w).arg hy).arg hx
 have nhx := qN hx
 have nhy := qN hy
 clear hx hy
 refine qm (qA ?_)
 refine sp (.bool false) ?_
 refine qx (t_n (qm (qm (qA ?_))))
 refine sp (.slice ax x.length cx) ?_
 refine sw (zX Tryz.underlying27 ax x.length cx rfl ?_)
 refine sp (.slice ay y.length cy) ?_
 refine sw (zX Tryz.underlying27 ay y.length cy rfl ?_)
 refine sp (.bool ((x.length : Int) != y.length)) ?_
 refine qx (t_n ?_)
 refine qW ((x.length : Int) != y.length) rfl (fun h1 => ?_) (fun h1 => ?_)
 ·skip
  replace h1 := bne_iff_ne.1 h1
  refine qm (qA ?_)
  refine sp (.bool false) ?_
  refine qx (t_n (xC (t_r ?_)))
  refine ret1 (.bool false) rfl rfl ⟨_, rfl, ?_, H.base⟩
  first | rw [decide_eq_false (fun e => by subst e; omega)] | rw [decide_eq_false (yZ (k := k) ‹_›)] | rw [decide_eq_true (yA (k := k) (by omega) (by omega) ‹_›)]
 replace h1 := xR h1
 refine xk (t_n (qm (qm (qA ?_))))
 refine sp (.int .i64 0) ?_
 refine qx (t_n (xE ?_))
 refine zU (fun m' ρ w2 => ∃ (junk : Env) (k : Nat), ρ = upd (upd (upd junk 0 (.slice ax x.length cx)) 1 (.slice ay y.length cy)) 5 (.int .i64 k) ∧ (k ≤ x.length) ∧ (x.take k = y.take k) ∧ m' = x.length - k ∧ St w w2 [] [isF false Fx (.slice ax x.length cx) x, isF false Fy (.slice ay y.length cy) y]) (x.length - 0) ⟨_, 0, (by exact qj (qj (qj (rfl) rfl) rfl) rfl), (by omega), (by rfl), rfl, H⟩ ?_
 clear H
 rintro m' ρ w3 ⟨junk, k, rfl, i0, i1, rfl, H⟩
 refine qm (qm (qA ?_))
 refine sps [.int .i64 k, .slice ax x.length cx] ?_
 refine sw (zX Tryz.underlying27 ax x.length cx rfl ?_)
 refine sp (.bool (decide ((k : Int) < x.length))) ?_
 refine qx (t_n ?_)
 refine qW (decide ((k : Int) < x.length)) rfl (fun h4 => ?_) (fun h4 => ?_)
 ·skip
  replace h4 := of_decide_eq_true h4
  refine xk (t_n (qm (xE (qm ?_))))
  refine yw rfl H fun H => ?_
  refine rtp 0 (.slice ax x.length cx) H ?_
  refine rtp 1 (.int .i64 k) H ?_
  obtain ⟨b6, o7, rfl⟩ := H.addr 0 rfl (by omega)
  obtain ⟨ae8, ce8, Fe8, H⟩ := H.yH 0 rfl k k (by omega) (by omega) (by omega)
  refine rt 2 (pp b6 (o7 + (k : Int).toNat * 1)) (xO b6 (o7) x.length cx k Tryz.underlying27 ti22 rfl rfl (by omega) (by omega)) (H.sel _ (.refl _) _ (fun _ h => List.mem_cons_of_mem _ (List.mem_cons_of_mem _ (h)))) ?_
  refine rtp 4 (.slice ay y.length cy) (H.sel _ (.refl _) _ (fun _ h => List.mem_cons_of_mem _ (List.mem_cons_of_mem _ (h)))) ?_
  refine rtp 5 (.int .i64 k) (H.sel _ (.refl _) _ (fun _ h => List.mem_cons_of_mem _ (List.mem_cons_of_mem _ (h)))) ?_
  obtain ⟨b9, o10, rfl⟩ := H.addr 3 rfl (by omega)
  obtain ⟨ae11, ce11, Fe11, H⟩ := H.yH 3 rfl k k (by omega) (by omega) (by omega)
  refine rt 6 (pp b9 (o10 + (k : Int).toNat * 1)) (xO b9 (o10) y.length cy k Tryz.underlying27 ti22 rfl rfl (by omega) (by omega)) (H.sel _ (.refl _) _ (fun _ h => List.mem_cons_of_mem _ (List.mem_cons_of_mem _ (List.mem_cons_of_mem _ (List.mem_cons_of_mem _ (h)))))) ?_
  refine xq [3, 7] (by kernel_rfl) (by simp) (xZ rfl ?_ (xZ rfl ?_ xu))
  ·skip
   refine qE (.slice ae8 ((x[k]!).length) ce8) Tryz.isAgg22 rfl (H.xY 3 rfl 0 rfl) ?_
   refine ⟨H.sel _ (.refl _) _ (fun _ h => List.mem_cons_of_mem _ (List.mem_cons_of_mem _ (List.mem_cons_of_mem _ (List.mem_cons_of_mem _ (h))))), ?_⟩
   refine xq [7] (by kernel_rfl) (by simp) (xZ rfl ?_ xu)
   refine qE (.slice ae11 ((y[k]!).length) ce11) Tryz.isAgg22 rfl (H.xY 1 rfl 0 rfl) ?_
   refine ⟨H.sel _ (.refl _) _ (fun _ h => List.mem_cons_of_mem _ (List.mem_cons_of_mem _ (List.mem_cons_of_mem _ (List.mem_cons_of_mem _ (h))))), ?_⟩
   refine xq [8] (by kernel_rfl) (by simp) (xZ rfl ?_ xu)
   refine qZ #[.slice ae8 ((x[k]!).length) ce8, .slice ae11 ((y[k]!).length) ce11] rfl rfl Tryz.call27 (Q4 w3.drew (x[k]!) (y[k]!) ae8 ce8 Fe8 ae11 ce11 Fe11 (H.get 2 rfl).1 (H.get 0 rfl).1) ?_
   rintro _ w12 rfl x13
   replace H := H.ext x13
   refine ⟨H.sel _ (.refl _) _ (fun _ h => List.mem_cons_of_mem _ (List.mem_cons_of_mem _ (List.mem_cons_of_mem _ (List.mem_cons_of_mem _ (h))))), ?_⟩
   refine rtp 9 (.bool (!(decide ((x[k]!) = (y[k]!))))) (H.sel _ (.refl _) _ (fun _ h => List.mem_cons_of_mem _ (List.mem_cons_of_mem _ (List.mem_cons_of_mem _ (List.mem_cons_of_mem _ (h)))))) ?_
   refine xN (by kernel_rfl) (t_n ?_)
   refine qW (!(decide ((x[k]!) = (y[k]!)))) rfl (fun h14 => ?_) (fun h14 => ?_)
   ·skip
    replace h14 := xg h14
    replace h14 := of_decide_eq_false h14
    refine qm (qA ?_)
    refine sp (.bool false) ?_
    refine qx (t_n (xC (b_r (t_r (t_r (b_r (t_r ?_)))))))
    refine ret1 (.bool false) rfl rfl ⟨_, rfl, ?_, H.base⟩
    first | rw [decide_eq_false (fun e => by subst e; omega)] | rw [decide_eq_false (yZ (k := k) ‹_›)] | rw [decide_eq_true (yA (k := k) (by omega) (by omega) ‹_›)]
   replace h14 := qY h14
   replace h14 := of_decide_eq_true h14
   refine xk (b_n (t_n (qA ?_)))
   refine sp (.int .i64 k) ?_
   refine sw (zZ k 1 rfl rfl (by omega) ?_)
   refine sp (.int .i64 (k + 1)) ?_
   refine qx ?_
   refine xH (m' := x.length - (k + 1)) (by omega) ⟨_, k + 1, (by exact qj (qj (qj (rfl) rfl) rfl) rfl), ?_, ?_, rfl, H.sel _ (.refl _) _ (by simp)⟩
   · omega
   · exact eqTo_succ (by omega) (by omega) ‹_› (by first | assumption | omega)
  refine qE (.slice ae11 ((y[k]!).length) ce11) Tryz.isAgg22 rfl (H.xY 1 rfl 0 rfl) ?_
  refine ⟨H.sel _ (.refl _) _ (fun _ h => List.mem_cons_of_mem _ (List.mem_cons_of_mem _ (List.mem_cons_of_mem _ (List.mem_cons_of_mem _ (h))))), ?_⟩
  refine xq [3] (by kernel_rfl) (by simp) (xZ rfl ?_ xu)
  refine qE (.slice ae8 ((x[k]!).length) ce8) Tryz.isAgg22 rfl (H.xY 3 rfl 0 rfl) ?_
  refine ⟨H.sel _ (.refl _) _ (fun _ h => List.mem_cons_of_mem _ (List.mem_cons_of_mem _ (List.mem_cons_of_mem _ (List.mem_cons_of_mem _ (h))))), ?_⟩
  refine xq [8] (by kernel_rfl) (by simp) (xZ rfl ?_ xu)
  refine qZ #[.slice ae8 ((x[k]!).length) ce8, .slice ae11 ((y[k]!).length) ce11] rfl rfl Tryz.call27 (Q4 w3.drew (x[k]!) (y[k]!) ae8 ce8 Fe8 ae11 ce11 Fe11 (H.get 2 rfl).1 (H.get 0 rfl).1) ?_
  rintro _ w15 rfl x16
  replace H := H.ext x16
  refine ⟨H.sel _ (.refl _) _ (fun _ h => List.mem_cons_of_mem _ (List.mem_cons_of_mem _ (List.mem_cons_of_mem _ (List.mem_cons_of_mem _ (h))))), ?_⟩
  refine rtp 9 (.bool (!(decide ((x[k]!) = (y[k]!))))) (H.sel _ (.refl _) _ (fun _ h => List.mem_cons_of_mem _ (List.mem_cons_of_mem _ (List.mem_cons_of_mem _ (List.mem_cons_of_mem _ (h)))))) ?_
  refine xN (by kernel_rfl) (t_n ?_)
  refine qW (!(decide ((x[k]!) = (y[k]!)))) rfl (fun h17 => ?_) (fun h17 => ?_)
  ·skip
   replace h17 := xg h17
   replace h17 := of_decide_eq_false h17
   refine qm (qA ?_)
   refine sp (.bool false) ?_
   refine qx (t_n (xC (b_r (t_r (t_r (b_r (t_r ?_)))))))
   refine ret1 (.bool false) rfl rfl ⟨_, rfl, ?_, H.base⟩
   first | rw [decide_eq_false (fun e => by subst e; omega)] | rw [decide_eq_false (yZ (k := k) ‹_›)] | rw [decide_eq_true (yA (k := k) (by omega) (by omega) ‹_›)]
  replace h17 := qY h17
  replace h17 := of_decide_eq_true h17
  refine xk (b_n (t_n (qA ?_)))
  refine sp (.int .i64 k) ?_
  refine sw (zZ k 1 rfl rfl (by omega) ?_)
  refine sp (.int .i64 (k + 1)) ?_
  refine qx ?_
  refine xH (m' := x.length - (k + 1)) (by omega) ⟨_, k + 1, (by exact qj (qj (qj (rfl) rfl) rfl) rfl), ?_, ?_, rfl, H.sel _ (.refl _) _ (by simp)⟩
  · omega
  · exact eqTo_succ (by omega) (by omega) ‹_› (by first | assumption | omega)
 replace h4 := of_decide_eq_false h4
 refine zK (t_x (t_x (b_x (t_n (qm (qA ?_))))))
 refine sp (.bool true) ?_
 refine qx (t_n (xC ?_))
 refine ret1 (.bool true) rfl rfl ⟨_, rfl, ?_, H.base⟩
 first | rw [decide_eq_false (fun e => by subst e; omega)] | rw [decide_eq_false (yZ (k := k) ‹_›)] | rw [decide_eq_true (yA (k := k) (by omega) (by omega) ‹_›)]

theorem eqInto_ok (w : World) (x : IntoD) (y : IntoD) (axBag : Option Addr) (cxBag : Nat) (FxBag : List Nat) (ayBag : Option Addr) (cyBag : Nat) (FyBag : List Nat) (hxBag : qV.rep w FxBag [.slice axBag x.vH.length cxBag] x.vH) (hyBag : qV.rep w FyBag [.slice ayBag y.vH.length cyBag] y.vH) : Calls Tryz.prog 162 #[.agg #[.int .i64 x.qy, .slice axBag x.vH.length cxBag], .agg #[.int .i64 y.qy, .slice ayBag y.vH.length cyBag]] w (Ret (fun v w' => v = .bool (decide (x = y))) w) := by
 refine enter (n := 16) Tryz.func162 rfl Tryz.ntmps162 (Nat.le_of_ble_eq_true rfl) ?_
 have H := ((St.start w).arg hyBag).arg hxBag
 have nhxBag := qN hxBag
 have nhyBag := qN hyBag
 clear hxBag hyBag
 refine qm (qA ?_)
 refine sw (o_box H (.agg #[.int .i64 x.qy, .slice axBag x.vH.length cxBag]) rfl fun b1 w2 H => ?_)
 replace H : St _ _ [.box b1 [.int .i64 x.qy, .slice axBag x.vH.length cxBag] 115] _ := H
 refine sw (o_box H (.agg #[.int .i64 y.qy, .slice ayBag y.vH.length cyBag]) rfl fun b3 w4 H => ?_)
 replace H : St _ _ [.box b3 [.int .i64 y.qy, .slice ayBag y.vH.length cyBag] 115, .box b1 [.int .i64 x.qy, .slice axBag x.vH.length cxBag] 115] _ := H
 refine sp (.bool false) ?_
 refine qx (t_n (qm (qm (qA ?_))))
 refine sw (qP b1 (0) 0 Tryz.underlying115 rfl rfl Tryz.sizeOf2 rfl ?_)
 refine sw (qE (.int .i64 x.qy) Tryz.isAgg2 rfl (H.cell 1 rfl rfl) ?_)
 refine sw (qP b3 (0) 0 Tryz.underlying115 rfl rfl Tryz.sizeOf2 rfl ?_)
 refine sw (qE (.int .i64 y.qy) Tryz.isAgg2 rfl (H.cell 0 rfl rfl) ?_)
 refine sp (.bool ((x.qy : Int) != y.qy)) ?_
 refine qx (t_n ?_)
 refine qW ((x.qy : Int) != y.qy) rfl (fun h5 => ?_) (fun h5 => ?_)
 ·skip
  replace h5 := bne_iff_ne.1 h5
  refine qm (qA ?_)
  refine sp (.bool false) ?_
  refine qx (t_n (xC (t_r ?_)))
  refine ret1 (.bool false) rfl rfl ⟨_, rfl, ?_, H.base⟩
  rw [decide_eq_false (fun e => by subst e; simp_all)]
 replace h5 := xR h5
 refine xk (t_n (qm (qm (qA ?_))))
 refine sw (qP b1 (0) 1 Tryz.underlying115 rfl rfl Tryz.sizeOf22 rfl ?_)
 refine sw (qE (.slice axBag x.vH.length cxBag) Tryz.isAgg22 rfl (H.cell 1 rfl rfl) ?_)
 refine sw (qP b3 (0) 1 Tryz.underlying115 rfl rfl Tryz.sizeOf22 rfl ?_)
 refine sw (qE (.slice ayBag y.vH.length cyBag) Tryz.isAgg22 rfl (H.cell 0 rfl rfl) ?_)
 refine sw (qZ #[.slice axBag x.vH.length cxBag, .slice ayBag y.vH.length cyBag] rfl rfl Tryz.call27 (Q4 w4 x.vH y.vH axBag cxBag FxBag ayBag cyBag FyBag (H.get 0 rfl).1 (H.get 1 rfl).1) ?_)
 rintro _ w6 rfl x7
 replace H := H.ext x7
 refine sp (.bool (!(decide (x.vH = y.vH)))) ?_
 refine qx (t_n ?_)
 refine qW (!(decide (x.vH = y.vH))) rfl (fun h8 => ?_) (fun h8 => ?_)
 ·skip
  replace h8 := xg h8
  replace h8 := of_decide_eq_false h8
  refine qm (qA ?_)
  refine sp (.bool false) ?_
  refine qx (t_n (xC (t_r ?_)))
  refine ret1 (.bool false) rfl rfl ⟨_, rfl, ?_, H.base⟩
  rw [decide_eq_false (fun e => by subst e; simp_all)]
 replace h8 := qY h8
 replace h8 := of_decide_eq_true h8
 refine xk (t_n (qm (qA ?_)))
 refine sp (.bool true) ?_
 refine qx (t_n (xC ?_))
 refine ret1 (.bool true) rfl rfl ⟨_, rfl, ?_, H.base⟩
 rw [decide_eq_true (by cases x; cases y; simp_all)]

theorem eqIntoS_ok (w : World) (x : List IntoD) (y : List IntoD) (ax : Option Addr) (cx : Nat) (Fx : List Nat) (ay : Option Addr) (cy : Nat) (Fy : List Nat) (hx : qV.rep w Fx [.slice ax x.length cx] x) (hy : qV.rep w Fy [.slice ay y.length cy] y) : Calls Tryz.prog 148 #[.slice ax x.length cx, .slice ay y.length cy] w (Ret (fun v w' => v = .bool (decide (x = y))) w) := by
 refine enter (n := 27) Tryz.func148 rfl Tryz.ntmps148 (Nat.le_of_ble_eq_true rfl) ?_
 have H := ((St.start w).arg hy).arg hx
 have nhx := qN hx
 have nhy := qN hy
 clear hx hy
 refine qm (qA ?_)
 refine sp (.bool false) ?_
 refine qx (t_n (qm (qm (qA ?_))))
 refine sp (.slice ax x.length cx) ?_
 refine sw (zX Tryz.underlying108 ax x.length cx rfl ?_)
 refine sp (.slice ay y.length cy) ?_
 refine sw (zX Tryz.underlying108 ay y.length cy rfl ?_)
 refine sp (.bool ((x.length : Int) != y.length)) ?_
 refine qx (t_n ?_)
 refine qW ((x.length : Int) != y.length) rfl (fun h1 => ?_) (fun h1 => ?_)
 ·skip
  replace h1 := bne_iff_ne.1 h1
  refine qm (qA ?_)
  refine sp (.bool false) ?_
  refine qx (t_n (xC (t_r ?_)))
  refine ret1 (.bool false) rfl rfl ⟨_, rfl, ?_, H.base⟩
  first | rw [decide_eq_false (fun e => by subst e; omega)] | rw [decide_eq_false (yZ (k := k) ‹_›)] | rw [decide_eq_true (yA (k := k) (by omega) (by omega) ‹_›)]
 replace h1 := xR h1
 refine xk (t_n (qm (qm (qA ?_))))
 refine sp (.int .i64 0) ?_
 refine qx (t_n (xE ?_))
 refine zU (fun m' ρ w2 => ∃ (junk : Env) (k : Nat), ρ = upd (upd (upd junk 0 (.slice ax x.length cx)) 1 (.slice ay y.length cy)) 5 (.int .i64 k) ∧ (k ≤ x.length) ∧ (x.take k = y.take k) ∧ m' = x.length - k ∧ St w w2 [] [isF false Fx (.slice ax x.length cx) x, isF false Fy (.slice ay y.length cy) y]) (x.length - 0) ⟨_, 0, (by exact qj (qj (qj (rfl) rfl) rfl) rfl), (by omega), (by rfl), rfl, H⟩ ?_
 clear H
 rintro m' ρ w3 ⟨junk, k, rfl, i0, i1, rfl, H⟩
 refine qm (qm (qA ?_))
 refine sps [.int .i64 k, .slice ax x.length cx] ?_
 refine sw (zX Tryz.underlying108 ax x.length cx rfl ?_)
 refine sp (.bool (decide ((k : Int) < x.length))) ?_
 refine qx (t_n ?_)
 refine qW (decide ((k : Int) < x.length)) rfl (fun h4 => ?_) (fun h4 => ?_)
 ·skip
  replace h4 := of_decide_eq_true h4
  refine xk (t_n (qm (xE (qm ?_))))
  refine yw rfl H fun H => ?_
  refine rtp 0 (.slice ax x.length cx) H ?_
  refine rtp 1 (.int .i64 k) H ?_
  obtain ⟨b6, o7, rfl⟩ := H.addr 0 rfl (by omega)
  obtain ⟨ae8Bag, ce8Bag, Fe8Bag, H⟩ := H.jT 0 rfl k k (by omega) (by omega) (by omega)
  refine rt 2 (pp b6 (o7 + (k : Int).toNat * 2)) (xO b6 (o7) x.length cx k Tryz.underlying108 ti115 rfl rfl (by omega) (by omega)) (H.sel _ (.refl _) _ (fun _ h => List.mem_cons_of_mem _ (List.mem_cons_of_mem _ (h)))) ?_
  refine rtp 4 (.slice ay y.length cy) (H.sel _ (.refl _) _ (fun _ h => List.mem_cons_of_mem _ (List.mem_cons_of_mem _ (h)))) ?_
  refine rtp 5 (.int .i64 k) (H.sel _ (.refl _) _ (fun _ h => List.mem_cons_of_mem _ (List.mem_cons_of_mem _ (h)))) ?_
  obtain ⟨b9, o10, rfl⟩ := H.addr 3 rfl (by omega)
  obtain ⟨ae11Bag, ce11Bag, Fe11Bag, H⟩ := H.jT 3 rfl k k (by omega) (by omega) (by omega)
  refine rt 6 (pp b9 (o10 + (k : Int).toNat * 2)) (xO b9 (o10) y.length cy k Tryz.underlying108 ti115 rfl rfl (by omega) (by omega)) (H.sel _ (.refl _) _ (fun _ h => List.mem_cons_of_mem _ (List.mem_cons_of_mem _ (List.mem_cons_of_mem _ (List.mem_cons_of_mem _ (h)))))) ?_
  refine xq [3, 7] (by kernel_rfl) (by simp) (xZ rfl ?_ (xZ rfl ?_ xu))
  ·skip
   refine zg [.int .i64 ((x[k]!).qy), .slice ae8Bag (((x[k]!).vH).length) ce8Bag] Tryz.isAgg115 Tryz.sizeOf115 rfl (qH (H.get 3 rfl) 0 2) ?_
   refine ⟨H.sel _ (.refl _) _ (fun _ h => List.mem_cons_of_mem _ (List.mem_cons_of_mem _ (List.mem_cons_of_mem _ (List.mem_cons_of_mem _ (h))))), ?_⟩
   refine xq [7] (by kernel_rfl) (by simp) (xZ rfl ?_ xu)
   refine zg [.int .i64 ((y[k]!).qy), .slice ae11Bag (((y[k]!).vH).length) ce11Bag] Tryz.isAgg115 Tryz.sizeOf115 rfl (qH (H.get 1 rfl) 0 2) ?_
   refine ⟨H.sel _ (.refl _) _ (fun _ h => List.mem_cons_of_mem _ (List.mem_cons_of_mem _ (List.mem_cons_of_mem _ (List.mem_cons_of_mem _ (h))))), ?_⟩
   refine xq [8] (by kernel_rfl) (by simp) (xZ rfl ?_ xu)
   refine qZ #[.agg #[.int .i64 ((x[k]!).qy), .slice ae8Bag (((x[k]!).vH).length) ce8Bag], .agg #[.int .i64 ((y[k]!).qy), .slice ae11Bag (((y[k]!).vH).length) ce11Bag]] rfl rfl Tryz.call162 (eqInto_ok w3.drew (x[k]!) (y[k]!) ae8Bag ce8Bag Fe8Bag ae11Bag ce11Bag Fe11Bag (H.get 2 rfl).1 (H.get 0 rfl).1) ?_
   rintro _ w12 rfl x13
   replace H := H.ext x13
   refine ⟨H.sel _ (.refl _) _ (fun _ h => List.mem_cons_of_mem _ (List.mem_cons_of_mem _ (List.mem_cons_of_mem _ (List.mem_cons_of_mem _ (h))))), ?_⟩
   refine rtp 9 (.bool (!(decide ((x[k]!) = (y[k]!))))) (H.sel _ (.refl _) _ (fun _ h => List.mem_cons_of_mem _ (List.mem_cons_of_mem _ (List.mem_cons_of_mem _ (List.mem_cons_of_mem _ (h)))))) ?_
   refine xN (by kernel_rfl) (t_n ?_)
   refine qW (!(decide ((x[k]!) = (y[k]!)))) rfl (fun h14 => ?_) (fun h14 => ?_)
   ·skip
    replace h14 := xg h14
    replace h14 := of_decide_eq_false h14
    refine qm (qA ?_)
    refine sp (.bool false) ?_
    refine qx (t_n (xC (b_r (t_r (t_r (b_r (t_r ?_)))))))
    refine ret1 (.bool false) rfl rfl ⟨_, rfl, ?_, H.base⟩
    first | rw [decide_eq_false (fun e => by subst e; omega)] | rw [decide_eq_false (yZ (k := k) ‹_›)] | rw [decide_eq_true (yA (k := k) (by omega) (by omega) ‹_›)]
   replace h14 := qY h14
   replace h14 := of_decide_eq_true h14
   refine xk (b_n (t_n (qA ?_)))
   refine sp (.int .i64 k) ?_
   refine sw (zZ k 1 rfl rfl (by omega) ?_)
   refine sp (.int .i64 (k + 1)) ?_
   refine qx ?_
   refine xH (m' := x.length - (k + 1)) (by omega) ⟨_, k + 1, (by exact qj (qj (qj (rfl) rfl) rfl) rfl), ?_, ?_, rfl, H.sel _ (.refl _) _ (by simp)⟩
   · omega
   · exact eqTo_succ (by omega) (by omega) ‹_› (by first | assumption | omega)
  refine zg [.int .i64 ((y[k]!).qy), .slice ae11Bag (((y[k]!).vH).length) ce11Bag] Tryz.isAgg115 Tryz.sizeOf115 rfl (qH (H.get 1 rfl) 0 2) ?_
  refine ⟨H.sel _ (.refl _) _ (fun _ h => List.mem_cons_of_mem _ (List.mem_cons_of_mem _ (List.mem_cons_of_mem _ (List.mem_cons_of_mem _ (h))))), ?_⟩
  refine xq [3] (by kernel_rfl) (by simp) (xZ rfl ?_ xu)
  refine zg [.int .i64 ((x[k]!).qy), .slice ae8Bag (((x[k]!).vH).length) ce8Bag] Tryz.isAgg115 Tryz.sizeOf115 rfl (qH (H.get 3 rfl) 0 2) ?_
  refine ⟨H.sel _ (.refl _) _ (fun _ h => List.mem_cons_of_mem _ (List.mem_cons_of_mem _ (List.mem_cons_of_mem _ (List.mem_cons_of_mem _ (h))))), ?_⟩
  refine xq [8] (by kernel_rfl) (by simp) (xZ rfl ?_ xu)
  refine qZ #[.agg #[.int .i64 ((x[k]!).qy), .slice ae8Bag (((x[k]!).vH).length) ce8Bag], .agg #[.int .i64 ((y[k]!).qy), .slice ae11Bag (((y[k]!).vH).length) ce11Bag]] rfl rfl Tryz.call162 (eqInto_ok w3.drew (x[k]!) (y[k]!) ae8Bag ce8Bag Fe8Bag ae11Bag ce11Bag Fe11Bag (H.get 2 rfl).1 (H.get 0 rfl).1) ?_
  rintro _ w15 rfl x16
  replace H := H.ext x16
  refine ⟨H.sel _ (.refl _) _ (fun _ h => List.mem_cons_of_mem _ (List.mem_cons_of_mem _ (List.mem_cons_of_mem _ (List.mem_cons_of_mem _ (h))))), ?_⟩
  refine rtp 9 (.bool (!(decide ((x[k]!) = (y[k]!))))) (H.sel _ (.refl _) _ (fun _ h => List.mem_cons_of_mem _ (List.mem_cons_of_mem _ (List.mem_cons_of_mem _ (List.mem_cons_of_mem _ (h)))))) ?_
  refine xN (by kernel_rfl) (t_n ?_)
  refine qW (!(decide ((x[k]!) = (y[k]!)))) rfl (fun h17 => ?_) (fun h17 => ?_)
  ·skip
   replace h17 := xg h17
   replace h17 := of_decide_eq_false h17
   refine qm (qA ?_)
   refine sp (.bool false) ?_
   refine qx (t_n (xC (b_r (t_r (t_r (b_r (t_r ?_)))))))
   refine ret1 (.bool false) rfl rfl ⟨_, rfl, ?_, H.base⟩
   first | rw [decide_eq_false (fun e => by subst e; omega)] | rw [decide_eq_false (yZ (k := k) ‹_›)] | rw [decide_eq_true (yA (k := k) (by omega) (by omega) ‹_›)]
  replace h17 := qY h17
  replace h17 := of_decide_eq_true h17
  refine xk (b_n (t_n (qA ?_)))
  refine sp (.int .i64 k) ?_
  refine sw (zZ k 1 rfl rfl (by omega) ?_)
  refine sp (.int .i64 (k + 1)) ?_
  refine qx ?_
  refine xH (m' := x.length - (k + 1)) (by omega) ⟨_, k + 1, (by exact qj (qj (qj (rfl) rfl) rfl) rfl), ?_, ?_, rfl, H.sel _ (.refl _) _ (by simp)⟩
  · omega
  · exact eqTo_succ (by omega) (by omega) ‹_› (by first | assumption | omega)
 replace h4 := of_decide_eq_false h4
 refine zK (t_x (t_x (b_x (t_n (qm (qA ?_))))))
 refine sp (.bool true) ?_
 refine qx (t_n (xC ?_))
 refine ret1 (.bool true) rfl rfl ⟨_, rfl, ?_, H.base⟩
 first | rw [decide_eq_false (fun e => by subst e; omega)] | rw [decide_eq_false (yZ (k := k) ‹_›)] | rw [decide_eq_true (yA (k := k) (by omega) (by omega) ‹_›)]

theorem eqRule_ok (w : World) (x : QG) (y : QG) (Qi : Option Addr) (Qc : Nat) (FxNeed : List Nat) (Qm : Option Addr) (Qh : Nat) (FxHave : List Nat) (Qj : Option Addr) (Qd : Nat) (FxLack : List Nat) (Ql : Option Addr) (Qg : Nat) (FxHere : List Nat) (XE : Option Addr) (XD : Nat) (FxOut : List Nat) (Qk : Option Addr) (Qe : Nat) (FxInto : List Nat) (ayNeed : Option Addr) (cyNeed : Nat) (FyNeed : List Nat) (ayHave : Option Addr) (cyHave : Nat) (FyHave : List Nat) (ayLack : Option Addr) (cyLack : Nat) (FyLack : List Nat) (ayHere : Option Addr) (cyHere : Nat) (FyHere : List Nat) (ayOut : Option Addr) (cyOut : Nat) (FyOut : List Nat) (ayInto : Option Addr) (cyInto : Nat) (FyInto : List Nat) (hxNeed : qV.rep w FxNeed [.slice Qi x.qR.length Qc] x.qR) (hxHave : qV.rep w FxHave [.slice Qm x.xh.length Qh] x.xh) (hxLack : qV.rep w FxLack [.slice Qj x.xm.length Qd] x.xm) (hxHere : qV.rep w FxHere [.slice Ql x.xB.length Qg] x.xB) (hxOut : qV.rep w FxOut [.slice XE x.zk.length XD] x.zk) (hxInto : qV.rep w FxInto [.slice Qk x.qC.length Qe] x.qC) (hyNeed : qV.rep w FyNeed [.slice ayNeed y.qR.length cyNeed] y.qR) (hyHave : qV.rep w FyHave [.slice ayHave y.xh.length cyHave] y.xh) (hyLack : qV.rep w FyLack [.slice ayLack y.xm.length cyLack] y.xm) (hyHere : qV.rep w FyHere [.slice ayHere y.xB.length cyHere] y.xB) (hyOut : qV.rep w FyOut [.slice ayOut y.zk.length cyOut] y.zk) (hyInto : qV.rep w FyInto [.slice ayInto y.qC.length cyInto] y.qC) : Calls Tryz.prog 104 #[.agg #[.int .i64 x.qy, .int .i64 x.zh, .slice Qi x.qR.length Qc, .slice Qm x.xh.length Qh, .slice Qj x.xm.length Qd, .slice Ql x.xB.length Qg, .slice XE x.zk.length XD, .slice Qk x.qC.length Qe, .bool x.xQ], .agg #[.int .i64 y.qy, .int .i64 y.zh, .slice ayNeed y.qR.length cyNeed, .slice ayHave y.xh.length cyHave, .slice ayLack y.xm.length cyLack, .slice ayHere y.xB.length cyHere, .slice ayOut y.zk.length cyOut, .slice ayInto y.qC.length cyInto, .bool y.xQ]] w (Ret (fun v w' => v = .bool (decide (x = y))) w) := by
 refine enter (n := 56) Tryz.func104 rfl Tryz.ntmps104 (Nat.le_of_ble_eq_true rfl) ?_
 have H := ((((((((((((St.start w).arg hyInto).arg hyOut).arg hyHere).arg hyLack).arg hyHave).arg hyNeed).arg hxInto).arg hxOut).arg hxHere).arg hxLack).arg hxHave).arg hxNeed
 have nhxNeed := qN hxNeed
 have nhxHave := qN hxHave
 have nhxLack := qN hxLack
 have nhxHere := qN hxHere
 have nhxOut := qN hxOut
 have nhxInto := qN hxInto
 have nhyNeed := qN hyNeed
 have nhyHave := qN hyHave
 have nhyLack := qN hyLack
 have nhyHere := qN hyHere
 have nhyOut := qN hyOut
 have nhyInto := qN hyInto
 clear hxNeed hxHave hxLack hxHere hxOut hxInto hyNeed hyHave hyLack hyHere hyOut hyInto
 refine qm (qA ?_)
 refine sw (o_box H (.agg #[.int .i64 x.qy, .int .i64 x.zh, .slice Qi x.qR.length Qc, .slice Qm x.xh.length Qh, .slice Qj x.xm.length Qd, .slice Ql x.xB.length Qg, .slice XE x.zk.length XD, .slice Qk x.qC.length Qe, .bool x.xQ]) rfl fun b1 w2 H => ?_)
 replace H : St _ _ [.box b1 [.int .i64 x.qy, .int .i64 x.zh, .slice Qi x.qR.length Qc, .slice Qm x.xh.length Qh, .slice Qj x.xm.length Qd, .slice Ql x.xB.length Qg, .slice XE x.zk.length XD, .slice Qk x.qC.length Qe, .bool x.xQ] 110] _ := H
 refine sw (o_box H (.agg #[.int .i64 y.qy, .int .i64 y.zh, .slice ayNeed y.qR.length cyNeed, .slice ayHave y.xh.length cyHave, .slice ayLack y.xm.length cyLack, .slice ayHere y.xB.length cyHere, .slice ayOut y.zk.length cyOut, .slice ayInto y.qC.length cyInto, .bool y.xQ]) rfl fun b3 w4 H => ?_)
 replace H : St _ _ [.box b3 [.int .i64 y.qy, .int .i64 y.zh, .slice ayNeed y.qR.length cyNeed, .slice ayHave y.xh.length cyHave, .slice ayLack y.xm.length cyLack, .slice ayHere y.xB.length cyHere, .slice ayOut y.zk.length cyOut, .slice ayInto y.qC.length cyInto, .bool y.xQ] 110, .box b1 [.int .i64 x.qy, .int .i64 x.zh, .slice Qi x.qR.length Qc, .slice Qm x.xh.length Qh, .slice Qj x.xm.length Qd, .slice Ql x.xB.length Qg, .slice XE x.zk.length XD, .slice Qk x.qC.length Qe, .bool x.xQ] 110] _ := H
 refine sp (.bool false) ?_
 refine qx (t_n (qm (qm (qA ?_))))
 refine sw (qP b1 (0) 0 Tryz.underlying110 rfl rfl Tryz.sizeOf2 rfl ?_)
 refine sw (qE (.int .i64 x.qy) Tryz.isAgg2 rfl (H.cell 1 rfl rfl) ?_)
 refine sw (qP b3 (0) 0 Tryz.underlying110 rfl rfl Tryz.sizeOf2 rfl ?_)
 refine sw (qE (.int .i64 y.qy) Tryz.isAgg2 rfl (H.cell 0 rfl rfl) ?_)
 refine sp (.bool ((x.qy : Int) != y.qy)) ?_
 refine qx (t_n ?_)
 refine qW ((x.qy : Int) != y.qy) rfl (fun h5 => ?_) (fun h5 => ?_)
 ·skip
  replace h5 := bne_iff_ne.1 h5
  refine qm (qA ?_)
  refine sp (.bool false) ?_
  refine qx (t_n (xC (t_r ?_)))
  refine ret1 (.bool false) rfl rfl ⟨_, rfl, ?_, H.base⟩
  rw [decide_eq_false (fun e => by subst e; simp_all)]
 replace h5 := xR h5
 refine xk (t_n (qm (qm (qA ?_))))
 refine sw (qP b1 (0) 1 Tryz.underlying110 rfl rfl Tryz.sizeOf2 rfl ?_)
 refine sw (qE (.int .i64 x.zh) Tryz.isAgg2 rfl (H.cell 1 rfl rfl) ?_)
 refine sw (qP b3 (0) 1 Tryz.underlying110 rfl rfl Tryz.sizeOf2 rfl ?_)
 refine sw (qE (.int .i64 y.zh) Tryz.isAgg2 rfl (H.cell 0 rfl rfl) ?_)
 refine sp (.bool ((x.zh : Int) != y.zh)) ?_
 refine qx (t_n ?_)
 refine qW ((x.zh : Int) != y.zh) rfl (fun h6 => ?_) (fun h6 => ?_)
 ·skip
  replace h6 := bne_iff_ne.1 h6
  refine qm (qA ?_)
  refine sp (.bool false) ?_
  refine qx (t_n (xC (t_r ?_)))
  refine ret1 (.bool false) rfl rfl ⟨_, rfl, ?_, H.base⟩
  rw [decide_eq_false (fun e => by subst e; simp_all)]
 replace h6 := xR h6
 refine xk (t_n (qm (qm (qA ?_))))
 refine sw (qP b1 (0) 2 Tryz.underlying110 rfl rfl Tryz.sizeOf22 rfl ?_)
 refine sw (qE (.slice Qi x.qR.length Qc) Tryz.isAgg22 rfl (H.cell 1 rfl rfl) ?_)
 refine sw (qP b3 (0) 2 Tryz.underlying110 rfl rfl Tryz.sizeOf22 rfl ?_)
 refine sw (qE (.slice ayNeed y.qR.length cyNeed) Tryz.isAgg22 rfl (H.cell 0 rfl rfl) ?_)
 refine sw (qZ #[.slice Qi x.qR.length Qc, .slice ayNeed y.qR.length cyNeed] rfl rfl Tryz.call27 (Q4 w4 x.qR y.qR Qi Qc FxNeed ayNeed cyNeed FyNeed (H.get 0 rfl).1 (H.get 6 rfl).1) ?_)
 rintro _ w7 rfl x8
 replace H := H.ext x8
 refine sp (.bool (!(decide (x.qR = y.qR)))) ?_
 refine qx (t_n ?_)
 refine qW (!(decide (x.qR = y.qR))) rfl (fun h9 => ?_) (fun h9 => ?_)
 ·skip
  replace h9 := xg h9
  replace h9 := of_decide_eq_false h9
  refine qm (qA ?_)
  refine sp (.bool false) ?_
  refine qx (t_n (xC (t_r ?_)))
  refine ret1 (.bool false) rfl rfl ⟨_, rfl, ?_, H.base⟩
  rw [decide_eq_false (fun e => by subst e; simp_all)]
 replace h9 := qY h9
 replace h9 := of_decide_eq_true h9
 refine xk (t_n (qm (qm (qA ?_))))
 refine sw (qP b1 (0) 3 Tryz.underlying110 rfl rfl Tryz.sizeOf22 rfl ?_)
 refine sw (qE (.slice Qm x.xh.length Qh) Tryz.isAgg22 rfl (H.cell 1 rfl rfl) ?_)
 refine sw (qP b3 (0) 3 Tryz.underlying110 rfl rfl Tryz.sizeOf22 rfl ?_)
 refine sw (qE (.slice ayHave y.xh.length cyHave) Tryz.isAgg22 rfl (H.cell 0 rfl rfl) ?_)
 refine sw (qZ #[.slice Qm x.xh.length Qh, .slice ayHave y.xh.length cyHave] rfl rfl Tryz.call27 (Q4 w7 x.xh y.xh Qm Qh FxHave ayHave cyHave FyHave (H.get 1 rfl).1 (H.get 7 rfl).1) ?_)
 rintro _ w10 rfl x11
 replace H := H.ext x11
 refine sp (.bool (!(decide (x.xh = y.xh)))) ?_
 refine qx (t_n ?_)
 refine qW (!(decide (x.xh = y.xh))) rfl (fun h12 => ?_) (fun h12 => ?_)
 ·skip
  replace h12 := xg h12
  replace h12 := of_decide_eq_false h12
  refine qm (qA ?_)
  refine sp (.bool false) ?_
  refine qx (t_n (xC (t_r ?_)))
  refine ret1 (.bool false) rfl rfl ⟨_, rfl, ?_, H.base⟩
  rw [decide_eq_false (fun e => by subst e; simp_all)]
 replace h12 := qY h12
 replace h12 := of_decide_eq_true h12
 refine xk (t_n (qm (qm (qA ?_))))
 refine sw (qP b1 (0) 4 Tryz.underlying110 rfl rfl Tryz.sizeOf22 rfl ?_)
 refine sw (qE (.slice Qj x.xm.length Qd) Tryz.isAgg22 rfl (H.cell 1 rfl rfl) ?_)
 refine sw (qP b3 (0) 4 Tryz.underlying110 rfl rfl Tryz.sizeOf22 rfl ?_)
 refine sw (qE (.slice ayLack y.xm.length cyLack) Tryz.isAgg22 rfl (H.cell 0 rfl rfl) ?_)
 refine sw (qZ #[.slice Qj x.xm.length Qd, .slice ayLack y.xm.length cyLack] rfl rfl Tryz.call27 (Q4 w10 x.xm y.xm Qj Qd FxLack ayLack cyLack FyLack (H.get 2 rfl).1 (H.get 8 rfl).1) ?_)
 rintro _ w13 rfl x14
 replace H := H.ext x14
 refine sp (.bool (!(decide (x.xm = y.xm)))) ?_
 refine qx (t_n ?_)
 refine qW (!(decide (x.xm = y.xm))) rfl (fun h15 => ?_) (fun h15 => ?_)
 ·skip
  replace h15 := xg h15
  replace h15 := of_decide_eq_false h15
  refine qm (qA ?_)
  refine sp (.bool false) ?_
  refine qx (t_n (xC (t_r ?_)))
  refine ret1 (.bool false) rfl rfl ⟨_, rfl, ?_, H.base⟩
  rw [decide_eq_false (fun e => by subst e; simp_all)]
 replace h15 := qY h15
 replace h15 := of_decide_eq_true h15
 refine xk (t_n (qm (qm (qA ?_))))
 refine sw (qP b1 (0) 5 Tryz.underlying110 rfl rfl Tryz.sizeOf22 rfl ?_)
 refine sw (qE (.slice Ql x.xB.length Qg) Tryz.isAgg22 rfl (H.cell 1 rfl rfl) ?_)
 refine sw (qP b3 (0) 5 Tryz.underlying110 rfl rfl Tryz.sizeOf22 rfl ?_)
 refine sw (qE (.slice ayHere y.xB.length cyHere) Tryz.isAgg22 rfl (H.cell 0 rfl rfl) ?_)
 refine sw (qZ #[.slice Ql x.xB.length Qg, .slice ayHere y.xB.length cyHere] rfl rfl Tryz.call27 (Q4 w13 x.xB y.xB Ql Qg FxHere ayHere cyHere FyHere (H.get 3 rfl).1 (H.get 9 rfl).1) ?_)
 rintro _ w16 rfl x17
 replace H := H.ext x17
 refine sp (.bool (!(decide (x.xB = y.xB)))) ?_
 refine qx (t_n ?_)
 refine qW (!(decide (x.xB = y.xB))) rfl (fun h18 => ?_) (fun h18 => ?_)
 ·skip
  replace h18 := xg h18
  replace h18 := of_decide_eq_false h18
  refine qm (qA ?_)
  refine sp (.bool false) ?_
  refine qx (t_n (xC (t_r ?_)))
  refine ret1 (.bool false) rfl rfl ⟨_, rfl, ?_, H.base⟩
  rw [decide_eq_false (fun e => by subst e; simp_all)]
 replace h18 := qY h18
 replace h18 := of_decide_eq_true h18
 refine xk (t_n (qm (qm (qA ?_))))
 refine sw (qP b1 (0) 6 Tryz.underlying110 rfl rfl Tryz.sizeOf22 rfl ?_)
 refine sw (qE (.slice XE x.zk.length XD) Tryz.isAgg22 rfl (H.cell 1 rfl rfl) ?_)
 refine sw (qP b3 (0) 6 Tryz.underlying110 rfl rfl Tryz.sizeOf22 rfl ?_)
 refine sw (qE (.slice ayOut y.zk.length cyOut) Tryz.isAgg22 rfl (H.cell 0 rfl rfl) ?_)
 refine sw (qZ #[.slice XE x.zk.length XD, .slice ayOut y.zk.length cyOut] rfl rfl Tryz.call27 (Q4 w16 x.zk y.zk XE XD FxOut ayOut cyOut FyOut (H.get 4 rfl).1 (H.get 10 rfl).1) ?_)
 rintro _ w19 rfl x20
 replace H := H.ext x20
 refine sp (.bool (!(decide (x.zk = y.zk)))) ?_
 refine qx (t_n ?_)
 refine qW (!(decide (x.zk = y.zk))) rfl (fun h21 => ?_) (fun h21 => ?_)
 ·skip
  replace h21 := xg h21
  replace h21 := of_decide_eq_false h21
  refine qm (qA ?_)
  refine sp (.bool false) ?_
  refine qx (t_n (xC (t_r ?_)))
  refine ret1 (.bool false) rfl rfl ⟨_, rfl, ?_, H.base⟩
  rw [decide_eq_false (fun e => by subst e; simp_all)]
 replace h21 := qY h21
 replace h21 := of_decide_eq_true h21
 refine xk (t_n (qm (qm (qA ?_))))
 refine sw (qP b1 (0) 7 Tryz.underlying110 rfl rfl Tryz.sizeOf108 rfl ?_)
 refine sw (qE (.slice Qk x.qC.length Qe) Tryz.isAgg108 rfl (H.cell 1 rfl rfl) ?_)
 refine sw (qP b3 (0) 7 Tryz.underlying110 rfl rfl Tryz.sizeOf108 rfl ?_)
 refine sw (qE (.slice ayInto y.qC.length cyInto) Tryz.isAgg108 rfl (H.cell 0 rfl rfl) ?_)
 refine sw (qZ #[.slice Qk x.qC.length Qe, .slice ayInto y.qC.length cyInto] rfl rfl Tryz.call148 (eqIntoS_ok w19 x.qC y.qC Qk Qe FxInto ayInto cyInto FyInto (H.get 5 rfl).1 (H.get 11 rfl).1) ?_)
 rintro _ w22 rfl x23
 replace H := H.ext x23
 refine sp (.bool (!(decide (x.qC = y.qC)))) ?_
 refine qx (t_n ?_)
 refine qW (!(decide (x.qC = y.qC))) rfl (fun h24 => ?_) (fun h24 => ?_)
 ·skip
  replace h24 := xg h24
  replace h24 := of_decide_eq_false h24
  refine qm (qA ?_)
  refine sp (.bool false) ?_
  refine qx (t_n (xC (t_r ?_)))
  refine ret1 (.bool false) rfl rfl ⟨_, rfl, ?_, H.base⟩
  rw [decide_eq_false (fun e => by subst e; simp_all)]
 replace h24 := qY h24
 replace h24 := of_decide_eq_true h24
 refine xk (t_n (qm (qm (qA ?_))))
 refine sw (qP b1 (0) 8 Tryz.underlying110 rfl rfl Tryz.sizeOf4 rfl ?_)
 refine sw (qE (.bool x.xQ) Tryz.isAgg4 rfl (H.cell 1 rfl rfl) ?_)
 refine sw (qP b3 (0) 8 Tryz.underlying110 rfl rfl Tryz.sizeOf4 rfl ?_)
 refine sw (qE (.bool y.xQ) Tryz.isAgg4 rfl (H.cell 0 rfl rfl) ?_)
 refine sw (o_neB Tryz.underlying4 x.xQ y.xQ rfl rfl ?_)
 refine qx (t_n ?_)
 refine qW (x.xQ != y.xQ) rfl (fun h25 => ?_) (fun h25 => ?_)
 ·skip
  replace h25 := bne_iff_ne.1 h25
  refine qm (qA ?_)
  refine sp (.bool false) ?_
  refine qx (t_n (xC (t_r ?_)))
  refine ret1 (.bool false) rfl rfl ⟨_, rfl, ?_, H.base⟩
  rw [decide_eq_false (fun e => by subst e; simp_all)]
 replace h25 := xR h25
 refine xk (t_n (qm (qA ?_)))
 refine sp (.bool true) ?_
 refine qx (t_n (xC ?_))
 refine ret1 (.bool true) rfl rfl ⟨_, rfl, ?_, H.base⟩
 rw [decide_eq_true (by cases x; cases y; simp_all)]

theorem eqRuleS_ok (w : World) (x : List QG) (y : List QG) (ax : Option Addr) (cx : Nat) (Fx : List Nat) (ay : Option Addr) (cy : Nat) (Fy : List Nat) (hx : qV.rep w Fx [.slice ax x.length cx] x) (hy : qV.rep w Fy [.slice ay y.length cy] y) : Calls Tryz.prog 55 #[.slice ax x.length cx, .slice ay y.length cy] w (Ret (fun v w' => v = .bool (decide (x = y))) w) := by
 refine enter (n := 27) Tryz.func55 rfl Tryz.ntmps55 (Nat.le_of_ble_eq_true rfl) ?_
 have H := ((St.start w).arg hy).arg hx
 have nhx := qN hx
 have nhy := qN hy
 clear hx hy
 refine qm (qA ?_)
 refine sp (.bool false) ?_
 refine qx (t_n (qm (qm (qA ?_))))
 refine sp (.slice ax x.length cx) ?_
 refine sw (zX Tryz.underlying34 ax x.length cx rfl ?_)
 refine sp (.slice ay y.length cy) ?_
 refine sw (zX Tryz.underlying34 ay y.length cy rfl ?_)
 refine sp (.bool ((x.length : Int) != y.length)) ?_
 refine qx (t_n ?_)
 refine qW ((x.length : Int) != y.length) rfl (fun h1 => ?_) (fun h1 => ?_)
 ·skip
  replace h1 := bne_iff_ne.1 h1
  refine qm (qA ?_)
  refine sp (.bool false) ?_
  refine qx (t_n (xC (t_r ?_)))
  refine ret1 (.bool false) rfl rfl ⟨_, rfl, ?_, H.base⟩
  first | rw [decide_eq_false (fun e => by subst e; omega)] | rw [decide_eq_false (yZ (k := k) ‹_›)] | rw [decide_eq_true (yA (k := k) (by omega) (by omega) ‹_›)]
 replace h1 := xR h1
 refine xk (t_n (qm (qm (qA ?_))))
 refine sp (.int .i64 0) ?_
 refine qx (t_n (xE ?_))
 refine zU (fun m' ρ w2 => ∃ (junk : Env) (k : Nat), ρ = upd (upd (upd junk 0 (.slice ax x.length cx)) 1 (.slice ay y.length cy)) 5 (.int .i64 k) ∧ (k ≤ x.length) ∧ (x.take k = y.take k) ∧ m' = x.length - k ∧ St w w2 [] [isF false Fx (.slice ax x.length cx) x, isF false Fy (.slice ay y.length cy) y]) (x.length - 0) ⟨_, 0, (by exact qj (qj (qj (rfl) rfl) rfl) rfl), (by omega), (by rfl), rfl, H⟩ ?_
 clear H
 rintro m' ρ w3 ⟨junk, k, rfl, i0, i1, rfl, H⟩
 refine qm (qm (qA ?_))
 refine sps [.int .i64 k, .slice ax x.length cx] ?_
 refine sw (zX Tryz.underlying34 ax x.length cx rfl ?_)
 refine sp (.bool (decide ((k : Int) < x.length))) ?_
 refine qx (t_n ?_)
 refine qW (decide ((k : Int) < x.length)) rfl (fun h4 => ?_) (fun h4 => ?_)
 ·skip
  replace h4 := of_decide_eq_true h4
  refine xk (t_n (qm (xE (qm ?_))))
  refine yw rfl H fun H => ?_
  refine rtp 0 (.slice ax x.length cx) H ?_
  refine rtp 1 (.int .i64 k) H ?_
  obtain ⟨b6, o7, rfl⟩ := H.addr 0 rfl (by omega)
  obtain ⟨ae8Need, ce8Need, Fe8Need, ae8Have, ce8Have, Fe8Have, ae8Lack, ce8Lack, Fe8Lack, ae8Here, ce8Here, Fe8Here, ae8Out, ce8Out, Fe8Out, ae8Into, ce8Into, Fe8Into, H⟩ := H.yB 0 rfl k k (by omega) (by omega) (by omega)
  refine rt 2 (pp b6 (o7 + (k : Int).toNat * 9)) (xO b6 (o7) x.length cx k Tryz.underlying34 ti110 rfl rfl (by omega) (by omega)) (H.sel _ (.refl _) _ (fun _ h => List.mem_cons_of_mem _ (List.mem_cons_of_mem _ (List.mem_cons_of_mem _ (List.mem_cons_of_mem _ (List.mem_cons_of_mem _ (List.mem_cons_of_mem _ (List.mem_cons_of_mem _ (h))))))))) ?_
  refine rtp 4 (.slice ay y.length cy) (H.sel _ (.refl _) _ (fun _ h => List.mem_cons_of_mem _ (List.mem_cons_of_mem _ (List.mem_cons_of_mem _ (List.mem_cons_of_mem _ (List.mem_cons_of_mem _ (List.mem_cons_of_mem _ (List.mem_cons_of_mem _ (h))))))))) ?_
  refine rtp 5 (.int .i64 k) (H.sel _ (.refl _) _ (fun _ h => List.mem_cons_of_mem _ (List.mem_cons_of_mem _ (List.mem_cons_of_mem _ (List.mem_cons_of_mem _ (List.mem_cons_of_mem _ (List.mem_cons_of_mem _ (List.mem_cons_of_mem _ (h))))))))) ?_
  obtain ⟨b9, o10, rfl⟩ := H.addr 8 rfl (by omega)
  obtain ⟨ae11Need, ce11Need, Fe11Need, ae11Have, ce11Have, Fe11Have, ae11Lack, ce11Lack, Fe11Lack, ae11Here, ce11Here, Fe11Here, ae11Out, ce11Out, Fe11Out, ae11Into, ce11Into, Fe11Into, H⟩ := H.yB 8 rfl k k (by omega) (by omega) (by omega)
  refine rt 6 (pp b9 (o10 + (k : Int).toNat * 9)) (xO b9 (o10) y.length cy k Tryz.underlying34 ti110 rfl rfl (by omega) (by omega)) (H.sel _ (.refl _) _ (fun _ h => List.mem_cons_of_mem _ (List.mem_cons_of_mem _ (List.mem_cons_of_mem _ (List.mem_cons_of_mem _ (List.mem_cons_of_mem _ (List.mem_cons_of_mem _ (List.mem_cons_of_mem _ (List.mem_cons_of_mem _ (List.mem_cons_of_mem _ (List.mem_cons_of_mem _ (List.mem_cons_of_mem _ (List.mem_cons_of_mem _ (List.mem_cons_of_mem _ (List.mem_cons_of_mem _ (h)))))))))))))))) ?_
  refine xq [3, 7] (by kernel_rfl) (by simp) (xZ rfl ?_ (xZ rfl ?_ xu))
  ·skip
   refine zg [.int .i64 ((x[k]!).qy), .int .i64 ((x[k]!).zh), .slice ae8Need (((x[k]!).qR).length) ce8Need, .slice ae8Have (((x[k]!).xh).length) ce8Have, .slice ae8Lack (((x[k]!).xm).length) ce8Lack, .slice ae8Here (((x[k]!).xB).length) ce8Here, .slice ae8Out (((x[k]!).zk).length) ce8Out, .slice ae8Into (((x[k]!).qC).length) ce8Into, .bool ((x[k]!).xQ)] Tryz.isAgg110 Tryz.sizeOf110 rfl (qH (H.get 13 rfl) 0 9) ?_
   refine ⟨H.sel _ (.refl _) _ (fun _ h => List.mem_cons_of_mem _ (List.mem_cons_of_mem _ (List.mem_cons_of_mem _ (List.mem_cons_of_mem _ (List.mem_cons_of_mem _ (List.mem_cons_of_mem _ (List.mem_cons_of_mem _ (List.mem_cons_of_mem _ (List.mem_cons_of_mem _ (List.mem_cons_of_mem _ (List.mem_cons_of_mem _ (List.mem_cons_of_mem _ (List.mem_cons_of_mem _ (List.mem_cons_of_mem _ (h))))))))))))))), ?_⟩
   refine xq [7] (by kernel_rfl) (by simp) (xZ rfl ?_ xu)
   refine zg [.int .i64 ((y[k]!).qy), .int .i64 ((y[k]!).zh), .slice ae11Need (((y[k]!).qR).length) ce11Need, .slice ae11Have (((y[k]!).xh).length) ce11Have, .slice ae11Lack (((y[k]!).xm).length) ce11Lack, .slice ae11Here (((y[k]!).xB).length) ce11Here, .slice ae11Out (((y[k]!).zk).length) ce11Out, .slice ae11Into (((y[k]!).qC).length) ce11Into, .bool ((y[k]!).xQ)] Tryz.isAgg110 Tryz.sizeOf110 rfl (qH (H.get 6 rfl) 0 9) ?_
   refine ⟨H.sel _ (.refl _) _ (fun _ h => List.mem_cons_of_mem _ (List.mem_cons_of_mem _ (List.mem_cons_of_mem _ (List.mem_cons_of_mem _ (List.mem_cons_of_mem _ (List.mem_cons_of_mem _ (List.mem_cons_of_mem _ (List.mem_cons_of_mem _ (List.mem_cons_of_mem _ (List.mem_cons_of_mem _ (List.mem_cons_of_mem _ (List.mem_cons_of_mem _ (List.mem_cons_of_mem _ (List.mem_cons_of_mem _ (h))))))))))))))), ?_⟩
   refine xq [8] (by kernel_rfl) (by simp) (xZ rfl ?_ xu)
   refine qZ #[.agg #[.int .i64 ((x[k]!).qy), .int .i64 ((x[k]!).zh), .slice ae8Need (((x[k]!).qR).length) ce8Need, .slice ae8Have (((x[k]!).xh).length) ce8Have, .slice ae8Lack (((x[k]!).xm).length) ce8Lack, .slice ae8Here (((x[k]!).xB).length) ce8Here, .slice ae8Out (((x[k]!).zk).length) ce8Out, .slice ae8Into (((x[k]!).qC).length) ce8Into, .bool ((x[k]!).xQ)], .agg #[.int .i64 ((y[k]!).qy), .int .i64 ((y[k]!).zh), .slice ae11Need (((y[k]!).qR).length) ce11Need, .slice ae11Have (((y[k]!).xh).length) ce11Have, .slice ae11Lack (((y[k]!).xm).length) ce11Lack, .slice ae11Here (((y[k]!).xB).length) ce11Here, .slice ae11Out (((y[k]!).zk).length) ce11Out, .slice ae11Into (((y[k]!).qC).length) ce11Into, .bool ((y[k]!).xQ)]] rfl rfl Tryz.call104 (eqRule_ok w3.drew (x[k]!) (y[k]!) ae8Need ce8Need Fe8Need ae8Have ce8Have Fe8Have ae8Lack ce8Lack Fe8Lack ae8Here ce8Here Fe8Here ae8Out ce8Out Fe8Out ae8Into ce8Into Fe8Into ae11Need ce11Need Fe11Need ae11Have ce11Have Fe11Have ae11Lack ce11Lack Fe11Lack ae11Here ce11Here Fe11Here ae11Out ce11Out Fe11Out ae11Into ce11Into Fe11Into (H.get 7 rfl).1 (H.get 8 rfl).1 (H.get 9 rfl).1 (H.get 10 rfl).1 (H.get 11 rfl).1 (H.get 12 rfl).1 (H.get 0 rfl).1 (H.get 1 rfl).1 (H.get 2 rfl).1 (H.get 3 rfl).1 (H.get 4 rfl).1 (H.get 5 rfl).1) ?_
   rintro _ w12 rfl x13
   replace H := H.ext x13
   refine ⟨H.sel _ (.refl _) _ (fun _ h => List.mem_cons_of_mem _ (List.mem_cons_of_mem _ (List.mem_cons_of_mem _ (List.mem_cons_of_mem _ (List.mem_cons_of_mem _ (List.mem_cons_of_mem _ (List.mem_cons_of_mem _ (List.mem_cons_of_mem _ (List.mem_cons_of_mem _ (List.mem_cons_of_mem _ (List.mem_cons_of_mem _ (List.mem_cons_of_mem _ (List.mem_cons_of_mem _ (List.mem_cons_of_mem _ (h))))))))))))))), ?_⟩
   refine rtp 9 (.bool (!(decide ((x[k]!) = (y[k]!))))) (H.sel _ (.refl _) _ (fun _ h => List.mem_cons_of_mem _ (List.mem_cons_of_mem _ (List.mem_cons_of_mem _ (List.mem_cons_of_mem _ (List.mem_cons_of_mem _ (List.mem_cons_of_mem _ (List.mem_cons_of_mem _ (List.mem_cons_of_mem _ (List.mem_cons_of_mem _ (List.mem_cons_of_mem _ (List.mem_cons_of_mem _ (List.mem_cons_of_mem _ (List.mem_cons_of_mem _ (List.mem_cons_of_mem _ (h)))))))))))))))) ?_
   refine xN (by kernel_rfl) (t_n ?_)
   refine qW (!(decide ((x[k]!) = (y[k]!)))) rfl (fun h14 => ?_) (fun h14 => ?_)
   ·skip
    replace h14 := xg h14
    replace h14 := of_decide_eq_false h14
    refine qm (qA ?_)
    refine sp (.bool false) ?_
    refine qx (t_n (xC (b_r (t_r (t_r (b_r (t_r ?_)))))))
    refine ret1 (.bool false) rfl rfl ⟨_, rfl, ?_, H.base⟩
    first | rw [decide_eq_false (fun e => by subst e; omega)] | rw [decide_eq_false (yZ (k := k) ‹_›)] | rw [decide_eq_true (yA (k := k) (by omega) (by omega) ‹_›)]
   replace h14 := qY h14
   replace h14 := of_decide_eq_true h14
   refine xk (b_n (t_n (qA ?_)))
   refine sp (.int .i64 k) ?_
   refine sw (zZ k 1 rfl rfl (by omega) ?_)
   refine sp (.int .i64 (k + 1)) ?_
   refine qx ?_
   refine xH (m' := x.length - (k + 1)) (by omega) ⟨_, k + 1, (by exact qj (qj (qj (rfl) rfl) rfl) rfl), ?_, ?_, rfl, H.sel _ (.refl _) _ (by simp)⟩
   · omega
   · exact eqTo_succ (by omega) (by omega) ‹_› (by first | assumption | omega)
  refine zg [.int .i64 ((y[k]!).qy), .int .i64 ((y[k]!).zh), .slice ae11Need (((y[k]!).qR).length) ce11Need, .slice ae11Have (((y[k]!).xh).length) ce11Have, .slice ae11Lack (((y[k]!).xm).length) ce11Lack, .slice ae11Here (((y[k]!).xB).length) ce11Here, .slice ae11Out (((y[k]!).zk).length) ce11Out, .slice ae11Into (((y[k]!).qC).length) ce11Into, .bool ((y[k]!).xQ)] Tryz.isAgg110 Tryz.sizeOf110 rfl (qH (H.get 6 rfl) 0 9) ?_
  refine ⟨H.sel _ (.refl _) _ (fun _ h => List.mem_cons_of_mem _ (List.mem_cons_of_mem _ (List.mem_cons_of_mem _ (List.mem_cons_of_mem _ (List.mem_cons_of_mem _ (List.mem_cons_of_mem _ (List.mem_cons_of_mem _ (List.mem_cons_of_mem _ (List.mem_cons_of_mem _ (List.mem_cons_of_mem _ (List.mem_cons_of_mem _ (List.mem_cons_of_mem _ (List.mem_cons_of_mem _ (List.mem_cons_of_mem _ (h))))))))))))))), ?_⟩
  refine xq [3] (by kernel_rfl) (by simp) (xZ rfl ?_ xu)
  refine zg [.int .i64 ((x[k]!).qy), .int .i64 ((x[k]!).zh), .slice ae8Need (((x[k]!).qR).length) ce8Need, .slice ae8Have (((x[k]!).xh).length) ce8Have, .slice ae8Lack (((x[k]!).xm).length) ce8Lack, .slice ae8Here (((x[k]!).xB).length) ce8Here, .slice ae8Out (((x[k]!).zk).length) ce8Out, .slice ae8Into (((x[k]!).qC).length) ce8Into, .bool ((x[k]!).xQ)] Tryz.isAgg110 Tryz.sizeOf110 rfl (qH (H.get 13 rfl) 0 9) ?_
  refine ⟨H.sel _ (.refl _) _ (fun _ h => List.mem_cons_of_mem _ (List.mem_cons_of_mem _ (List.mem_cons_of_mem _ (List.mem_cons_of_mem _ (List.mem_cons_of_mem _ (List.mem_cons_of_mem _ (List.mem_cons_of_mem _ (List.mem_cons_of_mem _ (List.mem_cons_of_mem _ (List.mem_cons_of_mem _ (List.mem_cons_of_mem _ (List.mem_cons_of_mem _ (List.mem_cons_of_mem _ (List.mem_cons_of_mem _ (h))))))))))))))), ?_⟩
  refine xq [8] (by kernel_rfl) (by simp) (xZ rfl ?_ xu)
  refine qZ #[.agg #[.int .i64 ((x[k]!).qy), .int .i64 ((x[k]!).zh), .slice ae8Need (((x[k]!).qR).length) ce8Need, .slice ae8Have (((x[k]!).xh).length) ce8Have, .slice ae8Lack (((x[k]!).xm).length) ce8Lack, .slice ae8Here (((x[k]!).xB).length) ce8Here, .slice ae8Out (((x[k]!).zk).length) ce8Out, .slice ae8Into (((x[k]!).qC).length) ce8Into, .bool ((x[k]!).xQ)], .agg #[.int .i64 ((y[k]!).qy), .int .i64 ((y[k]!).zh), .slice ae11Need (((y[k]!).qR).length) ce11Need, .slice ae11Have (((y[k]!).xh).length) ce11Have, .slice ae11Lack (((y[k]!).xm).length) ce11Lack, .slice ae11Here (((y[k]!).xB).length) ce11Here, .slice ae11Out (((y[k]!).zk).length) ce11Out, .slice ae11Into (((y[k]!).qC).length) ce11Into, .bool ((y[k]!).xQ)]] rfl rfl Tryz.call104 (eqRule_ok w3.drew (x[k]!) (y[k]!) ae8Need ce8Need Fe8Need ae8Have ce8Have Fe8Have ae8Lack ce8Lack Fe8Lack ae8Here ce8Here Fe8Here ae8Out ce8Out Fe8Out ae8Into ce8Into Fe8Into ae11Need ce11Need Fe11Need ae11Have ce11Have Fe11Have ae11Lack ce11Lack Fe11Lack ae11Here ce11Here Fe11Here ae11Out ce11Out Fe11Out ae11Into ce11Into Fe11Into (H.get 7 rfl).1 (H.get 8 rfl).1 (H.get 9 rfl).1 (H.get 10 rfl).1 (H.get 11 rfl).1 (H.get 12 rfl).1 (H.get 0 rfl).1 (H.get 1 rfl).1 (H.get 2 rfl).1 (H.get 3 rfl).1 (H.get 4 rfl).1 (H.get 5 rfl).1) ?_
  rintro _ w15 rfl x16
  replace H := H.ext x16
  refine ⟨H.sel _ (.refl _) _ (fun _ h => List.mem_cons_of_mem _ (List.mem_cons_of_mem _ (List.mem_cons_of_mem _ (List.mem_cons_of_mem _ (List.mem_cons_of_mem _ (List.mem_cons_of_mem _ (List.mem_cons_of_mem _ (List.mem_cons_of_mem _ (List.mem_cons_of_mem _ (List.mem_cons_of_mem _ (List.mem_cons_of_mem _ (List.mem_cons_of_mem _ (List.mem_cons_of_mem _ (List.mem_cons_of_mem _ (h))))))))))))))), ?_⟩
  refine rtp 9 (.bool (!(decide ((x[k]!) = (y[k]!))))) (H.sel _ (.refl _) _ (fun _ h => List.mem_cons_of_mem _ (List.mem_cons_of_mem _ (List.mem_cons_of_mem _ (List.mem_cons_of_mem _ (List.mem_cons_of_mem _ (List.mem_cons_of_mem _ (List.mem_cons_of_mem _ (List.mem_cons_of_mem _ (List.mem_cons_of_mem _ (List.mem_cons_of_mem _ (List.mem_cons_of_mem _ (List.mem_cons_of_mem _ (List.mem_cons_of_mem _ (List.mem_cons_of_mem _ (h)))))))))))))))) ?_
  refine xN (by kernel_rfl) (t_n ?_)
  refine qW (!(decide ((x[k]!) = (y[k]!)))) rfl (fun h17 => ?_) (fun h17 => ?_)
  ·skip
   replace h17 := xg h17
   replace h17 := of_decide_eq_false h17
   refine qm (qA ?_)
   refine sp (.bool false) ?_
   refine qx (t_n (xC (b_r (t_r (t_r (b_r (t_r ?_)))))))
   refine ret1 (.bool false) rfl rfl ⟨_, rfl, ?_, H.base⟩
   first | rw [decide_eq_false (fun e => by subst e; omega)] | rw [decide_eq_false (yZ (k := k) ‹_›)] | rw [decide_eq_true (yA (k := k) (by omega) (by omega) ‹_›)]
  replace h17 := qY h17
  replace h17 := of_decide_eq_true h17
  refine xk (b_n (t_n (qA ?_)))
  refine sp (.int .i64 k) ?_
  refine sw (zZ k 1 rfl rfl (by omega) ?_)
  refine sp (.int .i64 (k + 1)) ?_
  refine qx ?_
  refine xH (m' := x.length - (k + 1)) (by omega) ⟨_, k + 1, (by exact qj (qj (qj (rfl) rfl) rfl) rfl), ?_, ?_, rfl, H.sel _ (.refl _) _ (by simp)⟩
  · omega
  · exact eqTo_succ (by omega) (by omega) ‹_› (by first | assumption | omega)
 replace h4 := of_decide_eq_false h4
 refine zK (t_x (t_x (b_x (t_n (qm (qA ?_))))))
 refine sp (.bool true) ?_
 refine qx (t_n (xC ?_))
 refine ret1 (.bool true) rfl rfl ⟨_, rfl, ?_, H.base⟩
 first | rw [decide_eq_false (fun e => by subst e; omega)] | rw [decide_eq_false (yZ (k := k) ‹_›)] | rw [decide_eq_true (yA (k := k) (by omega) (by omega) ‹_›)]

theorem eqSystem_ok (w : World) (x : qX) (y : qX) (zI : Option Addr) (zH : Nat) (yu : List Nat) (jA : Option Addr) (jy : Nat) (QV : List Nat) (ayParents : Option Addr) (cyParents : Nat) (FyParents : List Nat) (ayRules : Option Addr) (cyRules : Nat) (FyRules : List Nat) (Qz : qV.rep w yu [.slice zI x.qf.length zH] x.qf) (Vb : qV.rep w QV [.slice jA x.qg.length jy] x.qg) (hyParents : qV.rep w FyParents [.slice ayParents y.qf.length cyParents] y.qf) (hyRules : qV.rep w FyRules [.slice ayRules y.qg.length cyRules] y.qg) : Calls Tryz.prog 15 #[.agg #[.int .i64 x.qJ, .slice zI x.qf.length zH, .slice jA x.qg.length jy], .agg #[.int .i64 y.qJ, .slice ayParents y.qf.length cyParents, .slice ayRules y.qg.length cyRules]] w (Ret (fun v w' => v = .bool (decide (x = y))) w) := by
 refine enter (n := 22) Tryz.func15 rfl Tryz.ntmps15 (Nat.le_of_ble_eq_true rfl) ?_
 have H := ((((St.start w).arg hyRules).arg hyParents).arg Vb).arg Qz
 have nhxParents := qN Qz
 have nhxRules := qN Vb
 have nhyParents := qN hyParents
 have nhyRules := qN hyRules
 clear Qz Vb hyParents hyRules
 refine qm (qA ?_)
 refine sw (o_box H (.agg #[.int .i64 x.qJ, .slice zI x.qf.length zH, .slice jA x.qg.length jy]) rfl fun b1 w2 H => ?_)
 replace H : St _ _ [.box b1 [.int .i64 x.qJ, .slice zI x.qf.length zH, .slice jA x.qg.length jy] 36] _ := H
 refine sw (o_box H (.agg #[.int .i64 y.qJ, .slice ayParents y.qf.length cyParents, .slice ayRules y.qg.length cyRules]) rfl fun b3 w4 H => ?_)
 replace H : St _ _ [.box b3 [.int .i64 y.qJ, .slice ayParents y.qf.length cyParents, .slice ayRules y.qg.length cyRules] 36, .box b1 [.int .i64 x.qJ, .slice zI x.qf.length zH, .slice jA x.qg.length jy] 36] _ := H
 refine sp (.bool false) ?_
 refine qx (t_n (qm (qm (qA ?_))))
 refine sw (qP b1 (0) 0 Tryz.underlying36 rfl rfl Tryz.sizeOf2 rfl ?_)
 refine sw (qE (.int .i64 x.qJ) Tryz.isAgg2 rfl (H.cell 1 rfl rfl) ?_)
 refine sw (qP b3 (0) 0 Tryz.underlying36 rfl rfl Tryz.sizeOf2 rfl ?_)
 refine sw (qE (.int .i64 y.qJ) Tryz.isAgg2 rfl (H.cell 0 rfl rfl) ?_)
 refine sp (.bool ((x.qJ : Int) != y.qJ)) ?_
 refine qx (t_n ?_)
 refine qW ((x.qJ : Int) != y.qJ) rfl (fun h5 => ?_) (fun h5 => ?_)
 ·skip
  replace h5 := bne_iff_ne.1 h5
  refine qm (qA ?_)
  refine sp (.bool false) ?_
  refine qx (t_n (xC (t_r ?_)))
  refine ret1 (.bool false) rfl rfl ⟨_, rfl, ?_, H.base⟩
  rw [decide_eq_false (fun e => by subst e; simp_all)]
 replace h5 := xR h5
 refine xk (t_n (qm (qm (qA ?_))))
 refine sw (qP b1 (0) 1 Tryz.underlying36 rfl rfl Tryz.sizeOf22 rfl ?_)
 refine sw (qE (.slice zI x.qf.length zH) Tryz.isAgg22 rfl (H.cell 1 rfl rfl) ?_)
 refine sw (qP b3 (0) 1 Tryz.underlying36 rfl rfl Tryz.sizeOf22 rfl ?_)
 refine sw (qE (.slice ayParents y.qf.length cyParents) Tryz.isAgg22 rfl (H.cell 0 rfl rfl) ?_)
 refine sw (qZ #[.slice zI x.qf.length zH, .slice ayParents y.qf.length cyParents] rfl rfl Tryz.call27 (Q4 w4 x.qf y.qf zI zH yu ayParents cyParents FyParents (H.get 0 rfl).1 (H.get 2 rfl).1) ?_)
 rintro _ w6 rfl x7
 replace H := H.ext x7
 refine sp (.bool (!(decide (x.qf = y.qf)))) ?_
 refine qx (t_n ?_)
 refine qW (!(decide (x.qf = y.qf))) rfl (fun h8 => ?_) (fun h8 => ?_)
 ·skip
  replace h8 := xg h8
  replace h8 := of_decide_eq_false h8
  refine qm (qA ?_)
  refine sp (.bool false) ?_
  refine qx (t_n (xC (t_r ?_)))
  refine ret1 (.bool false) rfl rfl ⟨_, rfl, ?_, H.base⟩
  rw [decide_eq_false (fun e => by subst e; simp_all)]
 replace h8 := qY h8
 replace h8 := of_decide_eq_true h8
 refine xk (t_n (qm (qm (qA ?_))))
 refine sw (qP b1 (0) 2 Tryz.underlying36 rfl rfl Tryz.sizeOf34 rfl ?_)
 refine sw (qE (.slice jA x.qg.length jy) Tryz.isAgg34 rfl (H.cell 1 rfl rfl) ?_)
 refine sw (qP b3 (0) 2 Tryz.underlying36 rfl rfl Tryz.sizeOf34 rfl ?_)
 refine sw (qE (.slice ayRules y.qg.length cyRules) Tryz.isAgg34 rfl (H.cell 0 rfl rfl) ?_)
 refine sw (qZ #[.slice jA x.qg.length jy, .slice ayRules y.qg.length cyRules] rfl rfl Tryz.call55 (eqRuleS_ok w6 x.qg y.qg jA jy QV ayRules cyRules FyRules (H.get 1 rfl).1 (H.get 3 rfl).1) ?_)
 rintro _ w9 rfl x10
 replace H := H.ext x10
 refine sp (.bool (!(decide (x.qg = y.qg)))) ?_
 refine qx (t_n ?_)
 refine qW (!(decide (x.qg = y.qg))) rfl (fun h11 => ?_) (fun h11 => ?_)
 ·skip
  replace h11 := xg h11
  replace h11 := of_decide_eq_false h11
  refine qm (qA ?_)
  refine sp (.bool false) ?_
  refine qx (t_n (xC (t_r ?_)))
  refine ret1 (.bool false) rfl rfl ⟨_, rfl, ?_, H.base⟩
  rw [decide_eq_false (fun e => by subst e; simp_all)]
 replace h11 := qY h11
 replace h11 := of_decide_eq_true h11
 refine xk (t_n (qm (qA ?_)))
 refine sp (.bool true) ?_
 refine qx (t_n (xC ?_))
 refine ret1 (.bool true) rfl rfl ⟨_, rfl, ?_, H.base⟩
 rw [decide_eq_true (by cases x; cases y; simp_all)]

theorem eqState_ok (w : World) (x : qU) (y : qU) (vJ : Option Addr) (vI : Nat) (Qs : List Nat) (jM : Option Addr) (jL : Nat) (Xj : List Nat) (zG : Option Addr) (zF : Nat) (yz : List Nat) (ayAlive : Option Addr) (cyAlive : Nat) (FyAlive : List Nat) (ayBags : Option Addr) (cyBags : Nat) (FyBags : List Nat) (ayAround : Option Addr) (cyAround : Nat) (FyAround : List Nat) (Xd : qV.rep w Qs [.slice vJ x.qh.length vI] x.qh) (Vz : qV.rep w Xj [.slice jM x.qp.length jL] x.qp) (Qu : qV.rep w yz [.slice zG x.ql.length zF] x.ql) (hyAlive : qV.rep w FyAlive [.slice ayAlive y.qh.length cyAlive] y.qh) (hyBags : qV.rep w FyBags [.slice ayBags y.qp.length cyBags] y.qp) (hyAround : qV.rep w FyAround [.slice ayAround y.ql.length cyAround] y.ql) : Calls Tryz.prog 16 #[.agg #[.slice vJ x.qh.length vI, .slice jM x.qp.length jL, .slice zG x.ql.length zF], .agg #[.slice ayAlive y.qh.length cyAlive, .slice ayBags y.qp.length cyBags, .slice ayAround y.ql.length cyAround]] w (Ret (fun v w' => v = .bool (decide (x = y))) w) := by
 refine enter (n := 23) Tryz.func16 rfl Tryz.ntmps16 (Nat.le_of_ble_eq_true rfl) ?_
 have H := ((((((St.start w).arg hyAround).arg hyBags).arg hyAlive).arg Qu).arg Vz).arg Xd
 have nhxAlive := qN Xd
 have nhxBags := qN Vz
 have nhxAround := qN Qu
 have nhyAlive := qN hyAlive
 have nhyBags := qN hyBags
 have nhyAround := qN hyAround
 clear Xd Vz Qu hyAlive hyBags hyAround
 refine qm (qA ?_)
 refine sw (o_box H (.agg #[.slice vJ x.qh.length vI, .slice jM x.qp.length jL, .slice zG x.ql.length zF]) rfl fun b1 w2 H => ?_)
 replace H : St _ _ [.box b1 [.slice vJ x.qh.length vI, .slice jM x.qp.length jL, .slice zG x.ql.length zF] 38] _ := H
 refine sw (o_box H (.agg #[.slice ayAlive y.qh.length cyAlive, .slice ayBags y.qp.length cyBags, .slice ayAround y.ql.length cyAround]) rfl fun b3 w4 H => ?_)
 replace H : St _ _ [.box b3 [.slice ayAlive y.qh.length cyAlive, .slice ayBags y.qp.length cyBags, .slice ayAround y.ql.length cyAround] 38, .box b1 [.slice vJ x.qh.length vI, .slice jM x.qp.length jL, .slice zG x.ql.length zF] 38] _ := H
 refine sp (.bool false) ?_
 refine qx (t_n (qm (qm (qA ?_))))
 refine sw (qP b1 (0) 0 Tryz.underlying38 rfl rfl Tryz.sizeOf26 rfl ?_)
 refine sw (qE (.slice vJ x.qh.length vI) Tryz.isAgg26 rfl (H.cell 1 rfl rfl) ?_)
 refine sw (qP b3 (0) 0 Tryz.underlying38 rfl rfl Tryz.sizeOf26 rfl ?_)
 refine sw (qE (.slice ayAlive y.qh.length cyAlive) Tryz.isAgg26 rfl (H.cell 0 rfl rfl) ?_)
 refine sw (qZ #[.slice vJ x.qh.length vI, .slice ayAlive y.qh.length cyAlive] rfl rfl Tryz.call56 (eqBoolS_ok w4 x.qh y.qh vJ vI Qs ayAlive cyAlive FyAlive (H.get 0 rfl).1 (H.get 3 rfl).1) ?_)
 rintro _ w5 rfl x6
 replace H := H.ext x6
 refine sp (.bool (!(decide (x.qh = y.qh)))) ?_
 refine qx (t_n ?_)
 refine qW (!(decide (x.qh = y.qh))) rfl (fun h7 => ?_) (fun h7 => ?_)
 ·skip
  replace h7 := xg h7
  replace h7 := of_decide_eq_false h7
  refine qm (qA ?_)
  refine sp (.bool false) ?_
  refine qx (t_n (xC (t_r ?_)))
  refine ret1 (.bool false) rfl rfl ⟨_, rfl, ?_, H.base⟩
  rw [decide_eq_false (fun e => by subst e; simp_all)]
 replace h7 := qY h7
 replace h7 := of_decide_eq_true h7
 refine xk (t_n (qm (qm (qA ?_))))
 refine sw (qP b1 (0) 1 Tryz.underlying38 rfl rfl Tryz.sizeOf27 rfl ?_)
 refine sw (qE (.slice jM x.qp.length jL) Tryz.isAgg27 rfl (H.cell 1 rfl rfl) ?_)
 refine sw (qP b3 (0) 1 Tryz.underlying38 rfl rfl Tryz.sizeOf27 rfl ?_)
 refine sw (qE (.slice ayBags y.qp.length cyBags) Tryz.isAgg27 rfl (H.cell 0 rfl rfl) ?_)
 refine sw (qZ #[.slice jM x.qp.length jL, .slice ayBags y.qp.length cyBags] rfl rfl Tryz.call14 (eqInt64SS_ok w5 x.qp y.qp jM jL Xj ayBags cyBags FyBags (H.get 1 rfl).1 (H.get 4 rfl).1) ?_)
 rintro _ w8 rfl x9
 replace H := H.ext x9
 refine sp (.bool (!(decide (x.qp = y.qp)))) ?_
 refine qx (t_n ?_)
 refine qW (!(decide (x.qp = y.qp))) rfl (fun h10 => ?_) (fun h10 => ?_)
 ·skip
  replace h10 := xg h10
  replace h10 := of_decide_eq_false h10
  refine qm (qA ?_)
  refine sp (.bool false) ?_
  refine qx (t_n (xC (t_r ?_)))
  refine ret1 (.bool false) rfl rfl ⟨_, rfl, ?_, H.base⟩
  rw [decide_eq_false (fun e => by subst e; simp_all)]
 replace h10 := qY h10
 replace h10 := of_decide_eq_true h10
 refine xk (t_n (qm (qm (qA ?_))))
 refine sw (qP b1 (0) 2 Tryz.underlying38 rfl rfl Tryz.sizeOf22 rfl ?_)
 refine sw (qE (.slice zG x.ql.length zF) Tryz.isAgg22 rfl (H.cell 1 rfl rfl) ?_)
 refine sw (qP b3 (0) 2 Tryz.underlying38 rfl rfl Tryz.sizeOf22 rfl ?_)
 refine sw (qE (.slice ayAround y.ql.length cyAround) Tryz.isAgg22 rfl (H.cell 0 rfl rfl) ?_)
 refine sw (qZ #[.slice zG x.ql.length zF, .slice ayAround y.ql.length cyAround] rfl rfl Tryz.call27 (Q4 w8 x.ql y.ql zG zF yz ayAround cyAround FyAround (H.get 2 rfl).1 (H.get 5 rfl).1) ?_)
 rintro _ w11 rfl x12
 replace H := H.ext x12
 refine sp (.bool (!(decide (x.ql = y.ql)))) ?_
 refine qx (t_n ?_)
 refine qW (!(decide (x.ql = y.ql))) rfl (fun h13 => ?_) (fun h13 => ?_)
 ·skip
  replace h13 := xg h13
  replace h13 := of_decide_eq_false h13
  refine qm (qA ?_)
  refine sp (.bool false) ?_
  refine qx (t_n (xC (t_r ?_)))
  refine ret1 (.bool false) rfl rfl ⟨_, rfl, ?_, H.base⟩
  rw [decide_eq_false (fun e => by subst e; simp_all)]
 replace h13 := qY h13
 replace h13 := of_decide_eq_true h13
 refine xk (t_n (qm (qA ?_)))
 refine sp (.bool true) ?_
 refine qx (t_n (xC ?_))
 refine ret1 (.bool true) rfl rfl ⟨_, rfl, ?_, H.base⟩
 rw [decide_eq_true (by cases x; cases y; simp_all)]

end Go.Proofs.YtkmlihdacnfhdaaGreat
