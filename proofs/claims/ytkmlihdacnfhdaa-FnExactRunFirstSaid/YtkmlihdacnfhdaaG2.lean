/- Walks, printed by program (wip/tools/gv.py): what each function comes to, for all arguments. -/
import Derived.Test.YtkmlihdacnfhdaaG1
namespace Go.Proofs.Ytkmlihdacnfhdaa
open Go.Proofs.Ytkmlihdacnfhdaa.Tot (tot)
open Go.Proofs.Ytkmlihdacnfhdaa.Mark (cnt mrk mkd mkd_mark cnt_mark)
open Go.RowKit
set_option linter.unusedVariables false
set_option linter.unusedSimpArgs false
set_option maxRecDepth 100000
set_option maxHeartbeats 4000000

theorem ti4 : TI Try.prog 4 (.bool false) 1 1 := by unfold TI; kernel_rfl
theorem ti22 : TI Try.prog 22 (.slice none 0 0) 1 24 := by unfold TI; kernel_rfl
theorem ti30 : TI Try.prog 30 (.agg #[.int .i64 0, .slice none 0 0, .slice none 0 0]) 3 56 := by unfold TI; kernel_rfl
theorem ti41 : TI Try.prog 41 (.agg #[.slice none 0 0, .slice none 0 0, .slice none 0 0]) 3 72 := by unfold TI; kernel_rfl
theorem ti87 : TI Try.prog 87 (.agg #[.int .i64 0, .int .i64 0, .slice none 0 0, .slice none 0 0, .slice none 0 0, .slice none 0 0, .slice none 0 0, .slice none 0 0, .bool false]) 9 168 := by unfold TI; kernel_rfl
theorem ti92 : TI Try.prog 92 (.agg #[.int .i64 0, .int .i64 0, .slice none 0 0, .slice none 0 0, .slice none 0 0, .slice none 0 0, .slice none 0 0, .slice none 0 0, .bool false]) 9 168 := by unfold TI; kernel_rfl
theorem ti108 : TI Try.prog 108 (.agg #[.int .i64 0, .slice none 0 0]) 2 32 := by unfold TI; kernel_rfl
theorem ti129 : TI Try.prog 129 (.agg #[.int .i64 0, .slice none 0 0]) 2 32 := by unfold TI; kernel_rfl


theorem Xr (w : World) (x : List Int) (left : Int) (ax : Option Addr) (cx : Nat) (Fx : List Nat) (hx : qW.rep w Fx [.slice ax x.length cx] x) (p0 : 0 ≤ left ∧ left ≤ 2000000) : Calls Try.prog 23 #[.slice ax x.length cx, .int .i64 left] w (Ret (fun v w' => v = .int .i64 (szR (tot x) left)) w) := by
 refine enter (n := 12) Try.func23 rfl Try.ntmps23 (Nat.le_of_ble_eq_true rfl) ?_
 have H := (St.start w).arg hx
 have nhx := qN hx
 clear hx
 refine qo (qB ?_)
 refine sp (.int .i64 0) ?_
 refine qA (t_n (qo (qB ?_)))
 refine sps [.int .i64 left, .slice ax x.length cx] ?_
 refine sw (vI Try.underlying22 ax x.length cx rfl ?_)
 refine sw (o_sub left x.length rfl rfl (by omega) ?_)
 refine sp (.int .i64 (left - x.length)) ?_
 refine qA (t_n (qo (qo (qB ?_))))
 refine sps [.int .i64 (left - x.length), .bool (decide ((left - x.length : Int) < 0))] ?_
 refine qA (t_n ?_)
 refine qX (decide ((left - x.length : Int) < 0)) rfl (fun h1 => ?_) (fun h1 => ?_)
 ·skip
  replace h1 := of_decide_eq_true h1
  refine qo (qB ?_)
  refine sp (.int .i64 (-1)) ?_
  refine qA (t_n (xE (t_r ?_)))
  refine ret1 (.int .i64 (-1)) rfl rfl ⟨_, rfl, ?_, H.base⟩
  refine congrArg (Value.int .i64) ?_
  have := zG (tot x) left
  rw [tot_ints] at *
  try omega
 replace h1 := of_decide_eq_false h1
 refine xy (t_n (qo (qB ?_)))
 refine sps [.int .i64 (left - x.length), .int .i64 (left - x.length)] ?_
 refine qA (t_n (xE ?_))
 refine ret1 (.int .i64 (left - x.length)) rfl rfl ⟨_, rfl, ?_, H.base⟩
 refine congrArg (Value.int .i64) ?_
 have := zG (tot x) left
 rw [tot_ints] at *
 try omega

theorem szBoolS_ok (w : World) (x : List Bool) (left : Int) (ax : Option Addr) (cx : Nat) (Fx : List Nat) (hx : qW.rep w Fx [.slice ax x.length cx] x) (p0 : 0 ≤ left ∧ left ≤ 2000000) : Calls Try.prog 33 #[.slice ax x.length cx, .int .i64 left] w (Ret (fun v w' => v = .int .i64 (szR (tot x) left)) w) := by
 refine enter (n := 12) Try.func33 rfl Try.ntmps33 (Nat.le_of_ble_eq_true rfl) ?_
 have H := (St.start w).arg hx
 have nhx := qN hx
 clear hx
 refine qo (qB ?_)
 refine sp (.int .i64 0) ?_
 refine qA (t_n (qo (qB ?_)))
 refine sps [.int .i64 left, .slice ax x.length cx] ?_
 refine sw (vI Try.underlying36 ax x.length cx rfl ?_)
 refine sw (o_sub left x.length rfl rfl (by omega) ?_)
 refine sp (.int .i64 (left - x.length)) ?_
 refine qA (t_n (qo (qo (qB ?_))))
 refine sps [.int .i64 (left - x.length), .bool (decide ((left - x.length : Int) < 0))] ?_
 refine qA (t_n ?_)
 refine qX (decide ((left - x.length : Int) < 0)) rfl (fun h1 => ?_) (fun h1 => ?_)
 ·skip
  replace h1 := of_decide_eq_true h1
  refine qo (qB ?_)
  refine sp (.int .i64 (-1)) ?_
  refine qA (t_n (xE (t_r ?_)))
  refine ret1 (.int .i64 (-1)) rfl rfl ⟨_, rfl, ?_, H.base⟩
  refine congrArg (Value.int .i64) ?_
  have := zG (tot x) left
  rw [tot_bools] at *
  try omega
 replace h1 := of_decide_eq_false h1
 refine xy (t_n (qo (qB ?_)))
 refine sps [.int .i64 (left - x.length), .int .i64 (left - x.length)] ?_
 refine qA (t_n (xE ?_))
 refine ret1 (.int .i64 (left - x.length)) rfl rfl ⟨_, rfl, ?_, H.base⟩
 refine congrArg (Value.int .i64) ?_
 have := zG (tot x) left
 rw [tot_bools] at *
 try omega

theorem szInt64SS_ok (w : World) (x : List (List Int)) (left : Int) (ax : Option Addr) (cx : Nat) (Fx : List Nat) (hx : qW.rep w Fx [.slice ax x.length cx] x) (p0 : 0 ≤ left ∧ left ≤ 2000000) : Calls Try.prog 34 #[.slice ax x.length cx, .int .i64 left] w (Ret (fun v w' => v = .int .i64 (szR (tot x) left)) w) := by
 refine enter (n := 27) Try.func34 rfl Try.ntmps34 (Nat.le_of_ble_eq_true rfl) ?_
 have H := (St.start w).arg hx
 have nhx := qN hx
 clear hx
 refine qo (qB ?_)
 refine sp (.int .i64 0) ?_
 refine qA (t_n (qo (qB ?_)))
 refine sps [.int .i64 left, .slice ax x.length cx] ?_
 refine sw (vI Try.underlying37 ax x.length cx rfl ?_)
 refine sw (o_sub left x.length rfl rfl (by omega) ?_)
 refine sp (.int .i64 (left - x.length)) ?_
 refine qA (t_n (qo (qo (qB ?_))))
 refine sps [.int .i64 (left - x.length), .bool (decide ((left - x.length : Int) < 0))] ?_
 refine qA (t_n ?_)
 refine qX (decide ((left - x.length : Int) < 0)) rfl (fun h1 => ?_) (fun h1 => ?_)
 ·skip
  replace h1 := of_decide_eq_true h1
  refine qo (qB ?_)
  refine sp (.int .i64 (-1)) ?_
  refine qA (t_n (xE (t_r ?_)))
  refine ret1 (.int .i64 (-1)) rfl rfl ⟨_, rfl, ?_, H.base⟩
  refine congrArg (Value.int .i64) ?_
  have := zG (tot x) left
  have := len_tot x
  omega
 replace h1 := of_decide_eq_false h1
 refine xy (t_n (qo (qo (qB ?_))))
 refine sp (.int .i64 0) ?_
 refine qA (t_n (xC ?_))
 refine vw (fun m' ρ w2 => ∃ (junk : Env) (k : Nat) (r : Int), ρ = upd (upd (upd junk 0 (.slice ax x.length cx)) 1 (.int .i64 r)) 5 (.int .i64 k) ∧ (k ≤ x.length) ∧ (r = left - (x.length : Int) - (totTo x k : Nat)) ∧ (0 ≤ r) ∧ m' = x.length - k ∧ St w w2 [] [isF false Fx (.slice ax x.length cx) x]) (x.length - 0) ⟨_, 0, left - (x.length : Int), (by exact qj (qj (qj (rfl) rfl) rfl) rfl), (by omega), (by rw [totTo_zero]; omega), (by omega), rfl, H⟩ ?_
 clear H
 rintro m' ρ w3 ⟨junk, k, r, rfl, i0, i1, i2, rfl, H⟩
 refine qo (qo (qB ?_))
 refine sps [.int .i64 k, .slice ax x.length cx] ?_
 refine sw (vI Try.underlying37 ax x.length cx rfl ?_)
 refine sp (.bool (decide ((k : Int) < x.length))) ?_
 refine qA (t_n ?_)
 refine qX (decide ((k : Int) < x.length)) rfl (fun h4 => ?_) (fun h4 => ?_)
 ·skip
  replace h4 := of_decide_eq_true h4
  refine xy (t_n (qo (xC (qo (qB ?_)))))
  refine sps [.slice ax x.length cx, .int .i64 k] ?_
  obtain ⟨b5, o6, rfl⟩ := H.addr 0 rfl (by omega)
  obtain ⟨ae7, ce7, Fe7, H⟩ := H.yY 0 rfl k k (by omega) (by omega) (by omega)
  refine sw (xO k Try.underlying37 ti22 rfl rfl (by omega) (by omega) ?_)
  refine sw (qF (.slice ae7 ((x[k]!).length) ce7) Try.isAgg22 rfl (H.zh 1 rfl 0 rfl) ?_)
  refine sp (.int .i64 r) ?_
  refine sw (xf #[.slice ae7 ((x[k]!).length) ce7, .int .i64 r] rfl rfl Try.call23 (Xr w3 (x[k]!) r ae7 ce7 Fe7 (H.get 0 rfl).1 (by omega)) ?_)
  rintro _ w8 rfl x9
  replace H := H.ext x9
  have := zG (tot (x[k]!)) r
  refine sp (.int .i64 (szR (tot (x[k]!)) r)) ?_
  refine qA (t_n (qo (qB ?_)))
  refine sps [.int .i64 (szR (tot (x[k]!)) r), .bool (decide ((szR (tot (x[k]!)) r : Int) < 0))] ?_
  refine qA (t_n ?_)
  refine qX (decide ((szR (tot (x[k]!)) r : Int) < 0)) rfl (fun h10 => ?_) (fun h10 => ?_)
  ·skip
   replace h10 := of_decide_eq_true h10
   refine qo (qB ?_)
   refine sp (.int .i64 (-1)) ?_
   refine qA (t_n (xE (b_r (t_r (t_r (b_r (t_r ?_)))))))
   refine ret1 (.int .i64 (-1)) rfl rfl ⟨_, rfl, ?_, H.base⟩
   refine congrArg (Value.int .i64) ?_
   have := zG (tot x) left
   have := tot_get (l := x) (k := k) (by omega)
   omega
  replace h10 := of_decide_eq_false h10
  refine xy (b_n (t_n (qB ?_)))
  refine sp (.int .i64 k) ?_
  refine sw (vz k 1 rfl rfl (by omega) ?_)
  refine sp (.int .i64 (k + 1)) ?_
  refine qA ?_
  refine xH (m' := x.length - (k + 1)) (by omega) ⟨_, k + 1, szR (tot (x[k]!)) r, (by exact qj (qj (qj (rfl) rfl) rfl) rfl), ?_, ?_, ?_, rfl, H.sel _ (.refl _) _ (by simp)⟩
  · omega
  · rw [totTo_succ]; omega
  · omega
 replace h4 := of_decide_eq_false h4
 refine ve (t_x (t_x (b_x (t_n (qo (qB ?_))))))
 refine sps [.int .i64 r, .int .i64 r] ?_
 refine qA (t_n (xE ?_))
 refine ret1 (.int .i64 r) rfl rfl ⟨_, rfl, ?_, H.base⟩
 refine congrArg (Value.int .i64) ?_
 obtain rfl : k = x.length := by omega
 have := zG (tot x) left
 rw [tot_list] at *
 omega

theorem szInto_ok (w : World) (x : IntoD) (left : Int) (axBag : Option Addr) (cxBag : Nat) (FxBag : List Nat) (hxBag : qW.rep w FxBag [.slice axBag x.vK.length cxBag] x.vK) (p0 : 0 ≤ left ∧ left ≤ 2000000) : Calls Try.prog 116 #[.agg #[.int .i64 x.qy, .slice axBag x.vK.length cxBag], .int .i64 left] w (Ret (fun v w' => v = .int .i64 (szR (tot x) left)) w) := by
 refine enter (n := 12) Try.func116 rfl Try.ntmps116 (Nat.le_of_ble_eq_true rfl) ?_
 have H := (St.start w).arg hxBag
 have nhxBag := qN hxBag
 clear hxBag
 refine qo (qB ?_)
 refine sw (o_box H (.agg #[.int .i64 x.qy, .slice axBag x.vK.length cxBag]) rfl fun b1 w2 H => ?_)
 replace H : St _ _ [.box b1 [.int .i64 x.qy, .slice axBag x.vK.length cxBag] 129] _ := H
 refine sp (.int .i64 0) ?_
 refine qA (t_n (qo (qB ?_)))
 refine sw (qO b1 (0) 1 Try.underlying129 rfl rfl Try.sizeOf22 rfl ?_)
 refine sw (qF (.slice axBag x.vK.length cxBag) Try.isAgg22 rfl (H.cell 0 rfl rfl) ?_)
 refine sp (.int .i64 left) ?_
 refine sw (xf #[.slice axBag x.vK.length cxBag, .int .i64 left] rfl rfl Try.call23 (Xr w2 x.vK left axBag cxBag FxBag (H.get 0 rfl).1 (by omega)) ?_)
 rintro _ w3 rfl x4
 replace H := H.ext x4
 have := zG (tot x.vK) left
 refine sp (.int .i64 (szR (tot x.vK) left)) ?_
 refine qA (t_n (qo (qo (qB ?_))))
 refine sps [.int .i64 (szR (tot x.vK) left), .bool (decide ((szR (tot x.vK) left : Int) < 0))] ?_
 refine qA (t_n ?_)
 refine qX (decide ((szR (tot x.vK) left : Int) < 0)) rfl (fun h5 => ?_) (fun h5 => ?_)
 ·skip
  replace h5 := of_decide_eq_true h5
  refine qo (qB ?_)
  refine sp (.int .i64 (-1)) ?_
  refine qA (t_n (xE (t_r ?_)))
  refine ret1 (.int .i64 (-1)) rfl rfl ⟨_, rfl, ?_, H.base⟩
  refine congrArg (Value.int .i64) ?_
  have := zG (tot x) left
  rw [tot_IntoD] at *
  try omega
 replace h5 := of_decide_eq_false h5
 refine xy (t_n (qo (qB ?_)))
 refine sps [.int .i64 (szR (tot x.vK) left), .int .i64 (szR (tot x.vK) left)] ?_
 refine qA (t_n (xE ?_))
 refine ret1 (.int .i64 (szR (tot x.vK) left)) rfl rfl ⟨_, rfl, ?_, H.base⟩
 refine congrArg (Value.int .i64) ?_
 have := zG (tot x) left
 rw [tot_IntoD] at *
 try omega

theorem szIntoS_ok (w : World) (x : List IntoD) (left : Int) (ax : Option Addr) (cx : Nat) (Fx : List Nat) (hx : qW.rep w Fx [.slice ax x.length cx] x) (p0 : 0 ≤ left ∧ left ≤ 2000000) : Calls Try.prog 96 #[.slice ax x.length cx, .int .i64 left] w (Ret (fun v w' => v = .int .i64 (szR (tot x) left)) w) := by
 refine enter (n := 27) Try.func96 rfl Try.ntmps96 (Nat.le_of_ble_eq_true rfl) ?_
 have H := (St.start w).arg hx
 have nhx := qN hx
 clear hx
 refine qo (qB ?_)
 refine sp (.int .i64 0) ?_
 refine qA (t_n (qo (qB ?_)))
 refine sps [.int .i64 left, .slice ax x.length cx] ?_
 refine sw (vI Try.underlying85 ax x.length cx rfl ?_)
 refine sw (o_sub left x.length rfl rfl (by omega) ?_)
 refine sp (.int .i64 (left - x.length)) ?_
 refine qA (t_n (qo (qo (qB ?_))))
 refine sps [.int .i64 (left - x.length), .bool (decide ((left - x.length : Int) < 0))] ?_
 refine qA (t_n ?_)
 refine qX (decide ((left - x.length : Int) < 0)) rfl (fun h1 => ?_) (fun h1 => ?_)
 ·skip
  replace h1 := of_decide_eq_true h1
  refine qo (qB ?_)
  refine sp (.int .i64 (-1)) ?_
  refine qA (t_n (xE (t_r ?_)))
  refine ret1 (.int .i64 (-1)) rfl rfl ⟨_, rfl, ?_, H.base⟩
  refine congrArg (Value.int .i64) ?_
  have := zG (tot x) left
  have := len_tot x
  omega
 replace h1 := of_decide_eq_false h1
 refine xy (t_n (qo (qo (qB ?_))))
 refine sp (.int .i64 0) ?_
 refine qA (t_n (xC ?_))
 refine vw (fun m' ρ w2 => ∃ (junk : Env) (k : Nat) (r : Int), ρ = upd (upd (upd junk 0 (.slice ax x.length cx)) 1 (.int .i64 r)) 5 (.int .i64 k) ∧ (k ≤ x.length) ∧ (r = left - (x.length : Int) - (totTo x k : Nat)) ∧ (0 ≤ r) ∧ m' = x.length - k ∧ St w w2 [] [isF false Fx (.slice ax x.length cx) x]) (x.length - 0) ⟨_, 0, left - (x.length : Int), (by exact qj (qj (qj (rfl) rfl) rfl) rfl), (by omega), (by rw [totTo_zero]; omega), (by omega), rfl, H⟩ ?_
 clear H
 rintro m' ρ w3 ⟨junk, k, r, rfl, i0, i1, i2, rfl, H⟩
 refine qo (qo (qB ?_))
 refine sps [.int .i64 k, .slice ax x.length cx] ?_
 refine sw (vI Try.underlying85 ax x.length cx rfl ?_)
 refine sp (.bool (decide ((k : Int) < x.length))) ?_
 refine qA (t_n ?_)
 refine qX (decide ((k : Int) < x.length)) rfl (fun h4 => ?_) (fun h4 => ?_)
 ·skip
  replace h4 := of_decide_eq_true h4
  refine xy (t_n (qo (xC (qo (qB ?_)))))
  refine sps [.slice ax x.length cx, .int .i64 k] ?_
  obtain ⟨b5, o6, rfl⟩ := H.addr 0 rfl (by omega)
  obtain ⟨ae7Bag, ce7Bag, Fe7Bag, H⟩ := H.jQ 0 rfl k k (by omega) (by omega) (by omega)
  refine sw (xO k Try.underlying85 ti129 rfl rfl (by omega) (by omega) ?_)
  refine sw (zu [.int .i64 ((x[k]!).qy), .slice ae7Bag (((x[k]!).vK).length) ce7Bag] Try.isAgg129 Try.sizeOf129 rfl (qH (H.get 1 rfl) 0 2) ?_)
  refine sp (.int .i64 r) ?_
  refine sw (xf #[.agg #[.int .i64 ((x[k]!).qy), .slice ae7Bag (((x[k]!).vK).length) ce7Bag], .int .i64 r] rfl rfl Try.call116 (szInto_ok w3 (x[k]!) r ae7Bag ce7Bag Fe7Bag (H.get 0 rfl).1 (by omega)) ?_)
  rintro _ w8 rfl x9
  replace H := H.ext x9
  have := zG (tot (x[k]!)) r
  refine sp (.int .i64 (szR (tot (x[k]!)) r)) ?_
  refine qA (t_n (qo (qB ?_)))
  refine sps [.int .i64 (szR (tot (x[k]!)) r), .bool (decide ((szR (tot (x[k]!)) r : Int) < 0))] ?_
  refine qA (t_n ?_)
  refine qX (decide ((szR (tot (x[k]!)) r : Int) < 0)) rfl (fun h10 => ?_) (fun h10 => ?_)
  ·skip
   replace h10 := of_decide_eq_true h10
   refine qo (qB ?_)
   refine sp (.int .i64 (-1)) ?_
   refine qA (t_n (xE (b_r (t_r (t_r (b_r (t_r ?_)))))))
   refine ret1 (.int .i64 (-1)) rfl rfl ⟨_, rfl, ?_, H.base⟩
   refine congrArg (Value.int .i64) ?_
   have := zG (tot x) left
   have := tot_get (l := x) (k := k) (by omega)
   omega
  replace h10 := of_decide_eq_false h10
  refine xy (b_n (t_n (qB ?_)))
  refine sp (.int .i64 k) ?_
  refine sw (vz k 1 rfl rfl (by omega) ?_)
  refine sp (.int .i64 (k + 1)) ?_
  refine qA ?_
  refine xH (m' := x.length - (k + 1)) (by omega) ⟨_, k + 1, szR (tot (x[k]!)) r, (by exact qj (qj (qj (rfl) rfl) rfl) rfl), ?_, ?_, ?_, rfl, H.sel _ (.refl _) _ (by simp)⟩
  · omega
  · rw [totTo_succ]; omega
  · omega
 replace h4 := of_decide_eq_false h4
 refine ve (t_x (t_x (b_x (t_n (qo (qB ?_))))))
 refine sps [.int .i64 r, .int .i64 r] ?_
 refine qA (t_n (xE ?_))
 refine ret1 (.int .i64 r) rfl rfl ⟨_, rfl, ?_, H.base⟩
 refine congrArg (Value.int .i64) ?_
 obtain rfl : k = x.length := by omega
 have := zG (tot x) left
 rw [tot_list] at *
 omega

theorem szRule_ok (w : World) (x : QK) (left : Int) (Qk : Option Addr) (Qe : Nat) (FxNeed : List Nat) (Qo : Option Addr) (Qj : Nat) (FxHave : List Nat) (Ql : Option Addr) (Qg : Nat) (FxLack : List Nat) (Qn : Option Addr) (Qi : Nat) (FxHere : List Nat) (XH : Option Addr) (XG : Nat) (FxOut : List Nat) (Qm : Option Addr) (Qh : Nat) (FxInto : List Nat) (hxNeed : qW.rep w FxNeed [.slice Qk x.qR.length Qe] x.qR) (hxHave : qW.rep w FxHave [.slice Qo x.xg.length Qj] x.xg) (hxLack : qW.rep w FxLack [.slice Ql x.xk.length Qg] x.xk) (hxHere : qW.rep w FxHere [.slice Qn x.xw.length Qi] x.xw) (hxOut : qW.rep w FxOut [.slice XH x.zo.length XG] x.zo) (hxInto : qW.rep w FxInto [.slice Qm x.qE.length Qh] x.qE) (p0 : 0 ≤ left ∧ left ≤ 2000000) : Calls Try.prog 64 #[.agg #[.int .i64 x.qy, .int .i64 x.zk, .slice Qk x.qR.length Qe, .slice Qo x.xg.length Qj, .slice Ql x.xk.length Qg, .slice Qn x.xw.length Qi, .slice XH x.zo.length XG, .slice Qm x.qE.length Qh, .bool x.xQ], .int .i64 left] w (Ret (fun v w' => v = .int .i64 (szR (tot x) left)) w) := by
 refine enter (n := 42) Try.func64 rfl Try.ntmps64 (Nat.le_of_ble_eq_true rfl) ?_
 have H := ((((((St.start w).arg hxInto).arg hxOut).arg hxHere).arg hxLack).arg hxHave).arg hxNeed
 have nhxNeed := qN hxNeed
 have nhxHave := qN hxHave
 have nhxLack := qN hxLack
 have nhxHere := qN hxHere
 have nhxOut := qN hxOut
 have nhxInto := qN hxInto
 clear hxNeed hxHave hxLack hxHere hxOut hxInto
 refine qo (qB ?_)
 refine sw (o_box H (.agg #[.int .i64 x.qy, .int .i64 x.zk, .slice Qk x.qR.length Qe, .slice Qo x.xg.length Qj, .slice Ql x.xk.length Qg, .slice Qn x.xw.length Qi, .slice XH x.zo.length XG, .slice Qm x.qE.length Qh, .bool x.xQ]) rfl fun b1 w2 H => ?_)
 replace H : St _ _ [.box b1 [.int .i64 x.qy, .int .i64 x.zk, .slice Qk x.qR.length Qe, .slice Qo x.xg.length Qj, .slice Ql x.xk.length Qg, .slice Qn x.xw.length Qi, .slice XH x.zo.length XG, .slice Qm x.qE.length Qh, .bool x.xQ] 87] _ := H
 refine sp (.int .i64 0) ?_
 refine qA (t_n (qo (qB ?_)))
 refine sw (qO b1 (0) 2 Try.underlying87 rfl rfl Try.sizeOf22 rfl ?_)
 refine sw (qF (.slice Qk x.qR.length Qe) Try.isAgg22 rfl (H.cell 0 rfl rfl) ?_)
 refine sp (.int .i64 left) ?_
 refine sw (xf #[.slice Qk x.qR.length Qe, .int .i64 left] rfl rfl Try.call23 (Xr w2 x.qR left Qk Qe FxNeed (H.get 0 rfl).1 (by omega)) ?_)
 rintro _ w3 rfl x4
 replace H := H.ext x4
 have := zG (tot x.qR) left
 refine sp (.int .i64 (szR (tot x.qR) left)) ?_
 refine qA (t_n (qo (qo (qB ?_))))
 refine sps [.int .i64 (szR (tot x.qR) left), .bool (decide ((szR (tot x.qR) left : Int) < 0))] ?_
 refine qA (t_n ?_)
 refine qX (decide ((szR (tot x.qR) left : Int) < 0)) rfl (fun h5 => ?_) (fun h5 => ?_)
 ·skip
  replace h5 := of_decide_eq_true h5
  refine qo (qB ?_)
  refine sp (.int .i64 (-1)) ?_
  refine qA (t_n (xE (t_r ?_)))
  refine ret1 (.int .i64 (-1)) rfl rfl ⟨_, rfl, ?_, H.base⟩
  refine congrArg (Value.int .i64) ?_
  have := zG (tot x) left
  rw [tot_RuleD] at *
  try omega
 replace h5 := of_decide_eq_false h5
 refine xy (t_n (qo (qB ?_)))
 refine sw (qO b1 (0) 3 Try.underlying87 rfl rfl Try.sizeOf22 rfl ?_)
 refine sw (qF (.slice Qo x.xg.length Qj) Try.isAgg22 rfl (H.cell 0 rfl rfl) ?_)
 refine sp (.int .i64 (szR (tot x.qR) left)) ?_
 refine sw (xf #[.slice Qo x.xg.length Qj, .int .i64 (szR (tot x.qR) left)] rfl rfl Try.call23 (Xr w3 x.xg (szR (tot x.qR) left) Qo Qj FxHave (H.get 1 rfl).1 (by omega)) ?_)
 rintro _ w6 rfl x7
 replace H := H.ext x7
 have := zG (tot x.xg) (szR (tot x.qR) left)
 refine sp (.int .i64 (szR (tot x.xg) (szR (tot x.qR) left))) ?_
 refine qA (t_n (qo (qo (qB ?_))))
 refine sps [.int .i64 (szR (tot x.xg) (szR (tot x.qR) left)), .bool (decide ((szR (tot x.xg) (szR (tot x.qR) left) : Int) < 0))] ?_
 refine qA (t_n ?_)
 refine qX (decide ((szR (tot x.xg) (szR (tot x.qR) left) : Int) < 0)) rfl (fun h8 => ?_) (fun h8 => ?_)
 ·skip
  replace h8 := of_decide_eq_true h8
  refine qo (qB ?_)
  refine sp (.int .i64 (-1)) ?_
  refine qA (t_n (xE (t_r ?_)))
  refine ret1 (.int .i64 (-1)) rfl rfl ⟨_, rfl, ?_, H.base⟩
  refine congrArg (Value.int .i64) ?_
  have := zG (tot x) left
  rw [tot_RuleD] at *
  try omega
 replace h8 := of_decide_eq_false h8
 refine xy (t_n (qo (qB ?_)))
 refine sw (qO b1 (0) 4 Try.underlying87 rfl rfl Try.sizeOf22 rfl ?_)
 refine sw (qF (.slice Ql x.xk.length Qg) Try.isAgg22 rfl (H.cell 0 rfl rfl) ?_)
 refine sp (.int .i64 (szR (tot x.xg) (szR (tot x.qR) left))) ?_
 refine sw (xf #[.slice Ql x.xk.length Qg, .int .i64 (szR (tot x.xg) (szR (tot x.qR) left))] rfl rfl Try.call23 (Xr w6 x.xk (szR (tot x.xg) (szR (tot x.qR) left)) Ql Qg FxLack (H.get 2 rfl).1 (by omega)) ?_)
 rintro _ w9 rfl x10
 replace H := H.ext x10
 have := zG (tot x.xk) (szR (tot x.xg) (szR (tot x.qR) left))
 refine sp (.int .i64 (szR (tot x.xk) (szR (tot x.xg) (szR (tot x.qR) left)))) ?_
 refine qA (t_n (qo (qo (qB ?_))))
 refine sps [.int .i64 (szR (tot x.xk) (szR (tot x.xg) (szR (tot x.qR) left))), .bool (decide ((szR (tot x.xk) (szR (tot x.xg) (szR (tot x.qR) left)) : Int) < 0))] ?_
 refine qA (t_n ?_)
 refine qX (decide ((szR (tot x.xk) (szR (tot x.xg) (szR (tot x.qR) left)) : Int) < 0)) rfl (fun h11 => ?_) (fun h11 => ?_)
 ·skip
  replace h11 := of_decide_eq_true h11
  refine qo (qB ?_)
  refine sp (.int .i64 (-1)) ?_
  refine qA (t_n (xE (t_r ?_)))
  refine ret1 (.int .i64 (-1)) rfl rfl ⟨_, rfl, ?_, H.base⟩
  refine congrArg (Value.int .i64) ?_
  have := zG (tot x) left
  rw [tot_RuleD] at *
  try omega
 replace h11 := of_decide_eq_false h11
 refine xy (t_n (qo (qB ?_)))
 refine sw (qO b1 (0) 5 Try.underlying87 rfl rfl Try.sizeOf22 rfl ?_)
 refine sw (qF (.slice Qn x.xw.length Qi) Try.isAgg22 rfl (H.cell 0 rfl rfl) ?_)
 refine sp (.int .i64 (szR (tot x.xk) (szR (tot x.xg) (szR (tot x.qR) left)))) ?_
 refine sw (xf #[.slice Qn x.xw.length Qi, .int .i64 (szR (tot x.xk) (szR (tot x.xg) (szR (tot x.qR) left)))] rfl rfl Try.call23 (Xr w9 x.xw (szR (tot x.xk) (szR (tot x.xg) (szR (tot x.qR) left))) Qn Qi FxHere (H.get 3 rfl).1 (by omega)) ?_)
 rintro _ w12 rfl x13
 replace H := H.ext x13
 have := zG (tot x.xw) (szR (tot x.xk) (szR (tot x.xg) (szR (tot x.qR) left)))
 refine sp (.int .i64 (szR (tot x.xw) (szR (tot x.xk) (szR (tot x.xg) (szR (tot x.qR) left))))) ?_
 refine qA (t_n (qo (qo (qB ?_))))
 refine sps [.int .i64 (szR (tot x.xw) (szR (tot x.xk) (szR (tot x.xg) (szR (tot x.qR) left)))), .bool (decide ((szR (tot x.xw) (szR (tot x.xk) (szR (tot x.xg) (szR (tot x.qR) left))) : Int) < 0))] ?_
 refine qA (t_n ?_)
 refine qX (decide ((szR (tot x.xw) (szR (tot x.xk) (szR (tot x.xg) (szR (tot x.qR) left))) : Int) < 0)) rfl (fun h14 => ?_) (fun h14 => ?_)
 ·skip
  replace h14 := of_decide_eq_true h14
  refine qo (qB ?_)
  refine sp (.int .i64 (-1)) ?_
  refine qA (t_n (xE (t_r ?_)))
  refine ret1 (.int .i64 (-1)) rfl rfl ⟨_, rfl, ?_, H.base⟩
  refine congrArg (Value.int .i64) ?_
  have := zG (tot x) left
  rw [tot_RuleD] at *
  try omega
 replace h14 := of_decide_eq_false h14
 refine xy (t_n (qo (qB ?_)))
 refine sw (qO b1 (0) 6 Try.underlying87 rfl rfl Try.sizeOf22 rfl ?_)
 refine sw (qF (.slice XH x.zo.length XG) Try.isAgg22 rfl (H.cell 0 rfl rfl) ?_)
 refine sp (.int .i64 (szR (tot x.xw) (szR (tot x.xk) (szR (tot x.xg) (szR (tot x.qR) left))))) ?_
 refine sw (xf #[.slice XH x.zo.length XG, .int .i64 (szR (tot x.xw) (szR (tot x.xk) (szR (tot x.xg) (szR (tot x.qR) left))))] rfl rfl Try.call23 (Xr w12 x.zo (szR (tot x.xw) (szR (tot x.xk) (szR (tot x.xg) (szR (tot x.qR) left)))) XH XG FxOut (H.get 4 rfl).1 (by omega)) ?_)
 rintro _ w15 rfl x16
 replace H := H.ext x16
 have := zG (tot x.zo) (szR (tot x.xw) (szR (tot x.xk) (szR (tot x.xg) (szR (tot x.qR) left))))
 refine sp (.int .i64 (szR (tot x.zo) (szR (tot x.xw) (szR (tot x.xk) (szR (tot x.xg) (szR (tot x.qR) left)))))) ?_
 refine qA (t_n (qo (qo (qB ?_))))
 refine sps [.int .i64 (szR (tot x.zo) (szR (tot x.xw) (szR (tot x.xk) (szR (tot x.xg) (szR (tot x.qR) left))))), .bool (decide ((szR (tot x.zo) (szR (tot x.xw) (szR (tot x.xk) (szR (tot x.xg) (szR (tot x.qR) left)))) : Int) < 0))] ?_
 refine qA (t_n ?_)
 refine qX (decide ((szR (tot x.zo) (szR (tot x.xw) (szR (tot x.xk) (szR (tot x.xg) (szR (tot x.qR) left)))) : Int) < 0)) rfl (fun h17 => ?_) (fun h17 => ?_)
 ·skip
  replace h17 := of_decide_eq_true h17
  refine qo (qB ?_)
  refine sp (.int .i64 (-1)) ?_
  refine qA (t_n (xE (t_r ?_)))
  refine ret1 (.int .i64 (-1)) rfl rfl ⟨_, rfl, ?_, H.base⟩
  refine congrArg (Value.int .i64) ?_
  have := zG (tot x) left
  rw [tot_RuleD] at *
  try omega
 replace h17 := of_decide_eq_false h17
 refine xy (t_n (qo (qB ?_)))
 refine sw (qO b1 (0) 7 Try.underlying87 rfl rfl Try.sizeOf85 rfl ?_)
 refine sw (qF (.slice Qm x.qE.length Qh) Try.isAgg85 rfl (H.cell 0 rfl rfl) ?_)
 refine sp (.int .i64 (szR (tot x.zo) (szR (tot x.xw) (szR (tot x.xk) (szR (tot x.xg) (szR (tot x.qR) left)))))) ?_
 refine sw (xf #[.slice Qm x.qE.length Qh, .int .i64 (szR (tot x.zo) (szR (tot x.xw) (szR (tot x.xk) (szR (tot x.xg) (szR (tot x.qR) left)))))] rfl rfl Try.call96 (szIntoS_ok w15 x.qE (szR (tot x.zo) (szR (tot x.xw) (szR (tot x.xk) (szR (tot x.xg) (szR (tot x.qR) left))))) Qm Qh FxInto (H.get 5 rfl).1 (by omega)) ?_)
 rintro _ w18 rfl x19
 replace H := H.ext x19
 have := zG (tot x.qE) (szR (tot x.zo) (szR (tot x.xw) (szR (tot x.xk) (szR (tot x.xg) (szR (tot x.qR) left)))))
 refine sp (.int .i64 (szR (tot x.qE) (szR (tot x.zo) (szR (tot x.xw) (szR (tot x.xk) (szR (tot x.xg) (szR (tot x.qR) left))))))) ?_
 refine qA (t_n (qo (qo (qB ?_))))
 refine sps [.int .i64 (szR (tot x.qE) (szR (tot x.zo) (szR (tot x.xw) (szR (tot x.xk) (szR (tot x.xg) (szR (tot x.qR) left)))))), .bool (decide ((szR (tot x.qE) (szR (tot x.zo) (szR (tot x.xw) (szR (tot x.xk) (szR (tot x.xg) (szR (tot x.qR) left))))) : Int) < 0))] ?_
 refine qA (t_n ?_)
 refine qX (decide ((szR (tot x.qE) (szR (tot x.zo) (szR (tot x.xw) (szR (tot x.xk) (szR (tot x.xg) (szR (tot x.qR) left))))) : Int) < 0)) rfl (fun h20 => ?_) (fun h20 => ?_)
 ·skip
  replace h20 := of_decide_eq_true h20
  refine qo (qB ?_)
  refine sp (.int .i64 (-1)) ?_
  refine qA (t_n (xE (t_r ?_)))
  refine ret1 (.int .i64 (-1)) rfl rfl ⟨_, rfl, ?_, H.base⟩
  refine congrArg (Value.int .i64) ?_
  have := zG (tot x) left
  rw [tot_RuleD] at *
  try omega
 replace h20 := of_decide_eq_false h20
 refine xy (t_n (qo (qB ?_)))
 refine sps [.int .i64 (szR (tot x.qE) (szR (tot x.zo) (szR (tot x.xw) (szR (tot x.xk) (szR (tot x.xg) (szR (tot x.qR) left)))))), .int .i64 (szR (tot x.qE) (szR (tot x.zo) (szR (tot x.xw) (szR (tot x.xk) (szR (tot x.xg) (szR (tot x.qR) left))))))] ?_
 refine qA (t_n (xE ?_))
 refine ret1 (.int .i64 (szR (tot x.qE) (szR (tot x.zo) (szR (tot x.xw) (szR (tot x.xk) (szR (tot x.xg) (szR (tot x.qR) left))))))) rfl rfl ⟨_, rfl, ?_, H.base⟩
 refine congrArg (Value.int .i64) ?_
 have := zG (tot x) left
 rw [tot_RuleD] at *
 try omega

theorem szRuleS_ok (w : World) (x : List QK) (left : Int) (ax : Option Addr) (cx : Nat) (Fx : List Nat) (hx : qW.rep w Fx [.slice ax x.length cx] x) (p0 : 0 ≤ left ∧ left ≤ 2000000) : Calls Try.prog 24 #[.slice ax x.length cx, .int .i64 left] w (Ret (fun v w' => v = .int .i64 (szR (tot x) left)) w) := by
 refine enter (n := 27) Try.func24 rfl Try.ntmps24 (Nat.le_of_ble_eq_true rfl) ?_
 have H := (St.start w).arg hx
 have nhx := qN hx
 clear hx
 refine qo (qB ?_)
 refine sp (.int .i64 0) ?_
 refine qA (t_n (qo (qB ?_)))
 refine sps [.int .i64 left, .slice ax x.length cx] ?_
 refine sw (vI Try.underlying23 ax x.length cx rfl ?_)
 refine sw (o_sub left x.length rfl rfl (by omega) ?_)
 refine sp (.int .i64 (left - x.length)) ?_
 refine qA (t_n (qo (qo (qB ?_))))
 refine sps [.int .i64 (left - x.length), .bool (decide ((left - x.length : Int) < 0))] ?_
 refine qA (t_n ?_)
 refine qX (decide ((left - x.length : Int) < 0)) rfl (fun h1 => ?_) (fun h1 => ?_)
 ·skip
  replace h1 := of_decide_eq_true h1
  refine qo (qB ?_)
  refine sp (.int .i64 (-1)) ?_
  refine qA (t_n (xE (t_r ?_)))
  refine ret1 (.int .i64 (-1)) rfl rfl ⟨_, rfl, ?_, H.base⟩
  refine congrArg (Value.int .i64) ?_
  have := zG (tot x) left
  have := len_tot x
  omega
 replace h1 := of_decide_eq_false h1
 refine xy (t_n (qo (qo (qB ?_))))
 refine sp (.int .i64 0) ?_
 refine qA (t_n (xC ?_))
 refine vw (fun m' ρ w2 => ∃ (junk : Env) (k : Nat) (r : Int), ρ = upd (upd (upd junk 0 (.slice ax x.length cx)) 1 (.int .i64 r)) 5 (.int .i64 k) ∧ (k ≤ x.length) ∧ (r = left - (x.length : Int) - (totTo x k : Nat)) ∧ (0 ≤ r) ∧ m' = x.length - k ∧ St w w2 [] [isF false Fx (.slice ax x.length cx) x]) (x.length - 0) ⟨_, 0, left - (x.length : Int), (by exact qj (qj (qj (rfl) rfl) rfl) rfl), (by omega), (by rw [totTo_zero]; omega), (by omega), rfl, H⟩ ?_
 clear H
 rintro m' ρ w3 ⟨junk, k, r, rfl, i0, i1, i2, rfl, H⟩
 refine qo (qo (qB ?_))
 refine sps [.int .i64 k, .slice ax x.length cx] ?_
 refine sw (vI Try.underlying23 ax x.length cx rfl ?_)
 refine sp (.bool (decide ((k : Int) < x.length))) ?_
 refine qA (t_n ?_)
 refine qX (decide ((k : Int) < x.length)) rfl (fun h4 => ?_) (fun h4 => ?_)
 ·skip
  replace h4 := of_decide_eq_true h4
  refine xy (t_n (qo (xC (qo (qB ?_)))))
  refine sps [.slice ax x.length cx, .int .i64 k] ?_
  obtain ⟨b5, o6, rfl⟩ := H.addr 0 rfl (by omega)
  obtain ⟨ae7Need, ce7Need, Fe7Need, ae7Have, ce7Have, Fe7Have, ae7Lack, ce7Lack, Fe7Lack, ae7Here, ce7Here, Fe7Here, ae7Out, ce7Out, Fe7Out, ae7Into, ce7Into, Fe7Into, H⟩ := H.yD 0 rfl k k (by omega) (by omega) (by omega)
  refine sw (xO k Try.underlying23 ti87 rfl rfl (by omega) (by omega) ?_)
  refine sw (zu [.int .i64 ((x[k]!).qy), .int .i64 ((x[k]!).zk), .slice ae7Need (((x[k]!).qR).length) ce7Need, .slice ae7Have (((x[k]!).xg).length) ce7Have, .slice ae7Lack (((x[k]!).xk).length) ce7Lack, .slice ae7Here (((x[k]!).xw).length) ce7Here, .slice ae7Out (((x[k]!).zo).length) ce7Out, .slice ae7Into (((x[k]!).qE).length) ce7Into, .bool ((x[k]!).xQ)] Try.isAgg87 Try.sizeOf87 rfl (qH (H.get 6 rfl) 0 9) ?_)
  refine sp (.int .i64 r) ?_
  refine sw (xf #[.agg #[.int .i64 ((x[k]!).qy), .int .i64 ((x[k]!).zk), .slice ae7Need (((x[k]!).qR).length) ce7Need, .slice ae7Have (((x[k]!).xg).length) ce7Have, .slice ae7Lack (((x[k]!).xk).length) ce7Lack, .slice ae7Here (((x[k]!).xw).length) ce7Here, .slice ae7Out (((x[k]!).zo).length) ce7Out, .slice ae7Into (((x[k]!).qE).length) ce7Into, .bool ((x[k]!).xQ)], .int .i64 r] rfl rfl Try.call64 (szRule_ok w3 (x[k]!) r ae7Need ce7Need Fe7Need ae7Have ce7Have Fe7Have ae7Lack ce7Lack Fe7Lack ae7Here ce7Here Fe7Here ae7Out ce7Out Fe7Out ae7Into ce7Into Fe7Into (H.get 0 rfl).1 (H.get 1 rfl).1 (H.get 2 rfl).1 (H.get 3 rfl).1 (H.get 4 rfl).1 (H.get 5 rfl).1 (by omega)) ?_)
  rintro _ w8 rfl x9
  replace H := H.ext x9
  have := zG (tot (x[k]!)) r
  refine sp (.int .i64 (szR (tot (x[k]!)) r)) ?_
  refine qA (t_n (qo (qB ?_)))
  refine sps [.int .i64 (szR (tot (x[k]!)) r), .bool (decide ((szR (tot (x[k]!)) r : Int) < 0))] ?_
  refine qA (t_n ?_)
  refine qX (decide ((szR (tot (x[k]!)) r : Int) < 0)) rfl (fun h10 => ?_) (fun h10 => ?_)
  ·skip
   replace h10 := of_decide_eq_true h10
   refine qo (qB ?_)
   refine sp (.int .i64 (-1)) ?_
   refine qA (t_n (xE (b_r (t_r (t_r (b_r (t_r ?_)))))))
   refine ret1 (.int .i64 (-1)) rfl rfl ⟨_, rfl, ?_, H.base⟩
   refine congrArg (Value.int .i64) ?_
   have := zG (tot x) left
   have := tot_get (l := x) (k := k) (by omega)
   omega
  replace h10 := of_decide_eq_false h10
  refine xy (b_n (t_n (qB ?_)))
  refine sp (.int .i64 k) ?_
  refine sw (vz k 1 rfl rfl (by omega) ?_)
  refine sp (.int .i64 (k + 1)) ?_
  refine qA ?_
  refine xH (m' := x.length - (k + 1)) (by omega) ⟨_, k + 1, szR (tot (x[k]!)) r, (by exact qj (qj (qj (rfl) rfl) rfl) rfl), ?_, ?_, ?_, rfl, H.sel _ (.refl _) _ (by simp)⟩
  · omega
  · rw [totTo_succ]; omega
  · omega
 replace h4 := of_decide_eq_false h4
 refine ve (t_x (t_x (b_x (t_n (qo (qB ?_))))))
 refine sps [.int .i64 r, .int .i64 r] ?_
 refine qA (t_n (xE ?_))
 refine ret1 (.int .i64 r) rfl rfl ⟨_, rfl, ?_, H.base⟩
 refine congrArg (Value.int .i64) ?_
 obtain rfl : k = x.length := by omega
 have := zG (tot x) left
 rw [tot_list] at *
 omega

theorem szSystem_ok (w : World) (x : qV) (left : Int) (zO : Option Addr) (zN : Nat) (yt : List Nat) (jo : Option Addr) (jm : Nat) (Q3 : List Nat) (QA : qW.rep w yt [.slice zO x.qf.length zN] x.qf) (Va : qW.rep w Q3 [.slice jo x.qg.length jm] x.qg) (p0 : 0 ≤ left ∧ left ≤ 2000000) : Calls Try.prog 6 #[.agg #[.int .i64 x.qI, .slice zO x.qf.length zN, .slice jo x.qg.length jm], .int .i64 left] w (Ret (fun v w' => v = .int .i64 (szR (tot x) left)) w) := by
 refine enter (n := 18) Try.func6 rfl Try.ntmps6 (Nat.le_of_ble_eq_true rfl) ?_
 have H := ((St.start w).arg Va).arg QA
 have nhxParents := qN QA
 have nhxRules := qN Va
 clear QA Va
 refine qo (qB ?_)
 refine sw (o_box H (.agg #[.int .i64 x.qI, .slice zO x.qf.length zN, .slice jo x.qg.length jm]) rfl fun b1 w2 H => ?_)
 replace H : St _ _ [.box b1 [.int .i64 x.qI, .slice zO x.qf.length zN, .slice jo x.qg.length jm] 25] _ := H
 refine sp (.int .i64 0) ?_
 refine qA (t_n (qo (qB ?_)))
 refine sw (qO b1 (0) 1 Try.underlying25 rfl rfl Try.sizeOf22 rfl ?_)
 refine sw (qF (.slice zO x.qf.length zN) Try.isAgg22 rfl (H.cell 0 rfl rfl) ?_)
 refine sp (.int .i64 left) ?_
 refine sw (xf #[.slice zO x.qf.length zN, .int .i64 left] rfl rfl Try.call23 (Xr w2 x.qf left zO zN yt (H.get 0 rfl).1 (by omega)) ?_)
 rintro _ w3 rfl x4
 replace H := H.ext x4
 have := zG (tot x.qf) left
 refine sp (.int .i64 (szR (tot x.qf) left)) ?_
 refine qA (t_n (qo (qo (qB ?_))))
 refine sps [.int .i64 (szR (tot x.qf) left), .bool (decide ((szR (tot x.qf) left : Int) < 0))] ?_
 refine qA (t_n ?_)
 refine qX (decide ((szR (tot x.qf) left : Int) < 0)) rfl (fun h5 => ?_) (fun h5 => ?_)
 ·skip
  replace h5 := of_decide_eq_true h5
  refine qo (qB ?_)
  refine sp (.int .i64 (-1)) ?_
  refine qA (t_n (xE (t_r ?_)))
  refine ret1 (.int .i64 (-1)) rfl rfl ⟨_, rfl, ?_, H.base⟩
  refine congrArg (Value.int .i64) ?_
  have := zG (tot x) left
  rw [tot_SystemD] at *
  try omega
 replace h5 := of_decide_eq_false h5
 refine xy (t_n (qo (qB ?_)))
 refine sw (qO b1 (0) 2 Try.underlying25 rfl rfl Try.sizeOf23 rfl ?_)
 refine sw (qF (.slice jo x.qg.length jm) Try.isAgg23 rfl (H.cell 0 rfl rfl) ?_)
 refine sp (.int .i64 (szR (tot x.qf) left)) ?_
 refine sw (xf #[.slice jo x.qg.length jm, .int .i64 (szR (tot x.qf) left)] rfl rfl Try.call24 (szRuleS_ok w3 x.qg (szR (tot x.qf) left) jo jm Q3 (H.get 1 rfl).1 (by omega)) ?_)
 rintro _ w6 rfl x7
 replace H := H.ext x7
 have := zG (tot x.qg) (szR (tot x.qf) left)
 refine sp (.int .i64 (szR (tot x.qg) (szR (tot x.qf) left))) ?_
 refine qA (t_n (qo (qo (qB ?_))))
 refine sps [.int .i64 (szR (tot x.qg) (szR (tot x.qf) left)), .bool (decide ((szR (tot x.qg) (szR (tot x.qf) left) : Int) < 0))] ?_
 refine qA (t_n ?_)
 refine qX (decide ((szR (tot x.qg) (szR (tot x.qf) left) : Int) < 0)) rfl (fun h8 => ?_) (fun h8 => ?_)
 ·skip
  replace h8 := of_decide_eq_true h8
  refine qo (qB ?_)
  refine sp (.int .i64 (-1)) ?_
  refine qA (t_n (xE (t_r ?_)))
  refine ret1 (.int .i64 (-1)) rfl rfl ⟨_, rfl, ?_, H.base⟩
  refine congrArg (Value.int .i64) ?_
  have := zG (tot x) left
  rw [tot_SystemD] at *
  try omega
 replace h8 := of_decide_eq_false h8
 refine xy (t_n (qo (qB ?_)))
 refine sps [.int .i64 (szR (tot x.qg) (szR (tot x.qf) left)), .int .i64 (szR (tot x.qg) (szR (tot x.qf) left))] ?_
 refine qA (t_n (xE ?_))
 refine ret1 (.int .i64 (szR (tot x.qg) (szR (tot x.qf) left))) rfl rfl ⟨_, rfl, ?_, H.base⟩
 refine congrArg (Value.int .i64) ?_
 have := zG (tot x) left
 rw [tot_SystemD] at *
 try omega

theorem szState_ok (w : World) (x : qQ) (left : Int) (vN : Option Addr) (vM : Nat) (Qr : List Nat) (jI : Option Addr) (jH : Nat) (Xo : List Nat) (zM : Option Addr) (zL : Nat) (yw : List Nat) (Xk : qW.rep w Qr [.slice vN x.qh.length vM] x.qh) (Vy : qW.rep w Xo [.slice jI x.qp.length jH] x.qp) (Qs : qW.rep w yw [.slice zM x.ql.length zL] x.ql) (p0 : 0 ≤ left ∧ left ≤ 2000000) : Calls Try.prog 13 #[.agg #[.slice vN x.qh.length vM, .slice jI x.qp.length jH, .slice zM x.ql.length zL], .int .i64 left] w (Ret (fun v w' => v = .int .i64 (szR (tot x) left)) w) := by
 refine enter (n := 24) Try.func13 rfl Try.ntmps13 (Nat.le_of_ble_eq_true rfl) ?_
 have H := (((St.start w).arg Qs).arg Vy).arg Xk
 have nhxAlive := qN Xk
 have nhxBags := qN Vy
 have nhxAround := qN Qs
 clear Xk Vy Qs
 refine qo (qB ?_)
 refine sw (o_box H (.agg #[.slice vN x.qh.length vM, .slice jI x.qp.length jH, .slice zM x.ql.length zL]) rfl fun b1 w2 H => ?_)
 replace H : St _ _ [.box b1 [.slice vN x.qh.length vM, .slice jI x.qp.length jH, .slice zM x.ql.length zL] 39] _ := H
 refine sp (.int .i64 0) ?_
 refine qA (t_n (qo (qB ?_)))
 refine sw (qO b1 (0) 0 Try.underlying39 rfl rfl Try.sizeOf36 rfl ?_)
 refine sw (qF (.slice vN x.qh.length vM) Try.isAgg36 rfl (H.cell 0 rfl rfl) ?_)
 refine sp (.int .i64 left) ?_
 refine sw (xf #[.slice vN x.qh.length vM, .int .i64 left] rfl rfl Try.call33 (szBoolS_ok w2 x.qh left vN vM Qr (H.get 0 rfl).1 (by omega)) ?_)
 rintro _ w3 rfl x4
 replace H := H.ext x4
 have := zG (tot x.qh) left
 refine sp (.int .i64 (szR (tot x.qh) left)) ?_
 refine qA (t_n (qo (qo (qB ?_))))
 refine sps [.int .i64 (szR (tot x.qh) left), .bool (decide ((szR (tot x.qh) left : Int) < 0))] ?_
 refine qA (t_n ?_)
 refine qX (decide ((szR (tot x.qh) left : Int) < 0)) rfl (fun h5 => ?_) (fun h5 => ?_)
 ·skip
  replace h5 := of_decide_eq_true h5
  refine qo (qB ?_)
  refine sp (.int .i64 (-1)) ?_
  refine qA (t_n (xE (t_r ?_)))
  refine ret1 (.int .i64 (-1)) rfl rfl ⟨_, rfl, ?_, H.base⟩
  refine congrArg (Value.int .i64) ?_
  have := zG (tot x) left
  rw [tot_StateD] at *
  try omega
 replace h5 := of_decide_eq_false h5
 refine xy (t_n (qo (qB ?_)))
 refine sw (qO b1 (0) 1 Try.underlying39 rfl rfl Try.sizeOf37 rfl ?_)
 refine sw (qF (.slice jI x.qp.length jH) Try.isAgg37 rfl (H.cell 0 rfl rfl) ?_)
 refine sp (.int .i64 (szR (tot x.qh) left)) ?_
 refine sw (xf #[.slice jI x.qp.length jH, .int .i64 (szR (tot x.qh) left)] rfl rfl Try.call34 (szInt64SS_ok w3 x.qp (szR (tot x.qh) left) jI jH Xo (H.get 1 rfl).1 (by omega)) ?_)
 rintro _ w6 rfl x7
 replace H := H.ext x7
 have := zG (tot x.qp) (szR (tot x.qh) left)
 refine sp (.int .i64 (szR (tot x.qp) (szR (tot x.qh) left))) ?_
 refine qA (t_n (qo (qo (qB ?_))))
 refine sps [.int .i64 (szR (tot x.qp) (szR (tot x.qh) left)), .bool (decide ((szR (tot x.qp) (szR (tot x.qh) left) : Int) < 0))] ?_
 refine qA (t_n ?_)
 refine qX (decide ((szR (tot x.qp) (szR (tot x.qh) left) : Int) < 0)) rfl (fun h8 => ?_) (fun h8 => ?_)
 ·skip
  replace h8 := of_decide_eq_true h8
  refine qo (qB ?_)
  refine sp (.int .i64 (-1)) ?_
  refine qA (t_n (xE (t_r ?_)))
  refine ret1 (.int .i64 (-1)) rfl rfl ⟨_, rfl, ?_, H.base⟩
  refine congrArg (Value.int .i64) ?_
  have := zG (tot x) left
  rw [tot_StateD] at *
  try omega
 replace h8 := of_decide_eq_false h8
 refine xy (t_n (qo (qB ?_)))
 refine sw (qO b1 (0) 2 Try.underlying39 rfl rfl Try.sizeOf22 rfl ?_)
 refine sw (qF (.slice zM x.ql.length zL) Try.isAgg22 rfl (H.cell 0 rfl rfl) ?_)
 refine sp (.int .i64 (szR (tot x.qp) (szR (tot x.qh) left))) ?_
 refine sw (xf #[.slice zM x.ql.length zL, .int .i64 (szR (tot x.qp) (szR (tot x.qh) left))] rfl rfl Try.call23 (Xr w6 x.ql (szR (tot x.qp) (szR (tot x.qh) left)) zM zL yw (H.get 2 rfl).1 (by omega)) ?_)
 rintro _ w9 rfl x10
 replace H := H.ext x10
 have := zG (tot x.ql) (szR (tot x.qp) (szR (tot x.qh) left))
 refine sp (.int .i64 (szR (tot x.ql) (szR (tot x.qp) (szR (tot x.qh) left)))) ?_
 refine qA (t_n (qo (qo (qB ?_))))
 refine sps [.int .i64 (szR (tot x.ql) (szR (tot x.qp) (szR (tot x.qh) left))), .bool (decide ((szR (tot x.ql) (szR (tot x.qp) (szR (tot x.qh) left)) : Int) < 0))] ?_
 refine qA (t_n ?_)
 refine qX (decide ((szR (tot x.ql) (szR (tot x.qp) (szR (tot x.qh) left)) : Int) < 0)) rfl (fun h11 => ?_) (fun h11 => ?_)
 ·skip
  replace h11 := of_decide_eq_true h11
  refine qo (qB ?_)
  refine sp (.int .i64 (-1)) ?_
  refine qA (t_n (xE (t_r ?_)))
  refine ret1 (.int .i64 (-1)) rfl rfl ⟨_, rfl, ?_, H.base⟩
  refine congrArg (Value.int .i64) ?_
  have := zG (tot x) left
  rw [tot_StateD] at *
  try omega
 replace h11 := of_decide_eq_false h11
 refine xy (t_n (qo (qB ?_)))
 refine sps [.int .i64 (szR (tot x.ql) (szR (tot x.qp) (szR (tot x.qh) left))), .int .i64 (szR (tot x.ql) (szR (tot x.qp) (szR (tot x.qh) left)))] ?_
 refine qA (t_n (xE ?_))
 refine ret1 (.int .i64 (szR (tot x.ql) (szR (tot x.qp) (szR (tot x.qh) left)))) rfl rfl ⟨_, rfl, ?_, H.base⟩
 refine congrArg (Value.int .i64) ?_
 have := zG (tot x) left
 rw [tot_StateD] at *
 try omega

theorem Xq (w : World) (x : List Int) (ax : Option Addr) (cx : Nat) (Fx : List Nat) (hx : qW.rep w Fx [.slice ax x.length cx] x) (p0 : tot x ≤ 2000000) : Calls Try.prog 9 #[.slice ax x.length cx] w (Ret (fun v w' => OwnNew w w' 2 v x) w) := by
 refine enter (n := 22) Try.func9 rfl Try.ntmps9 (Nat.le_of_ble_eq_true rfl) ?_
 have H := (St.start w).arg hx
 have nhx := qN hx
 clear hx
 have p1 := len_tot x
 refine qo (qB ?_)
 refine sp (.slice none 0 0) ?_
 refine qA (t_n (qo (qB ?_)))
 refine sp (.slice ax x.length cx) ?_
 refine sw (vI Try.underlying22 ax x.length cx rfl ?_)
 refine sw (o_make1 H Try.underlying22 ti2 rfl x.length rfl rfl (by omega) (by omega) fun b1 w2 H => ?_)
 replace H : St _ _ [.box b1 (List.replicate x.length (.int .i64 0)) 2] _ := H
 refine sp (.slice (aa b1 0) x.length x.length) ?_
 refine qA (t_n (qo (qo (qB ?_))))
 refine sp (.int .i64 0) ?_
 refine qA (t_n (xC ?_))
 refine vw (fun m' ρ w3 => ∃ (junk : Env) (k : Nat), ρ = upd (upd (upd (upd junk 0 (.slice ax x.length cx)) 2 (.slice none 0 0)) 3 (.slice (aa b1 0) x.length x.length)) 4 (.int .i64 k) ∧ (k ≤ x.length) ∧ m' = x.length - k ∧ St w w3 [.box b1 ((x.take k).map (Value.int .i64) ++ List.replicate (x.length - (k)) (.int .i64 0)) 2] [isF false Fx (.slice ax x.length cx) x]) (x.length - 0) ⟨_, 0, (by exact qj (qj (qj (qj (rfl) rfl) rfl) rfl) rfl), (by omega), rfl, H⟩ ?_
 clear H
 rintro m' ρ w4 ⟨junk, k, rfl, i0, rfl, H⟩
 refine qo (qo (qB ?_))
 refine sps [.int .i64 k, .slice ax x.length cx] ?_
 refine sw (vI Try.underlying22 ax x.length cx rfl ?_)
 refine sp (.bool (decide ((k : Int) < x.length))) ?_
 refine qA (t_n ?_)
 refine qX (decide ((k : Int) < x.length)) rfl (fun h5 => ?_) (fun h5 => ?_)
 ·skip
  replace h5 := of_decide_eq_true h5
  refine xy (t_n (qo (xC (qB ?_))))
  refine sps [.slice (aa b1 0) x.length x.length, .int .i64 k, .slice ax x.length cx, .int .i64 k] ?_
  obtain ⟨b6, o7, rfl⟩ := H.addr 0 rfl (by omega)
  refine sw (xO k Try.underlying22 ti2 rfl rfl (by omega) (by omega) ?_)
  refine sw (qF (.int .i64 (x[k]!)) Try.isAgg2 rfl (H.vX 0 rfl k (by omega) (by omega)) ?_)
  refine sw (xO k Try.underlying22 ti2 rfl rfl (by omega) (by omega) ?_)
  refine sw (yS H 0 rfl (.int .i64 (x[k]!)) Try.sizeOf2 rfl rfl rfl (by simp only [List.length_append, List.length_replicate]; have : ((x.take k).map (Value.int .i64)).length = k := (by (simp; omega)); omega) fun w9 H => ?_)
  rw [fill_set (k := k) (by (simp; omega)) (by simp) (by omega)] at H
  replace H : St _ _ [.box b1 ((x.take k).map (Value.int .i64) ++ [.int .i64 (x[k]!)] ++ List.replicate (x.length - (k + 1)) (.int .i64 0)) 2] _ := H
  refine qA (b_n (t_n (qB ?_)))
  refine sp (.int .i64 k) ?_
  refine sw (vz k 1 rfl rfl (by omega) ?_)
  refine sp (.int .i64 (k + 1)) ?_
  refine qA ?_
  rw [show (x.take k).map (Value.int .i64) ++ [.int .i64 (x[k]!)] = (x.take (k + 1)).map (Value.int .i64) from by exact map_take_snoc _ (by omega)] at H
  refine xH (m' := x.length - (k + 1)) (by omega) ⟨_, k + 1, (by exact qj (qj (qj (qj (rfl) rfl) rfl) rfl) rfl), ?_, rfl, H⟩
  · omega
 replace h5 := of_decide_eq_false h5
 refine ve (t_x (t_x (b_x (t_n (qo (qB ?_))))))
 refine sps [.slice (aa b1 0) x.length x.length, .slice (aa b1 0) x.length x.length] ?_
 refine qA (t_n (xE ?_))
 refine ret1 (.slice (aa b1 0) x.length x.length) rfl rfl ⟨_, rfl, ?_, H.base⟩
 rw [List.take_of_length_le (by omega : x.length ≤ k)] at H
 rw [fill_end1 (by omega)] at H
 replace H := H.boxRow 0 rfl 1 x.length (by (first | omega | (simp; done) | (simp; omega))) (by unfold maxLen; omega)
 exact H.newInts 0 rfl (by omega)

theorem toBoolS_ok (w : World) (x : List Bool) (ax : Option Addr) (cx : Nat) (Fx : List Nat) (hx : qW.rep w Fx [.slice ax x.length cx] x) (p0 : tot x ≤ 2000000) : Calls Try.prog 39 #[.slice ax x.length cx] w (Ret (fun v w' => OwnNew w w' 4 v x) w) := by
 refine enter (n := 22) Try.func39 rfl Try.ntmps39 (Nat.le_of_ble_eq_true rfl) ?_
 have H := (St.start w).arg hx
 have nhx := qN hx
 clear hx
 have p1 := len_tot x
 refine qo (qB ?_)
 refine sp (.slice none 0 0) ?_
 refine qA (t_n (qo (qB ?_)))
 refine sp (.slice ax x.length cx) ?_
 refine sw (vI Try.underlying36 ax x.length cx rfl ?_)
 refine sw (o_make1 H Try.underlying36 ti4 rfl x.length rfl rfl (by omega) (by omega) fun b1 w2 H => ?_)
 replace H : St _ _ [.box b1 (List.replicate x.length (.bool false)) 4] _ := H
 refine sp (.slice (aa b1 0) x.length x.length) ?_
 refine qA (t_n (qo (qo (qB ?_))))
 refine sp (.int .i64 0) ?_
 refine qA (t_n (xC ?_))
 refine vw (fun m' ρ w3 => ∃ (junk : Env) (k : Nat), ρ = upd (upd (upd (upd junk 0 (.slice ax x.length cx)) 2 (.slice none 0 0)) 3 (.slice (aa b1 0) x.length x.length)) 4 (.int .i64 k) ∧ (k ≤ x.length) ∧ m' = x.length - k ∧ St w w3 [.box b1 ((x.take k).map (Value.bool) ++ List.replicate (x.length - (k)) (.bool false)) 4] [isF false Fx (.slice ax x.length cx) x]) (x.length - 0) ⟨_, 0, (by exact qj (qj (qj (qj (rfl) rfl) rfl) rfl) rfl), (by omega), rfl, H⟩ ?_
 clear H
 rintro m' ρ w4 ⟨junk, k, rfl, i0, rfl, H⟩
 refine qo (qo (qB ?_))
 refine sps [.int .i64 k, .slice ax x.length cx] ?_
 refine sw (vI Try.underlying36 ax x.length cx rfl ?_)
 refine sp (.bool (decide ((k : Int) < x.length))) ?_
 refine qA (t_n ?_)
 refine qX (decide ((k : Int) < x.length)) rfl (fun h5 => ?_) (fun h5 => ?_)
 ·skip
  replace h5 := of_decide_eq_true h5
  refine xy (t_n (qo (xC (qB ?_))))
  refine sps [.slice (aa b1 0) x.length x.length, .int .i64 k, .slice ax x.length cx, .int .i64 k] ?_
  obtain ⟨b6, o7, rfl⟩ := H.addr 0 rfl (by omega)
  refine sw (xO k Try.underlying36 ti4 rfl rfl (by omega) (by omega) ?_)
  refine sw (qF (.bool (x[k]!)) Try.isAgg4 rfl (H.Xd 0 rfl k (by omega) (by omega)) ?_)
  refine sw (xO k Try.underlying36 ti4 rfl rfl (by omega) (by omega) ?_)
  refine sw (yS H 0 rfl (.bool (x[k]!)) Try.sizeOf4 rfl rfl rfl (by simp only [List.length_append, List.length_replicate]; have : ((x.take k).map (Value.bool)).length = k := (by (simp; omega)); omega) fun w9 H => ?_)
  rw [fill_set (k := k) (by (simp; omega)) (by simp) (by omega)] at H
  replace H : St _ _ [.box b1 ((x.take k).map (Value.bool) ++ [.bool (x[k]!)] ++ List.replicate (x.length - (k + 1)) (.bool false)) 4] _ := H
  refine qA (b_n (t_n (qB ?_)))
  refine sp (.int .i64 k) ?_
  refine sw (vz k 1 rfl rfl (by omega) ?_)
  refine sp (.int .i64 (k + 1)) ?_
  refine qA ?_
  rw [show (x.take k).map (Value.bool) ++ [.bool (x[k]!)] = (x.take (k + 1)).map (Value.bool) from by exact map_take_snoc _ (by omega)] at H
  refine xH (m' := x.length - (k + 1)) (by omega) ⟨_, k + 1, (by exact qj (qj (qj (qj (rfl) rfl) rfl) rfl) rfl), ?_, rfl, H⟩
  · omega
 replace h5 := of_decide_eq_false h5
 refine ve (t_x (t_x (b_x (t_n (qo (qB ?_))))))
 refine sps [.slice (aa b1 0) x.length x.length, .slice (aa b1 0) x.length x.length] ?_
 refine qA (t_n (xE ?_))
 refine ret1 (.slice (aa b1 0) x.length x.length) rfl rfl ⟨_, rfl, ?_, H.base⟩
 rw [List.take_of_length_le (by omega : x.length ≤ k)] at H
 rw [fill_end1 (by omega)] at H
 replace H := H.boxRow 0 rfl 1 x.length (by (first | omega | (simp; done) | (simp; omega))) (by unfold maxLen; omega)
 exact H.newBools 0 rfl (by omega)

theorem toInt64SS_ok (w : World) (x : List (List Int)) (ax : Option Addr) (cx : Nat) (Fx : List Nat) (hx : qW.rep w Fx [.slice ax x.length cx] x) (p0 : tot x ≤ 2000000) : Calls Try.prog 40 #[.slice ax x.length cx] w (Ret (fun v w' => OwnNew w w' 22 v x) w) := by
 refine enter (n := 23) Try.func40 rfl Try.ntmps40 (Nat.le_of_ble_eq_true rfl) ?_
 have H := (St.start w).arg hx
 have nhx := qN hx
 clear hx
 have p1 := len_tot x
 refine qo (qB ?_)
 refine sp (.slice none 0 0) ?_
 refine qA (t_n (qo (qB ?_)))
 refine sp (.slice ax x.length cx) ?_
 refine sw (vI Try.underlying37 ax x.length cx rfl ?_)
 refine sw (o_make1 H Try.underlying37 ti22 rfl x.length rfl rfl (by omega) (by omega) fun b1 w2 H => ?_)
 replace H : St _ _ [.box b1 (List.replicate x.length (.slice none 0 0)) 22] _ := H
 refine sp (.slice (aa b1 0) x.length x.length) ?_
 refine qA (t_n (qo (qo (qB ?_))))
 refine sp (.int .i64 0) ?_
 refine qA (t_n (xC ?_))
 replace H := H.Xh (α := List Int)
 refine vw (fun m' ρ w3 => ∃ (junk : Env) (k : Nat) (xs3 : List Value) (Fr3 : List Nat), ρ = upd (upd (upd (upd junk 0 (.slice ax x.length cx)) 2 (.slice none 0 0)) 3 (.slice (aa b1 0) x.length x.length)) 4 (.int .i64 k) ∧ (k ≤ x.length) ∧ (xs3.length = k * 1) ∧ (∀ b ∈ Fr3, w.heap.size ≤ b) ∧ (Fr3.Nodup) ∧ m' = x.length - k ∧ St w w3 [.box b1 (xs3 ++ List.replicate (x.length - (k)) (.slice none 0 0)) 22] [jl true Fr3 xs3 (x.take k), isF false Fx (.slice ax x.length cx) x]) (x.length - 0) ⟨_, 0, [], [], (by exact qj (qj (qj (qj (rfl) rfl) rfl) rfl) rfl), (by omega), (by rfl), (by simp), (by simp), rfl, H⟩ ?_
 clear H
 rintro m' ρ w4 ⟨junk, k, xs3, Fr3, rfl, i0, hl3, nf3, nd3, rfl, H⟩
 have p2 := fun h => tot_get (l := x) (k := k) h
 refine qo (qo (qB ?_))
 refine sps [.int .i64 k, .slice ax x.length cx] ?_
 refine sw (vI Try.underlying37 ax x.length cx rfl ?_)
 refine sp (.bool (decide ((k : Int) < x.length))) ?_
 refine qA (t_n ?_)
 refine qX (decide ((k : Int) < x.length)) rfl (fun h5 => ?_) (fun h5 => ?_)
 ·skip
  replace h5 := of_decide_eq_true h5
  refine xy (t_n (qo (xC (qB ?_))))
  refine sps [.slice (aa b1 0) x.length x.length, .int .i64 k, .slice ax x.length cx, .int .i64 k] ?_
  obtain ⟨b6, o7, rfl⟩ := H.addr 1 rfl (by omega)
  obtain ⟨ae8, ce8, Fe8, H⟩ := H.yY 1 rfl k k (by omega) (by omega) (by omega)
  refine sw (xO k Try.underlying37 ti22 rfl rfl (by omega) (by omega) ?_)
  refine sw (qF (.slice ae8 ((x[k]!).length) ce8) Try.isAgg22 rfl (H.zh 1 rfl 0 rfl) ?_)
  have szx10 := H.base.size
  have lt11 := H.repsLt 2 rfl
  refine sw (xf #[.slice ae8 ((x[k]!).length) ce8] rfl rfl Try.call9 (Xq w4 (x[k]!) ae8 ce8 Fe8 (H.get 0 rfl).1 (by first | omega | (have := p2 (by omega); omega))) ?_)
  rintro v12 w9 r12 x10
  obtain ⟨a12, c12, F12, rfl, f12, H⟩ := H.add_is x10 r12.isNew
  have d12 := f12.2
  have q12 := f12.1
  replace f12 : ∀ b ∈ F12, w.heap.size ≤ b := fun b hb => Nat.le_trans szx10 (f12.1 b hb)
  refine sw (xO k Try.underlying37 ti22 rfl rfl (by omega) (by omega) ?_)
  refine sw (yS H 0 rfl (.slice a12 ((x[k]!).length) c12) Try.sizeOf22 rfl rfl rfl (by simp only [List.length_append, List.length_replicate]; have : (xs3).length = k := (by (omega)); omega) fun w14 H => ?_)
  rw [fill_set (k := k) (by (omega)) (by simp) (by omega)] at H
  replace H : St _ _ [.box b1 (xs3 ++ [.slice a12 ((x[k]!).length) c12] ++ List.replicate (x.length - (k + 1)) (.slice none 0 0)) 22] _ := H
  refine qA (b_n (t_n (qB ?_)))
  refine sp (.int .i64 k) ?_
  refine sw (vz k 1 rfl rfl (by omega) ?_)
  refine sp (.int .i64 (k + 1)) ?_
  refine qA ?_
  replace H := H.Vl 3 rfl 0 rfl
  rw [show (x.take k) ++ [(x[k]!)] = x.take (k + 1) from by exact take_snoc (by omega)] at H
  refine xH (m' := x.length - (k + 1)) (by omega) ⟨_, k + 1, (xs3 ++ [.slice a12 ((x[k]!).length) c12]), (Fr3 ++ F12), (by exact qj (qj (qj (qj (rfl) rfl) rfl) rfl) rfl), ?_, ?_, ?_, ?_, rfl, H.sel _ (.refl _) _ (by simp)⟩
  · omega
  · first | (simp only [List.length_append, List.length_cons, List.length_nil]; omega) | (simp [hl3]; done) | (simp; omega)
  · exact Xl nf3 f12
  · exact Xj nd3 d12 lt11 q12
 replace h5 := of_decide_eq_false h5
 refine ve (t_x (t_x (b_x (t_n (qo (qB ?_))))))
 refine sps [.slice (aa b1 0) x.length x.length, .slice (aa b1 0) x.length x.length] ?_
 refine qA (t_n (xE ?_))
 refine ret1 (.slice (aa b1 0) x.length x.length) rfl rfl ⟨_, rfl, ?_, H.base⟩
 rw [List.take_of_length_le (by omega : x.length ≤ k)] at H
 rw [fill_end1 (by omega)] at H
 replace H := H.boxRow 0 rfl 1 x.length (by omega) (by unfold maxLen; omega)
 exact H.newRow 0 rfl 0 rfl (by omega) (by assumption) (by assumption)

theorem toInto_ok (w : World) (x : IntoD) (axBag : Option Addr) (cxBag : Nat) (FxBag : List Nat) (hxBag : qW.rep w FxBag [.slice axBag x.vK.length cxBag] x.vK) (p0 : tot x ≤ 2000000) : Calls Try.prog 118 #[.agg #[.int .i64 x.qy, .slice axBag x.vK.length cxBag]] w (Ret (fun v w' => New_IntoD w w' v x) w) := by
 refine enter (n := 12) Try.func118 rfl Try.ntmps118 (Nat.le_of_ble_eq_true rfl) ?_
 have H := (St.start w).arg hxBag
 have nhxBag := qN hxBag
 clear hxBag
 have p1 := tot_IntoD x
 refine qo (qB ?_)
 refine sw (o_box H (.agg #[.int .i64 x.qy, .slice axBag x.vK.length cxBag]) rfl fun b1 w2 H => ?_)
 replace H : St _ _ [.box b1 [.int .i64 x.qy, .slice axBag x.vK.length cxBag] 129] _ := H
 refine sw (o_alloc H ti108 fun b3 w4 H => ?_)
 replace H : St _ _ [.box b3 [.int .i64 0, .slice none 0 0] 108, .box b1 [.int .i64 x.qy, .slice axBag x.vK.length cxBag] 129] _ := H
 refine qA (t_n (qo (qB ?_)))
 refine sw (o_alloc H ti108 fun b5 w6 H => ?_)
 replace H : St _ _ [.box b5 [.int .i64 0, .slice none 0 0] 108, .box b3 [.int .i64 0, .slice none 0 0] 108, .box b1 [.int .i64 x.qy, .slice axBag x.vK.length cxBag] 129] _ := H
 refine qA (t_n (qo (qB ?_)))
 refine sw (qO b1 (0) 0 Try.underlying129 rfl rfl Try.sizeOf2 rfl ?_)
 refine sw (qF (.int .i64 x.qy) Try.isAgg2 rfl (H.cell 2 rfl rfl) ?_)
 refine sw (qO b5 (0) 0 Try.underlying108 rfl rfl Try.sizeOf2 rfl ?_)
 refine sw (yS H 0 rfl (.int .i64 x.qy) Try.sizeOf2 rfl rfl rfl (Nat.le_of_ble_eq_true rfl) fun w7 H => ?_)
 replace H : St _ _ [.box b5 [.int .i64 x.qy, .slice none 0 0] 108, .box b3 [.int .i64 0, .slice none 0 0] 108, .box b1 [.int .i64 x.qy, .slice axBag x.vK.length cxBag] 129] _ := H
 refine qA (t_n (qo (qB ?_)))
 refine sw (qO b1 (0) 1 Try.underlying129 rfl rfl Try.sizeOf22 rfl ?_)
 refine sw (qF (.slice axBag x.vK.length cxBag) Try.isAgg22 rfl (H.cell 2 rfl rfl) ?_)
 have szx9 := H.base.size
 refine sw (xf #[.slice axBag x.vK.length cxBag] rfl rfl Try.call9 (Xq w7 x.vK axBag cxBag FxBag (H.get 0 rfl).1 (by first | omega | (have := p2 (by omega); omega))) ?_)
 rintro v10 w8 r10 x9
 obtain ⟨a10, c10, F10, rfl, f10, H⟩ := H.add_is x9 r10.isNew
 have d10 := f10.2
 have q10 := f10.1
 replace f10 : ∀ b ∈ F10, w.heap.size ≤ b := fun b hb => Nat.le_trans szx9 (f10.1 b hb)
 refine sw (qO b5 (0) 1 Try.underlying108 rfl rfl Try.sizeOf22 rfl ?_)
 refine sw (yS H 0 rfl (.slice a10 x.vK.length c10) Try.sizeOf22 rfl rfl rfl (Nat.le_of_ble_eq_true rfl) fun w11 H => ?_)
 replace H : St _ _ [.box b5 [.int .i64 x.qy, .slice a10 x.vK.length c10] 108, .box b3 [.int .i64 0, .slice none 0 0] 108, .box b1 [.int .i64 x.qy, .slice axBag x.vK.length cxBag] 129] _ := H
 refine qA (t_n (qo (qB ?_)))
 refine sw (zu [.int .i64 x.qy, .slice a10 x.vK.length c10] Try.isAgg108 Try.sizeOf108 rfl (qH (H.cells 0 rfl) 0 2) ?_)
 refine sw (o_store H 1 rfl (.agg #[.int .i64 x.qy, .slice a10 x.vK.length c10]) Try.sizeOf108 rfl rfl (by simp [Value.oneCell', Value.cells]) (Nat.le_of_ble_eq_true rfl) fun w12 H => ?_)
 replace H : St _ _ [.box b5 [.int .i64 x.qy, .slice a10 x.vK.length c10] 108, .box b3 [.int .i64 x.qy, .slice a10 x.vK.length c10] 108, .box b1 [.int .i64 x.qy, .slice axBag x.vK.length cxBag] 129] _ := H
 refine qA (t_n (xE ?_))
 refine retC H 1 rfl rfl Try.isAgg108 Try.sizeOf108 rfl ⟨_, rfl, ?_, H.base⟩
 exact ⟨_, _, _, rfl, (H.get 0 rfl).1, f10, d10, ((H.get 0 rfl).2 rfl)⟩

theorem toIntoS_ok (w : World) (x : List IntoD) (ax : Option Addr) (cx : Nat) (Fx : List Nat) (hx : qW.rep w Fx [.slice ax x.length cx] x) (p0 : tot x ≤ 2000000) : Calls Try.prog 100 #[.slice ax x.length cx] w (Ret (fun v w' => OwnNew w w' 108 v x) w) := by
 refine enter (n := 23) Try.func100 rfl Try.ntmps100 (Nat.le_of_ble_eq_true rfl) ?_
 have H := (St.start w).arg hx
 have nhx := qN hx
 clear hx
 have p1 := len_tot x
 refine qo (qB ?_)
 refine sp (.slice none 0 0) ?_
 refine qA (t_n (qo (qB ?_)))
 refine sp (.slice ax x.length cx) ?_
 refine sw (vI Try.underlying85 ax x.length cx rfl ?_)
 refine sw (o_makeN H Try.underlying90 ti108 rfl (by decide) x.length rfl rfl (by omega) (by omega) fun b1 w2 H => ?_)
 replace H : St _ _ [.box b1 ((List.replicate x.length [.int .i64 0, .slice none 0 0]).flatten) 108] _ := H
 refine sp (.slice (aa b1 0) x.length x.length) ?_
 refine qA (t_n (qo (qo (qB ?_))))
 refine sp (.int .i64 0) ?_
 refine qA (t_n (xC ?_))
 replace H := H.Xh (α := IntoD)
 refine vw (fun m' ρ w3 => ∃ (junk : Env) (k : Nat) (xs3 : List Value) (Fr3 : List Nat), ρ = upd (upd (upd (upd junk 0 (.slice ax x.length cx)) 2 (.slice none 0 0)) 3 (.slice (aa b1 0) x.length x.length)) 4 (.int .i64 k) ∧ (k ≤ x.length) ∧ (xs3.length = k * 2) ∧ (∀ b ∈ Fr3, w.heap.size ≤ b) ∧ (Fr3.Nodup) ∧ m' = x.length - k ∧ St w w3 [.box b1 (xs3 ++ (List.replicate (x.length - (k)) [.int .i64 0, .slice none 0 0]).flatten) 108] [jl true Fr3 xs3 (x.take k), isF false Fx (.slice ax x.length cx) x]) (x.length - 0) ⟨_, 0, [], [], (by exact qj (qj (qj (qj (rfl) rfl) rfl) rfl) rfl), (by omega), (by rfl), (by simp), (by simp), rfl, H⟩ ?_
 clear H
 rintro m' ρ w4 ⟨junk, k, xs3, Fr3, rfl, i0, hl3, nf3, nd3, rfl, H⟩
 have p2 := fun h => tot_get (l := x) (k := k) h
 refine qo (qo (qB ?_))
 refine sps [.int .i64 k, .slice ax x.length cx] ?_
 refine sw (vI Try.underlying85 ax x.length cx rfl ?_)
 refine sp (.bool (decide ((k : Int) < x.length))) ?_
 refine qA (t_n ?_)
 refine qX (decide ((k : Int) < x.length)) rfl (fun h5 => ?_) (fun h5 => ?_)
 ·skip
  replace h5 := of_decide_eq_true h5
  refine xy (t_n (qo (xC (qB ?_))))
  refine sps [.slice (aa b1 0) x.length x.length, .int .i64 k, .slice ax x.length cx, .int .i64 k] ?_
  obtain ⟨b6, o7, rfl⟩ := H.addr 1 rfl (by omega)
  obtain ⟨ae8Bag, ce8Bag, Fe8Bag, H⟩ := H.jQ 1 rfl k k (by omega) (by omega) (by omega)
  refine sw (xO k Try.underlying85 ti129 rfl rfl (by omega) (by omega) ?_)
  refine sw (zu [.int .i64 ((x[k]!).qy), .slice ae8Bag (((x[k]!).vK).length) ce8Bag] Try.isAgg129 Try.sizeOf129 rfl (qH (H.get 1 rfl) 0 2) ?_)
  have szx10 := H.base.size
  have lt11 := H.repsLt 2 rfl
  refine sw (xf #[.agg #[.int .i64 ((x[k]!).qy), .slice ae8Bag (((x[k]!).vK).length) ce8Bag]] rfl rfl Try.call118 (toInto_ok w4 (x[k]!) ae8Bag ce8Bag Fe8Bag (H.get 0 rfl).1 (by omega)) ?_)
  rintro v12 w9 r12 x10
  obtain ⟨a12Bag, c12Bag, F12Bag, rfl, f12, H⟩ := H.add_IntoD x10 r12
  have d12 := f12.2
  have q12 := f12.1
  replace f12 : ∀ b ∈ F12Bag, w.heap.size ≤ b := fun b hb => Nat.le_trans szx10 (f12.1 b hb)
  refine sw (xO k Try.underlying90 ti108 rfl rfl (by omega) (by omega) ?_)
  refine sw (o_store H 0 rfl (.agg #[.int .i64 ((x[k]!).qy), .slice a12Bag (((x[k]!).vK).length) c12Bag]) Try.sizeOf108 rfl rfl (by simp [Value.oneCell', Value.cells]) (by have : (xs3).length = k * 2 := (by (exact hl3)); simp [Value.cells]; have := fill_room (n := x.length) (k := k) (s := 2) (by omega); simp at this; omega) fun w14 H => ?_)
  replace H : St _ _ [.box b1 (xs3 ++ [.int .i64 ((x[k]!).qy), .slice a12Bag (((x[k]!).vK).length) c12Bag] ++ (List.replicate (x.length - (k + 1)) [.int .i64 0, .slice none 0 0]).flatten) 108] _ := (fill_put (vs := [.int .i64 ((x[k]!).qy), .slice a12Bag (((x[k]!).vK).length) c12Bag]) (zs := [.int .i64 0, .slice none 0 0]) (off := 0 + (k : Int).toNat * 2) (xs := xs3) (k := k) (s := 2) (n := x.length) (by (exact hl3)) (by simp) rfl rfl (by omega)) ▸ H
  replace H : St _ _ [.box b1 (xs3 ++ [.int .i64 ((x[k]!).qy), .slice a12Bag (((x[k]!).vK).length) c12Bag] ++ (List.replicate (x.length - (k + 1)) [.int .i64 0, .slice none 0 0]).flatten) 108] _ := H
  refine qA (b_n (t_n (qB ?_)))
  refine sp (.int .i64 k) ?_
  refine sw (vz k 1 rfl rfl (by omega) ?_)
  refine sp (.int .i64 (k + 1)) ?_
  refine qA ?_
  replace H := H.snoc_IntoD 3 rfl ((x[k]!).qy) 0 rfl
  rw [show (x.take k) ++ [⟨(x[k]!).qy, (x[k]!).vK⟩] = x.take (k + 1) from by exact take_snoc (by omega)] at H
  refine xH (m' := x.length - (k + 1)) (by omega) ⟨_, k + 1, (xs3 ++ [.int .i64 ((x[k]!).qy), .slice a12Bag (((x[k]!).vK).length) c12Bag]), (Fr3 ++ F12Bag), (by exact qj (qj (qj (qj (rfl) rfl) rfl) rfl) rfl), ?_, ?_, ?_, ?_, rfl, H.sel _ (.refl _) _ (by simp)⟩
  · omega
  · first | (simp only [List.length_append, List.length_cons, List.length_nil]; omega) | (simp [hl3]; done) | (simp; omega)
  · exact Xl nf3 f12
  · exact Xj nd3 d12 lt11 q12
 replace h5 := of_decide_eq_false h5
 refine ve (t_x (t_x (b_x (t_n (qo (qB ?_))))))
 refine sps [.slice (aa b1 0) x.length x.length, .slice (aa b1 0) x.length x.length] ?_
 refine qA (t_n (xE ?_))
 refine ret1 (.slice (aa b1 0) x.length x.length) rfl rfl ⟨_, rfl, ?_, H.base⟩
 rw [List.take_of_length_le (by omega : x.length ≤ k)] at H
 rw [fill_endN (by omega)] at H
 replace H := H.boxRow 0 rfl 2 x.length (by omega) (by unfold maxLen; omega)
 exact H.newRow 0 rfl 0 rfl (by omega) (by assumption) (by assumption)

theorem toRule_ok (w : World) (x : QK) (Qk : Option Addr) (Qe : Nat) (FxNeed : List Nat) (Qo : Option Addr) (Qj : Nat) (FxHave : List Nat) (Ql : Option Addr) (Qg : Nat) (FxLack : List Nat) (Qn : Option Addr) (Qi : Nat) (FxHere : List Nat) (XH : Option Addr) (XG : Nat) (FxOut : List Nat) (Qm : Option Addr) (Qh : Nat) (FxInto : List Nat) (hxNeed : qW.rep w FxNeed [.slice Qk x.qR.length Qe] x.qR) (hxHave : qW.rep w FxHave [.slice Qo x.xg.length Qj] x.xg) (hxLack : qW.rep w FxLack [.slice Ql x.xk.length Qg] x.xk) (hxHere : qW.rep w FxHere [.slice Qn x.xw.length Qi] x.xw) (hxOut : qW.rep w FxOut [.slice XH x.zo.length XG] x.zo) (hxInto : qW.rep w FxInto [.slice Qm x.qE.length Qh] x.qE) (p0 : tot x ≤ 2000000) : Calls Try.prog 69 #[.agg #[.int .i64 x.qy, .int .i64 x.zk, .slice Qk x.qR.length Qe, .slice Qo x.xg.length Qj, .slice Ql x.xk.length Qg, .slice Qn x.xw.length Qi, .slice XH x.zo.length XG, .slice Qm x.qE.length Qh, .bool x.xQ]] w (Ret (fun v w' => New_RuleD w w' v x) w) := by
 refine enter (n := 38) Try.func69 rfl Try.ntmps69 (Nat.le_of_ble_eq_true rfl) ?_
 have H := ((((((St.start w).arg hxInto).arg hxOut).arg hxHere).arg hxLack).arg hxHave).arg hxNeed
 have nhxNeed := qN hxNeed
 have nhxHave := qN hxHave
 have nhxLack := qN hxLack
 have nhxHere := qN hxHere
 have nhxOut := qN hxOut
 have nhxInto := qN hxInto
 clear hxNeed hxHave hxLack hxHere hxOut hxInto
 have p1 := tot_RuleD x
 refine qo (qB ?_)
 refine sw (o_box H (.agg #[.int .i64 x.qy, .int .i64 x.zk, .slice Qk x.qR.length Qe, .slice Qo x.xg.length Qj, .slice Ql x.xk.length Qg, .slice Qn x.xw.length Qi, .slice XH x.zo.length XG, .slice Qm x.qE.length Qh, .bool x.xQ]) rfl fun b1 w2 H => ?_)
 replace H : St _ _ [.box b1 [.int .i64 x.qy, .int .i64 x.zk, .slice Qk x.qR.length Qe, .slice Qo x.xg.length Qj, .slice Ql x.xk.length Qg, .slice Qn x.xw.length Qi, .slice XH x.zo.length XG, .slice Qm x.qE.length Qh, .bool x.xQ] 87] _ := H
 refine sw (o_alloc H ti92 fun b3 w4 H => ?_)
 replace H : St _ _ [.box b3 [.int .i64 0, .int .i64 0, .slice none 0 0, .slice none 0 0, .slice none 0 0, .slice none 0 0, .slice none 0 0, .slice none 0 0, .bool false] 92, .box b1 [.int .i64 x.qy, .int .i64 x.zk, .slice Qk x.qR.length Qe, .slice Qo x.xg.length Qj, .slice Ql x.xk.length Qg, .slice Qn x.xw.length Qi, .slice XH x.zo.length XG, .slice Qm x.qE.length Qh, .bool x.xQ] 87] _ := H
 refine qA (t_n (qo (qB ?_)))
 refine sw (o_alloc H ti92 fun b5 w6 H => ?_)
 replace H : St _ _ [.box b5 [.int .i64 0, .int .i64 0, .slice none 0 0, .slice none 0 0, .slice none 0 0, .slice none 0 0, .slice none 0 0, .slice none 0 0, .bool false] 92, .box b3 [.int .i64 0, .int .i64 0, .slice none 0 0, .slice none 0 0, .slice none 0 0, .slice none 0 0, .slice none 0 0, .slice none 0 0, .bool false] 92, .box b1 [.int .i64 x.qy, .int .i64 x.zk, .slice Qk x.qR.length Qe, .slice Qo x.xg.length Qj, .slice Ql x.xk.length Qg, .slice Qn x.xw.length Qi, .slice XH x.zo.length XG, .slice Qm x.qE.length Qh, .bool x.xQ] 87] _ := H
 refine qA (t_n (qo (qB ?_)))
 refine sw (qO b1 (0) 0 Try.underlying87 rfl rfl Try.sizeOf2 rfl ?_)
 refine sw (qF (.int .i64 x.qy) Try.isAgg2 rfl (H.cell 2 rfl rfl) ?_)
 refine sw (qO b5 (0) 0 Try.underlying92 rfl rfl Try.sizeOf2 rfl ?_)
 refine sw (yS H 0 rfl (.int .i64 x.qy) Try.sizeOf2 rfl rfl rfl (Nat.le_of_ble_eq_true rfl) fun w7 H => ?_)
 replace H : St _ _ [.box b5 [.int .i64 x.qy, .int .i64 0, .slice none 0 0, .slice none 0 0, .slice none 0 0, .slice none 0 0, .slice none 0 0, .slice none 0 0, .bool false] 92, .box b3 [.int .i64 0, .int .i64 0, .slice none 0 0, .slice none 0 0, .slice none 0 0, .slice none 0 0, .slice none 0 0, .slice none 0 0, .bool false] 92, .box b1 [.int .i64 x.qy, .int .i64 x.zk, .slice Qk x.qR.length Qe, .slice Qo x.xg.length Qj, .slice Ql x.xk.length Qg, .slice Qn x.xw.length Qi, .slice XH x.zo.length XG, .slice Qm x.qE.length Qh, .bool x.xQ] 87] _ := H
 refine qA (t_n (qo (qB ?_)))
 refine sw (qO b1 (0) 1 Try.underlying87 rfl rfl Try.sizeOf2 rfl ?_)
 refine sw (qF (.int .i64 x.zk) Try.isAgg2 rfl (H.cell 2 rfl rfl) ?_)
 refine sw (qO b5 (0) 1 Try.underlying92 rfl rfl Try.sizeOf2 rfl ?_)
 refine sw (yS H 0 rfl (.int .i64 x.zk) Try.sizeOf2 rfl rfl rfl (Nat.le_of_ble_eq_true rfl) fun w8 H => ?_)
 replace H : St _ _ [.box b5 [.int .i64 x.qy, .int .i64 x.zk, .slice none 0 0, .slice none 0 0, .slice none 0 0, .slice none 0 0, .slice none 0 0, .slice none 0 0, .bool false] 92, .box b3 [.int .i64 0, .int .i64 0, .slice none 0 0, .slice none 0 0, .slice none 0 0, .slice none 0 0, .slice none 0 0, .slice none 0 0, .bool false] 92, .box b1 [.int .i64 x.qy, .int .i64 x.zk, .slice Qk x.qR.length Qe, .slice Qo x.xg.length Qj, .slice Ql x.xk.length Qg, .slice Qn x.xw.length Qi, .slice XH x.zo.length XG, .slice Qm x.qE.length Qh, .bool x.xQ] 87] _ := H
 refine qA (t_n (qo (qB ?_)))
 refine sw (qO b1 (0) 2 Try.underlying87 rfl rfl Try.sizeOf22 rfl ?_)
 refine sw (qF (.slice Qk x.qR.length Qe) Try.isAgg22 rfl (H.cell 2 rfl rfl) ?_)
 have szx10 := H.base.size
 refine sw (xf #[.slice Qk x.qR.length Qe] rfl rfl Try.call9 (Xq w8 x.qR Qk Qe FxNeed (H.get 0 rfl).1 (by first | omega | (have := p2 (by omega); omega))) ?_)
 rintro v11 w9 r11 x10
 obtain ⟨a11, c11, F11, rfl, f11, H⟩ := H.add_is x10 r11.isNew
 have d11 := f11.2
 have q11 := f11.1
 replace f11 : ∀ b ∈ F11, w.heap.size ≤ b := fun b hb => Nat.le_trans szx10 (f11.1 b hb)
 refine sw (qO b5 (0) 2 Try.underlying92 rfl rfl Try.sizeOf22 rfl ?_)
 refine sw (yS H 0 rfl (.slice a11 x.qR.length c11) Try.sizeOf22 rfl rfl rfl (Nat.le_of_ble_eq_true rfl) fun w12 H => ?_)
 replace H : St _ _ [.box b5 [.int .i64 x.qy, .int .i64 x.zk, .slice a11 x.qR.length c11, .slice none 0 0, .slice none 0 0, .slice none 0 0, .slice none 0 0, .slice none 0 0, .bool false] 92, .box b3 [.int .i64 0, .int .i64 0, .slice none 0 0, .slice none 0 0, .slice none 0 0, .slice none 0 0, .slice none 0 0, .slice none 0 0, .bool false] 92, .box b1 [.int .i64 x.qy, .int .i64 x.zk, .slice Qk x.qR.length Qe, .slice Qo x.xg.length Qj, .slice Ql x.xk.length Qg, .slice Qn x.xw.length Qi, .slice XH x.zo.length XG, .slice Qm x.qE.length Qh, .bool x.xQ] 87] _ := H
 refine qA (t_n (qo (qB ?_)))
 refine sw (qO b1 (0) 3 Try.underlying87 rfl rfl Try.sizeOf22 rfl ?_)
 refine sw (qF (.slice Qo x.xg.length Qj) Try.isAgg22 rfl (H.cell 2 rfl rfl) ?_)
 have szx14 := H.base.size
 have lt15 := H.isLt 0 rfl
 refine sw (xf #[.slice Qo x.xg.length Qj] rfl rfl Try.call9 (Xq w12 x.xg Qo Qj FxHave (H.get 2 rfl).1 (by first | omega | (have := p2 (by omega); omega))) ?_)
 rintro v16 w13 r16 x14
 obtain ⟨a16, c16, F16, rfl, f16, H⟩ := H.add_is x14 r16.isNew
 have d16 := f16.2
 have q16 := f16.1
 replace f16 : ∀ b ∈ F16, w.heap.size ≤ b := fun b hb => Nat.le_trans szx14 (f16.1 b hb)
 refine sw (qO b5 (0) 3 Try.underlying92 rfl rfl Try.sizeOf22 rfl ?_)
 refine sw (yS H 0 rfl (.slice a16 x.xg.length c16) Try.sizeOf22 rfl rfl rfl (Nat.le_of_ble_eq_true rfl) fun w17 H => ?_)
 replace H : St _ _ [.box b5 [.int .i64 x.qy, .int .i64 x.zk, .slice a11 x.qR.length c11, .slice a16 x.xg.length c16, .slice none 0 0, .slice none 0 0, .slice none 0 0, .slice none 0 0, .bool false] 92, .box b3 [.int .i64 0, .int .i64 0, .slice none 0 0, .slice none 0 0, .slice none 0 0, .slice none 0 0, .slice none 0 0, .slice none 0 0, .bool false] 92, .box b1 [.int .i64 x.qy, .int .i64 x.zk, .slice Qk x.qR.length Qe, .slice Qo x.xg.length Qj, .slice Ql x.xk.length Qg, .slice Qn x.xw.length Qi, .slice XH x.zo.length XG, .slice Qm x.qE.length Qh, .bool x.xQ] 87] _ := H
 refine qA (t_n (qo (qB ?_)))
 refine sw (qO b1 (0) 4 Try.underlying87 rfl rfl Try.sizeOf22 rfl ?_)
 refine sw (qF (.slice Ql x.xk.length Qg) Try.isAgg22 rfl (H.cell 2 rfl rfl) ?_)
 have szx19 := H.base.size
 have lt20 := H.isLt 0 rfl
 have lt21 := H.isLt 1 rfl
 refine sw (xf #[.slice Ql x.xk.length Qg] rfl rfl Try.call9 (Xq w17 x.xk Ql Qg FxLack (H.get 4 rfl).1 (by first | omega | (have := p2 (by omega); omega))) ?_)
 rintro v22 w18 r22 x19
 obtain ⟨a22, c22, F22, rfl, f22, H⟩ := H.add_is x19 r22.isNew
 have d22 := f22.2
 have q22 := f22.1
 replace f22 : ∀ b ∈ F22, w.heap.size ≤ b := fun b hb => Nat.le_trans szx19 (f22.1 b hb)
 refine sw (qO b5 (0) 4 Try.underlying92 rfl rfl Try.sizeOf22 rfl ?_)
 refine sw (yS H 0 rfl (.slice a22 x.xk.length c22) Try.sizeOf22 rfl rfl rfl (Nat.le_of_ble_eq_true rfl) fun w23 H => ?_)
 replace H : St _ _ [.box b5 [.int .i64 x.qy, .int .i64 x.zk, .slice a11 x.qR.length c11, .slice a16 x.xg.length c16, .slice a22 x.xk.length c22, .slice none 0 0, .slice none 0 0, .slice none 0 0, .bool false] 92, .box b3 [.int .i64 0, .int .i64 0, .slice none 0 0, .slice none 0 0, .slice none 0 0, .slice none 0 0, .slice none 0 0, .slice none 0 0, .bool false] 92, .box b1 [.int .i64 x.qy, .int .i64 x.zk, .slice Qk x.qR.length Qe, .slice Qo x.xg.length Qj, .slice Ql x.xk.length Qg, .slice Qn x.xw.length Qi, .slice XH x.zo.length XG, .slice Qm x.qE.length Qh, .bool x.xQ] 87] _ := H
 refine qA (t_n (qo (qB ?_)))
 refine sw (qO b1 (0) 5 Try.underlying87 rfl rfl Try.sizeOf22 rfl ?_)
 refine sw (qF (.slice Qn x.xw.length Qi) Try.isAgg22 rfl (H.cell 2 rfl rfl) ?_)
 have szx25 := H.base.size
 have lt26 := H.isLt 0 rfl
 have lt27 := H.isLt 1 rfl
 have lt28 := H.isLt 2 rfl
 refine sw (xf #[.slice Qn x.xw.length Qi] rfl rfl Try.call9 (Xq w23 x.xw Qn Qi FxHere (H.get 6 rfl).1 (by first | omega | (have := p2 (by omega); omega))) ?_)
 rintro v29 w24 r29 x25
 obtain ⟨a29, c29, F29, rfl, f29, H⟩ := H.add_is x25 r29.isNew
 have d29 := f29.2
 have q29 := f29.1
 replace f29 : ∀ b ∈ F29, w.heap.size ≤ b := fun b hb => Nat.le_trans szx25 (f29.1 b hb)
 refine sw (qO b5 (0) 5 Try.underlying92 rfl rfl Try.sizeOf22 rfl ?_)
 refine sw (yS H 0 rfl (.slice a29 x.xw.length c29) Try.sizeOf22 rfl rfl rfl (Nat.le_of_ble_eq_true rfl) fun w30 H => ?_)
 replace H : St _ _ [.box b5 [.int .i64 x.qy, .int .i64 x.zk, .slice a11 x.qR.length c11, .slice a16 x.xg.length c16, .slice a22 x.xk.length c22, .slice a29 x.xw.length c29, .slice none 0 0, .slice none 0 0, .bool false] 92, .box b3 [.int .i64 0, .int .i64 0, .slice none 0 0, .slice none 0 0, .slice none 0 0, .slice none 0 0, .slice none 0 0, .slice none 0 0, .bool false] 92, .box b1 [.int .i64 x.qy, .int .i64 x.zk, .slice Qk x.qR.length Qe, .slice Qo x.xg.length Qj, .slice Ql x.xk.length Qg, .slice Qn x.xw.length Qi, .slice XH x.zo.length XG, .slice Qm x.qE.length Qh, .bool x.xQ] 87] _ := H
 refine qA (t_n (qo (qB ?_)))
 refine sw (qO b1 (0) 6 Try.underlying87 rfl rfl Try.sizeOf22 rfl ?_)
 refine sw (qF (.slice XH x.zo.length XG) Try.isAgg22 rfl (H.cell 2 rfl rfl) ?_)
 have szx32 := H.base.size
 have lt33 := H.isLt 0 rfl
 have lt34 := H.isLt 1 rfl
 have lt35 := H.isLt 2 rfl
 have lt36 := H.isLt 3 rfl
 refine sw (xf #[.slice XH x.zo.length XG] rfl rfl Try.call9 (Xq w30 x.zo XH XG FxOut (H.get 8 rfl).1 (by first | omega | (have := p2 (by omega); omega))) ?_)
 rintro v37 w31 r37 x32
 obtain ⟨a37, c37, F37, rfl, f37, H⟩ := H.add_is x32 r37.isNew
 have d37 := f37.2
 have q37 := f37.1
 replace f37 : ∀ b ∈ F37, w.heap.size ≤ b := fun b hb => Nat.le_trans szx32 (f37.1 b hb)
 refine sw (qO b5 (0) 6 Try.underlying92 rfl rfl Try.sizeOf22 rfl ?_)
 refine sw (yS H 0 rfl (.slice a37 x.zo.length c37) Try.sizeOf22 rfl rfl rfl (Nat.le_of_ble_eq_true rfl) fun w38 H => ?_)
 replace H : St _ _ [.box b5 [.int .i64 x.qy, .int .i64 x.zk, .slice a11 x.qR.length c11, .slice a16 x.xg.length c16, .slice a22 x.xk.length c22, .slice a29 x.xw.length c29, .slice a37 x.zo.length c37, .slice none 0 0, .bool false] 92, .box b3 [.int .i64 0, .int .i64 0, .slice none 0 0, .slice none 0 0, .slice none 0 0, .slice none 0 0, .slice none 0 0, .slice none 0 0, .bool false] 92, .box b1 [.int .i64 x.qy, .int .i64 x.zk, .slice Qk x.qR.length Qe, .slice Qo x.xg.length Qj, .slice Ql x.xk.length Qg, .slice Qn x.xw.length Qi, .slice XH x.zo.length XG, .slice Qm x.qE.length Qh, .bool x.xQ] 87] _ := H
 refine qA (t_n (qo (qB ?_)))
 refine sw (qO b1 (0) 7 Try.underlying87 rfl rfl Try.sizeOf85 rfl ?_)
 refine sw (qF (.slice Qm x.qE.length Qh) Try.isAgg85 rfl (H.cell 2 rfl rfl) ?_)
 have szx40 := H.base.size
 have lt41 := H.isLt 0 rfl
 have lt42 := H.isLt 1 rfl
 have lt43 := H.isLt 2 rfl
 have lt44 := H.isLt 3 rfl
 have lt45 := H.isLt 4 rfl
 refine sw (xf #[.slice Qm x.qE.length Qh] rfl rfl Try.call100 (toIntoS_ok w38 x.qE Qm Qh FxInto (H.get 10 rfl).1 (by first | omega | (have := p2 (by omega); omega))) ?_)
 rintro v46 w39 r46 x40
 obtain ⟨a46, c46, F46, rfl, f46, H⟩ := H.add_is x40 r46.isNew
 have d46 := f46.2
 have q46 := f46.1
 replace f46 : ∀ b ∈ F46, w.heap.size ≤ b := fun b hb => Nat.le_trans szx40 (f46.1 b hb)
 refine sw (qO b5 (0) 7 Try.underlying92 rfl rfl Try.sizeOf90 rfl ?_)
 refine sw (yS H 0 rfl (.slice a46 x.qE.length c46) Try.sizeOf90 rfl rfl rfl (Nat.le_of_ble_eq_true rfl) fun w47 H => ?_)
 replace H : St _ _ [.box b5 [.int .i64 x.qy, .int .i64 x.zk, .slice a11 x.qR.length c11, .slice a16 x.xg.length c16, .slice a22 x.xk.length c22, .slice a29 x.xw.length c29, .slice a37 x.zo.length c37, .slice a46 x.qE.length c46, .bool false] 92, .box b3 [.int .i64 0, .int .i64 0, .slice none 0 0, .slice none 0 0, .slice none 0 0, .slice none 0 0, .slice none 0 0, .slice none 0 0, .bool false] 92, .box b1 [.int .i64 x.qy, .int .i64 x.zk, .slice Qk x.qR.length Qe, .slice Qo x.xg.length Qj, .slice Ql x.xk.length Qg, .slice Qn x.xw.length Qi, .slice XH x.zo.length XG, .slice Qm x.qE.length Qh, .bool x.xQ] 87] _ := H
 refine qA (t_n (qo (qB ?_)))
 refine sw (qO b1 (0) 8 Try.underlying87 rfl rfl Try.sizeOf4 rfl ?_)
 refine sw (qF (.bool x.xQ) Try.isAgg4 rfl (H.cell 2 rfl rfl) ?_)
 refine sw (qO b5 (0) 8 Try.underlying92 rfl rfl Try.sizeOf4 rfl ?_)
 refine sw (yS H 0 rfl (.bool x.xQ) Try.sizeOf4 rfl rfl rfl (Nat.le_of_ble_eq_true rfl) fun w48 H => ?_)
 replace H : St _ _ [.box b5 [.int .i64 x.qy, .int .i64 x.zk, .slice a11 x.qR.length c11, .slice a16 x.xg.length c16, .slice a22 x.xk.length c22, .slice a29 x.xw.length c29, .slice a37 x.zo.length c37, .slice a46 x.qE.length c46, .bool x.xQ] 92, .box b3 [.int .i64 0, .int .i64 0, .slice none 0 0, .slice none 0 0, .slice none 0 0, .slice none 0 0, .slice none 0 0, .slice none 0 0, .bool false] 92, .box b1 [.int .i64 x.qy, .int .i64 x.zk, .slice Qk x.qR.length Qe, .slice Qo x.xg.length Qj, .slice Ql x.xk.length Qg, .slice Qn x.xw.length Qi, .slice XH x.zo.length XG, .slice Qm x.qE.length Qh, .bool x.xQ] 87] _ := H
 refine qA (t_n (qo (qB ?_)))
 refine sw (zu [.int .i64 x.qy, .int .i64 x.zk, .slice a11 x.qR.length c11, .slice a16 x.xg.length c16, .slice a22 x.xk.length c22, .slice a29 x.xw.length c29, .slice a37 x.zo.length c37, .slice a46 x.qE.length c46, .bool x.xQ] Try.isAgg92 Try.sizeOf92 rfl (qH (H.cells 0 rfl) 0 9) ?_)
 refine sw (o_store H 1 rfl (.agg #[.int .i64 x.qy, .int .i64 x.zk, .slice a11 x.qR.length c11, .slice a16 x.xg.length c16, .slice a22 x.xk.length c22, .slice a29 x.xw.length c29, .slice a37 x.zo.length c37, .slice a46 x.qE.length c46, .bool x.xQ]) Try.sizeOf92 rfl rfl (by simp [Value.oneCell', Value.cells]) (Nat.le_of_ble_eq_true rfl) fun w49 H => ?_)
 replace H : St _ _ [.box b5 [.int .i64 x.qy, .int .i64 x.zk, .slice a11 x.qR.length c11, .slice a16 x.xg.length c16, .slice a22 x.xk.length c22, .slice a29 x.xw.length c29, .slice a37 x.zo.length c37, .slice a46 x.qE.length c46, .bool x.xQ] 92, .box b3 [.int .i64 x.qy, .int .i64 x.zk, .slice a11 x.qR.length c11, .slice a16 x.xg.length c16, .slice a22 x.xk.length c22, .slice a29 x.xw.length c29, .slice a37 x.zo.length c37, .slice a46 x.qE.length c46, .bool x.xQ] 92, .box b1 [.int .i64 x.qy, .int .i64 x.zk, .slice Qk x.qR.length Qe, .slice Qo x.xg.length Qj, .slice Ql x.xk.length Qg, .slice Qn x.xw.length Qi, .slice XH x.zo.length XG, .slice Qm x.qE.length Qh, .bool x.xQ] 87] _ := H
 refine qA (t_n (xE ?_))
 refine retC H 1 rfl rfl Try.isAgg92 Try.sizeOf92 rfl ⟨_, rfl, ?_, H.base⟩
 exact ⟨_, _, _, _, _, _, _, _, _, _, _, _, _, _, _, _, _, _, rfl, (H.get 5 rfl).1, (H.get 4 rfl).1, (H.get 3 rfl).1, (H.get 2 rfl).1, (H.get 1 rfl).1, (H.get 0 rfl).1, (Xl (Xl (Xl (Xl (Xl f11 f16) f22) f29) f37) f46), (Xj (Xj (Xj (Xj (Xj d11 d16 lt15 q16) d22 (Vd lt21 lt20) q22) d29 (Vd (Vd lt28 lt27) lt26) q29) d37 (Vd (Vd (Vd lt36 lt35) lt34) lt33) q37) d46 (Vd (Vd (Vd (Vd lt45 lt44) lt43) lt42) lt41) q46), (((((((H.get 5 rfl).2 rfl).app ((H.get 4 rfl).2 rfl)).app ((H.get 3 rfl).2 rfl)).app ((H.get 2 rfl).2 rfl)).app ((H.get 1 rfl).2 rfl)).app ((H.get 0 rfl).2 rfl))⟩

theorem toRuleS_ok (w : World) (x : List QK) (ax : Option Addr) (cx : Nat) (Fx : List Nat) (hx : qW.rep w Fx [.slice ax x.length cx] x) (p0 : tot x ≤ 2000000) : Calls Try.prog 26 #[.slice ax x.length cx] w (Ret (fun v w' => OwnNew w w' 92 v x) w) := by
 refine enter (n := 23) Try.func26 rfl Try.ntmps26 (Nat.le_of_ble_eq_true rfl) ?_
 have H := (St.start w).arg hx
 have nhx := qN hx
 clear hx
 have p1 := len_tot x
 refine qo (qB ?_)
 refine sp (.slice none 0 0) ?_
 refine qA (t_n (qo (qB ?_)))
 refine sp (.slice ax x.length cx) ?_
 refine sw (vI Try.underlying23 ax x.length cx rfl ?_)
 refine sw (o_makeN H Try.underlying28 ti92 rfl (by decide) x.length rfl rfl (by omega) (by omega) fun b1 w2 H => ?_)
 replace H : St _ _ [.box b1 ((List.replicate x.length [.int .i64 0, .int .i64 0, .slice none 0 0, .slice none 0 0, .slice none 0 0, .slice none 0 0, .slice none 0 0, .slice none 0 0, .bool false]).flatten) 92] _ := H
 refine sp (.slice (aa b1 0) x.length x.length) ?_
 refine qA (t_n (qo (qo (qB ?_))))
 refine sp (.int .i64 0) ?_
 refine qA (t_n (xC ?_))
 replace H := H.Xh (α := QK)
 refine vw (fun m' ρ w3 => ∃ (junk : Env) (k : Nat) (xs3 : List Value) (Fr3 : List Nat), ρ = upd (upd (upd (upd junk 0 (.slice ax x.length cx)) 2 (.slice none 0 0)) 3 (.slice (aa b1 0) x.length x.length)) 4 (.int .i64 k) ∧ (k ≤ x.length) ∧ (xs3.length = k * 9) ∧ (∀ b ∈ Fr3, w.heap.size ≤ b) ∧ (Fr3.Nodup) ∧ m' = x.length - k ∧ St w w3 [.box b1 (xs3 ++ (List.replicate (x.length - (k)) [.int .i64 0, .int .i64 0, .slice none 0 0, .slice none 0 0, .slice none 0 0, .slice none 0 0, .slice none 0 0, .slice none 0 0, .bool false]).flatten) 92] [jl true Fr3 xs3 (x.take k), isF false Fx (.slice ax x.length cx) x]) (x.length - 0) ⟨_, 0, [], [], (by exact qj (qj (qj (qj (rfl) rfl) rfl) rfl) rfl), (by omega), (by rfl), (by simp), (by simp), rfl, H⟩ ?_
 clear H
 rintro m' ρ w4 ⟨junk, k, xs3, Fr3, rfl, i0, hl3, nf3, nd3, rfl, H⟩
 have p2 := fun h => tot_get (l := x) (k := k) h
 refine qo (qo (qB ?_))
 refine sps [.int .i64 k, .slice ax x.length cx] ?_
 refine sw (vI Try.underlying23 ax x.length cx rfl ?_)
 refine sp (.bool (decide ((k : Int) < x.length))) ?_
 refine qA (t_n ?_)
 refine qX (decide ((k : Int) < x.length)) rfl (fun h5 => ?_) (fun h5 => ?_)
 ·skip
  replace h5 := of_decide_eq_true h5
  refine xy (t_n (qo (xC (qB ?_))))
  refine sps [.slice (aa b1 0) x.length x.length, .int .i64 k, .slice ax x.length cx, .int .i64 k] ?_
  obtain ⟨b6, o7, rfl⟩ := H.addr 1 rfl (by omega)
  obtain ⟨ae8Need, ce8Need, Fe8Need, ae8Have, ce8Have, Fe8Have, ae8Lack, ce8Lack, Fe8Lack, ae8Here, ce8Here, Fe8Here, ae8Out, ce8Out, Fe8Out, ae8Into, ce8Into, Fe8Into, H⟩ := H.yD 1 rfl k k (by omega) (by omega) (by omega)
  refine sw (xO k Try.underlying23 ti87 rfl rfl (by omega) (by omega) ?_)
  refine sw (zu [.int .i64 ((x[k]!).qy), .int .i64 ((x[k]!).zk), .slice ae8Need (((x[k]!).qR).length) ce8Need, .slice ae8Have (((x[k]!).xg).length) ce8Have, .slice ae8Lack (((x[k]!).xk).length) ce8Lack, .slice ae8Here (((x[k]!).xw).length) ce8Here, .slice ae8Out (((x[k]!).zo).length) ce8Out, .slice ae8Into (((x[k]!).qE).length) ce8Into, .bool ((x[k]!).xQ)] Try.isAgg87 Try.sizeOf87 rfl (qH (H.get 6 rfl) 0 9) ?_)
  have szx10 := H.base.size
  have lt11 := H.repsLt 7 rfl
  refine sw (xf #[.agg #[.int .i64 ((x[k]!).qy), .int .i64 ((x[k]!).zk), .slice ae8Need (((x[k]!).qR).length) ce8Need, .slice ae8Have (((x[k]!).xg).length) ce8Have, .slice ae8Lack (((x[k]!).xk).length) ce8Lack, .slice ae8Here (((x[k]!).xw).length) ce8Here, .slice ae8Out (((x[k]!).zo).length) ce8Out, .slice ae8Into (((x[k]!).qE).length) ce8Into, .bool ((x[k]!).xQ)]] rfl rfl Try.call69 (toRule_ok w4 (x[k]!) ae8Need ce8Need Fe8Need ae8Have ce8Have Fe8Have ae8Lack ce8Lack Fe8Lack ae8Here ce8Here Fe8Here ae8Out ce8Out Fe8Out ae8Into ce8Into Fe8Into (H.get 0 rfl).1 (H.get 1 rfl).1 (H.get 2 rfl).1 (H.get 3 rfl).1 (H.get 4 rfl).1 (H.get 5 rfl).1 (by omega)) ?_)
  rintro v12 w9 r12 x10
  obtain ⟨a12Need, c12Need, F12Need, a12Have, c12Have, F12Have, a12Lack, c12Lack, F12Lack, a12Here, c12Here, F12Here, a12Out, c12Out, F12Out, a12Into, c12Into, F12Into, rfl, f12, H⟩ := H.add_RuleD x10 r12
  have d12 := f12.2
  have q12 := f12.1
  replace f12 : ∀ b ∈ (F12Need ++ F12Have ++ F12Lack ++ F12Here ++ F12Out ++ F12Into), w.heap.size ≤ b := fun b hb => Nat.le_trans szx10 (f12.1 b hb)
  refine sw (xO k Try.underlying28 ti92 rfl rfl (by omega) (by omega) ?_)
  refine sw (o_store H 0 rfl (.agg #[.int .i64 ((x[k]!).qy), .int .i64 ((x[k]!).zk), .slice a12Need (((x[k]!).qR).length) c12Need, .slice a12Have (((x[k]!).xg).length) c12Have, .slice a12Lack (((x[k]!).xk).length) c12Lack, .slice a12Here (((x[k]!).xw).length) c12Here, .slice a12Out (((x[k]!).zo).length) c12Out, .slice a12Into (((x[k]!).qE).length) c12Into, .bool ((x[k]!).xQ)]) Try.sizeOf92 rfl rfl (by simp [Value.oneCell', Value.cells]) (by have : (xs3).length = k * 9 := (by (exact hl3)); simp [Value.cells]; have := fill_room (n := x.length) (k := k) (s := 9) (by omega); simp at this; omega) fun w14 H => ?_)
  replace H : St _ _ [.box b1 (xs3 ++ [.int .i64 ((x[k]!).qy), .int .i64 ((x[k]!).zk), .slice a12Need (((x[k]!).qR).length) c12Need, .slice a12Have (((x[k]!).xg).length) c12Have, .slice a12Lack (((x[k]!).xk).length) c12Lack, .slice a12Here (((x[k]!).xw).length) c12Here, .slice a12Out (((x[k]!).zo).length) c12Out, .slice a12Into (((x[k]!).qE).length) c12Into, .bool ((x[k]!).xQ)] ++ (List.replicate (x.length - (k + 1)) [.int .i64 0, .int .i64 0, .slice none 0 0, .slice none 0 0, .slice none 0 0, .slice none 0 0, .slice none 0 0, .slice none 0 0, .bool false]).flatten) 92] _ := (fill_put (vs := [.int .i64 ((x[k]!).qy), .int .i64 ((x[k]!).zk), .slice a12Need (((x[k]!).qR).length) c12Need, .slice a12Have (((x[k]!).xg).length) c12Have, .slice a12Lack (((x[k]!).xk).length) c12Lack, .slice a12Here (((x[k]!).xw).length) c12Here, .slice a12Out (((x[k]!).zo).length) c12Out, .slice a12Into (((x[k]!).qE).length) c12Into, .bool ((x[k]!).xQ)]) (zs := [.int .i64 0, .int .i64 0, .slice none 0 0, .slice none 0 0, .slice none 0 0, .slice none 0 0, .slice none 0 0, .slice none 0 0, .bool false]) (off := 0 + (k : Int).toNat * 9) (xs := xs3) (k := k) (s := 9) (n := x.length) (by (exact hl3)) (by simp) rfl rfl (by omega)) ▸ H
  replace H : St _ _ [.box b1 (xs3 ++ [.int .i64 ((x[k]!).qy), .int .i64 ((x[k]!).zk), .slice a12Need (((x[k]!).qR).length) c12Need, .slice a12Have (((x[k]!).xg).length) c12Have, .slice a12Lack (((x[k]!).xk).length) c12Lack, .slice a12Here (((x[k]!).xw).length) c12Here, .slice a12Out (((x[k]!).zo).length) c12Out, .slice a12Into (((x[k]!).qE).length) c12Into, .bool ((x[k]!).xQ)] ++ (List.replicate (x.length - (k + 1)) [.int .i64 0, .int .i64 0, .slice none 0 0, .slice none 0 0, .slice none 0 0, .slice none 0 0, .slice none 0 0, .slice none 0 0, .bool false]).flatten) 92] _ := H
  refine qA (b_n (t_n (qB ?_)))
  refine sp (.int .i64 k) ?_
  refine sw (vz k 1 rfl rfl (by omega) ?_)
  refine sp (.int .i64 (k + 1)) ?_
  refine qA ?_
  replace H := H.snoc_RuleD 13 rfl ((x[k]!).qy) ((x[k]!).zk) 0 rfl 1 rfl 2 rfl 3 rfl 4 rfl 5 rfl ((x[k]!).xQ)
  rw [show (x.take k) ++ [⟨(x[k]!).qy, (x[k]!).zk, (x[k]!).qR, (x[k]!).xg, (x[k]!).xk, (x[k]!).xw, (x[k]!).zo, (x[k]!).qE, (x[k]!).xQ⟩] = x.take (k + 1) from by exact take_snoc (by omega)] at H
  refine xH (m' := x.length - (k + 1)) (by omega) ⟨_, k + 1, (xs3 ++ [.int .i64 ((x[k]!).qy), .int .i64 ((x[k]!).zk), .slice a12Need (((x[k]!).qR).length) c12Need, .slice a12Have (((x[k]!).xg).length) c12Have, .slice a12Lack (((x[k]!).xk).length) c12Lack, .slice a12Here (((x[k]!).xw).length) c12Here, .slice a12Out (((x[k]!).zo).length) c12Out, .slice a12Into (((x[k]!).qE).length) c12Into, .bool ((x[k]!).xQ)]), (Fr3 ++ (F12Need ++ F12Have ++ F12Lack ++ F12Here ++ F12Out ++ F12Into)), (by exact qj (qj (qj (qj (rfl) rfl) rfl) rfl) rfl), ?_, ?_, ?_, ?_, rfl, H.sel _ (.refl _) _ (by simp)⟩
  · omega
  · first | (simp only [List.length_append, List.length_cons, List.length_nil]; omega) | (simp [hl3]; done) | (simp; omega)
  · exact Xl nf3 f12
  · exact Xj nd3 d12 lt11 q12
 replace h5 := of_decide_eq_false h5
 refine ve (t_x (t_x (b_x (t_n (qo (qB ?_))))))
 refine sps [.slice (aa b1 0) x.length x.length, .slice (aa b1 0) x.length x.length] ?_
 refine qA (t_n (xE ?_))
 refine ret1 (.slice (aa b1 0) x.length x.length) rfl rfl ⟨_, rfl, ?_, H.base⟩
 rw [List.take_of_length_le (by omega : x.length ≤ k)] at H
 rw [fill_endN (by omega)] at H
 replace H := H.boxRow 0 rfl 9 x.length (by omega) (by unfold maxLen; omega)
 exact H.newRow 0 rfl 0 rfl (by omega) (by assumption) (by assumption)

theorem toSystem_ok (w : World) (x : qV) (zO : Option Addr) (zN : Nat) (yt : List Nat) (jo : Option Addr) (jm : Nat) (Q3 : List Nat) (QA : qW.rep w yt [.slice zO x.qf.length zN] x.qf) (Va : qW.rep w Q3 [.slice jo x.qg.length jm] x.qg) (p0 : tot x ≤ 2000000) : Calls Try.prog 8 #[.agg #[.int .i64 x.qI, .slice zO x.qf.length zN, .slice jo x.qg.length jm]] w (Ret (fun v w' => New_SystemD w w' v x) w) := by
 refine enter (n := 16) Try.func8 rfl Try.ntmps8 (Nat.le_of_ble_eq_true rfl) ?_
 have H := ((St.start w).arg Va).arg QA
 have nhxParents := qN QA
 have nhxRules := qN Va
 clear QA Va
 have p1 := tot_SystemD x
 refine qo (qB ?_)
 refine sw (o_box H (.agg #[.int .i64 x.qI, .slice zO x.qf.length zN, .slice jo x.qg.length jm]) rfl fun b1 w2 H => ?_)
 replace H : St _ _ [.box b1 [.int .i64 x.qI, .slice zO x.qf.length zN, .slice jo x.qg.length jm] 25] _ := H
 refine sw (o_alloc H ti30 fun b3 w4 H => ?_)
 replace H : St _ _ [.box b3 [.int .i64 0, .slice none 0 0, .slice none 0 0] 30, .box b1 [.int .i64 x.qI, .slice zO x.qf.length zN, .slice jo x.qg.length jm] 25] _ := H
 refine qA (t_n (qo (qB ?_)))
 refine sw (o_alloc H ti30 fun b5 w6 H => ?_)
 replace H : St _ _ [.box b5 [.int .i64 0, .slice none 0 0, .slice none 0 0] 30, .box b3 [.int .i64 0, .slice none 0 0, .slice none 0 0] 30, .box b1 [.int .i64 x.qI, .slice zO x.qf.length zN, .slice jo x.qg.length jm] 25] _ := H
 refine qA (t_n (qo (qB ?_)))
 refine sw (qO b1 (0) 0 Try.underlying25 rfl rfl Try.sizeOf2 rfl ?_)
 refine sw (qF (.int .i64 x.qI) Try.isAgg2 rfl (H.cell 2 rfl rfl) ?_)
 refine sw (qO b5 (0) 0 Try.underlying30 rfl rfl Try.sizeOf2 rfl ?_)
 refine sw (yS H 0 rfl (.int .i64 x.qI) Try.sizeOf2 rfl rfl rfl (Nat.le_of_ble_eq_true rfl) fun w7 H => ?_)
 replace H : St _ _ [.box b5 [.int .i64 x.qI, .slice none 0 0, .slice none 0 0] 30, .box b3 [.int .i64 0, .slice none 0 0, .slice none 0 0] 30, .box b1 [.int .i64 x.qI, .slice zO x.qf.length zN, .slice jo x.qg.length jm] 25] _ := H
 refine qA (t_n (qo (qB ?_)))
 refine sw (qO b1 (0) 1 Try.underlying25 rfl rfl Try.sizeOf22 rfl ?_)
 refine sw (qF (.slice zO x.qf.length zN) Try.isAgg22 rfl (H.cell 2 rfl rfl) ?_)
 have szx9 := H.base.size
 refine sw (xf #[.slice zO x.qf.length zN] rfl rfl Try.call9 (Xq w7 x.qf zO zN yt (H.get 0 rfl).1 (by first | omega | (have := p2 (by omega); omega))) ?_)
 rintro v10 w8 r10 x9
 obtain ⟨a10, c10, F10, rfl, f10, H⟩ := H.add_is x9 r10.isNew
 have d10 := f10.2
 have q10 := f10.1
 replace f10 : ∀ b ∈ F10, w.heap.size ≤ b := fun b hb => Nat.le_trans szx9 (f10.1 b hb)
 refine sw (qO b5 (0) 1 Try.underlying30 rfl rfl Try.sizeOf22 rfl ?_)
 refine sw (yS H 0 rfl (.slice a10 x.qf.length c10) Try.sizeOf22 rfl rfl rfl (Nat.le_of_ble_eq_true rfl) fun w11 H => ?_)
 replace H : St _ _ [.box b5 [.int .i64 x.qI, .slice a10 x.qf.length c10, .slice none 0 0] 30, .box b3 [.int .i64 0, .slice none 0 0, .slice none 0 0] 30, .box b1 [.int .i64 x.qI, .slice zO x.qf.length zN, .slice jo x.qg.length jm] 25] _ := H
 refine qA (t_n (qo (qB ?_)))
 refine sw (qO b1 (0) 2 Try.underlying25 rfl rfl Try.sizeOf23 rfl ?_)
 refine sw (qF (.slice jo x.qg.length jm) Try.isAgg23 rfl (H.cell 2 rfl rfl) ?_)
 have szx13 := H.base.size
 have lt14 := H.isLt 0 rfl
 refine sw (xf #[.slice jo x.qg.length jm] rfl rfl Try.call26 (toRuleS_ok w11 x.qg jo jm Q3 (H.get 2 rfl).1 (by first | omega | (have := p2 (by omega); omega))) ?_)
 rintro v15 w12 r15 x13
 obtain ⟨a15, c15, F15, rfl, f15, H⟩ := H.add_is x13 r15.isNew
 have d15 := f15.2
 have q15 := f15.1
 replace f15 : ∀ b ∈ F15, w.heap.size ≤ b := fun b hb => Nat.le_trans szx13 (f15.1 b hb)
 refine sw (qO b5 (0) 2 Try.underlying30 rfl rfl Try.sizeOf28 rfl ?_)
 refine sw (yS H 0 rfl (.slice a15 x.qg.length c15) Try.sizeOf28 rfl rfl rfl (Nat.le_of_ble_eq_true rfl) fun w16 H => ?_)
 replace H : St _ _ [.box b5 [.int .i64 x.qI, .slice a10 x.qf.length c10, .slice a15 x.qg.length c15] 30, .box b3 [.int .i64 0, .slice none 0 0, .slice none 0 0] 30, .box b1 [.int .i64 x.qI, .slice zO x.qf.length zN, .slice jo x.qg.length jm] 25] _ := H
 refine qA (t_n (qo (qB ?_)))
 refine sw (zu [.int .i64 x.qI, .slice a10 x.qf.length c10, .slice a15 x.qg.length c15] Try.isAgg30 Try.sizeOf30 rfl (qH (H.cells 0 rfl) 0 3) ?_)
 refine sw (o_store H 1 rfl (.agg #[.int .i64 x.qI, .slice a10 x.qf.length c10, .slice a15 x.qg.length c15]) Try.sizeOf30 rfl rfl (by simp [Value.oneCell', Value.cells]) (Nat.le_of_ble_eq_true rfl) fun w17 H => ?_)
 replace H : St _ _ [.box b5 [.int .i64 x.qI, .slice a10 x.qf.length c10, .slice a15 x.qg.length c15] 30, .box b3 [.int .i64 x.qI, .slice a10 x.qf.length c10, .slice a15 x.qg.length c15] 30, .box b1 [.int .i64 x.qI, .slice zO x.qf.length zN, .slice jo x.qg.length jm] 25] _ := H
 refine qA (t_n (xE ?_))
 refine retC H 1 rfl rfl Try.isAgg30 Try.sizeOf30 rfl ⟨_, rfl, ?_, H.base⟩
 exact ⟨_, _, _, _, _, _, rfl, (H.get 1 rfl).1, (H.get 0 rfl).1, (Xl f10 f15), (Xj d10 d15 lt14 q15), (((H.get 1 rfl).2 rfl).app ((H.get 0 rfl).2 rfl))⟩

theorem Vt (w : World) (x : qQ) (vN : Option Addr) (vM : Nat) (Qr : List Nat) (jI : Option Addr) (jH : Nat) (Xo : List Nat) (zM : Option Addr) (zL : Nat) (yw : List Nat) (Xk : qW.rep w Qr [.slice vN x.qh.length vM] x.qh) (Vy : qW.rep w Xo [.slice jI x.qp.length jH] x.qp) (Qs : qW.rep w yw [.slice zM x.ql.length zL] x.ql) (p0 : tot x ≤ 2000000) : Calls Try.prog 15 #[.agg #[.slice vN x.qh.length vM, .slice jI x.qp.length jH, .slice zM x.ql.length zL]] w (Ret (fun v w' => New_StateD w w' v x) w) := by
 refine enter (n := 17) Try.func15 rfl Try.ntmps15 (Nat.le_of_ble_eq_true rfl) ?_
 have H := (((St.start w).arg Qs).arg Vy).arg Xk
 have nhxAlive := qN Xk
 have nhxBags := qN Vy
 have nhxAround := qN Qs
 clear Xk Vy Qs
 have p1 := tot_StateD x
 refine qo (qB ?_)
 refine sw (o_box H (.agg #[.slice vN x.qh.length vM, .slice jI x.qp.length jH, .slice zM x.ql.length zL]) rfl fun b1 w2 H => ?_)
 replace H : St _ _ [.box b1 [.slice vN x.qh.length vM, .slice jI x.qp.length jH, .slice zM x.ql.length zL] 39] _ := H
 refine sw (o_alloc H ti41 fun b3 w4 H => ?_)
 replace H : St _ _ [.box b3 [.slice none 0 0, .slice none 0 0, .slice none 0 0] 41, .box b1 [.slice vN x.qh.length vM, .slice jI x.qp.length jH, .slice zM x.ql.length zL] 39] _ := H
 refine qA (t_n (qo (qB ?_)))
 refine sw (o_alloc H ti41 fun b5 w6 H => ?_)
 replace H : St _ _ [.box b5 [.slice none 0 0, .slice none 0 0, .slice none 0 0] 41, .box b3 [.slice none 0 0, .slice none 0 0, .slice none 0 0] 41, .box b1 [.slice vN x.qh.length vM, .slice jI x.qp.length jH, .slice zM x.ql.length zL] 39] _ := H
 refine qA (t_n (qo (qB ?_)))
 refine sw (qO b1 (0) 0 Try.underlying39 rfl rfl Try.sizeOf36 rfl ?_)
 refine sw (qF (.slice vN x.qh.length vM) Try.isAgg36 rfl (H.cell 2 rfl rfl) ?_)
 have szx8 := H.base.size
 refine sw (xf #[.slice vN x.qh.length vM] rfl rfl Try.call39 (toBoolS_ok w6 x.qh vN vM Qr (H.get 0 rfl).1 (by first | omega | (have := p2 (by omega); omega))) ?_)
 rintro v9 w7 r9 x8
 obtain ⟨a9, c9, F9, rfl, f9, H⟩ := H.add_is x8 r9.isNew
 have d9 := f9.2
 have q9 := f9.1
 replace f9 : ∀ b ∈ F9, w.heap.size ≤ b := fun b hb => Nat.le_trans szx8 (f9.1 b hb)
 refine sw (qO b5 (0) 0 Try.underlying41 rfl rfl Try.sizeOf36 rfl ?_)
 refine sw (yS H 0 rfl (.slice a9 x.qh.length c9) Try.sizeOf36 rfl rfl rfl (Nat.le_of_ble_eq_true rfl) fun w10 H => ?_)
 replace H : St _ _ [.box b5 [.slice a9 x.qh.length c9, .slice none 0 0, .slice none 0 0] 41, .box b3 [.slice none 0 0, .slice none 0 0, .slice none 0 0] 41, .box b1 [.slice vN x.qh.length vM, .slice jI x.qp.length jH, .slice zM x.ql.length zL] 39] _ := H
 refine qA (t_n (qo (qB ?_)))
 refine sw (qO b1 (0) 1 Try.underlying39 rfl rfl Try.sizeOf37 rfl ?_)
 refine sw (qF (.slice jI x.qp.length jH) Try.isAgg37 rfl (H.cell 2 rfl rfl) ?_)
 have szx12 := H.base.size
 have lt13 := H.isLt 0 rfl
 refine sw (xf #[.slice jI x.qp.length jH] rfl rfl Try.call40 (toInt64SS_ok w10 x.qp jI jH Xo (H.get 2 rfl).1 (by first | omega | (have := p2 (by omega); omega))) ?_)
 rintro v14 w11 r14 x12
 obtain ⟨a14, c14, F14, rfl, f14, H⟩ := H.add_is x12 r14.isNew
 have d14 := f14.2
 have q14 := f14.1
 replace f14 : ∀ b ∈ F14, w.heap.size ≤ b := fun b hb => Nat.le_trans szx12 (f14.1 b hb)
 refine sw (qO b5 (0) 1 Try.underlying41 rfl rfl Try.sizeOf37 rfl ?_)
 refine sw (yS H 0 rfl (.slice a14 x.qp.length c14) Try.sizeOf37 rfl rfl rfl (Nat.le_of_ble_eq_true rfl) fun w15 H => ?_)
 replace H : St _ _ [.box b5 [.slice a9 x.qh.length c9, .slice a14 x.qp.length c14, .slice none 0 0] 41, .box b3 [.slice none 0 0, .slice none 0 0, .slice none 0 0] 41, .box b1 [.slice vN x.qh.length vM, .slice jI x.qp.length jH, .slice zM x.ql.length zL] 39] _ := H
 refine qA (t_n (qo (qB ?_)))
 refine sw (qO b1 (0) 2 Try.underlying39 rfl rfl Try.sizeOf22 rfl ?_)
 refine sw (qF (.slice zM x.ql.length zL) Try.isAgg22 rfl (H.cell 2 rfl rfl) ?_)
 have szx17 := H.base.size
 have lt18 := H.isLt 0 rfl
 have lt19 := H.isLt 1 rfl
 refine sw (xf #[.slice zM x.ql.length zL] rfl rfl Try.call9 (Xq w15 x.ql zM zL yw (H.get 4 rfl).1 (by first | omega | (have := p2 (by omega); omega))) ?_)
 rintro v20 w16 r20 x17
 obtain ⟨a20, c20, F20, rfl, f20, H⟩ := H.add_is x17 r20.isNew
 have d20 := f20.2
 have q20 := f20.1
 replace f20 : ∀ b ∈ F20, w.heap.size ≤ b := fun b hb => Nat.le_trans szx17 (f20.1 b hb)
 refine sw (qO b5 (0) 2 Try.underlying41 rfl rfl Try.sizeOf22 rfl ?_)
 refine sw (yS H 0 rfl (.slice a20 x.ql.length c20) Try.sizeOf22 rfl rfl rfl (Nat.le_of_ble_eq_true rfl) fun w21 H => ?_)
 replace H : St _ _ [.box b5 [.slice a9 x.qh.length c9, .slice a14 x.qp.length c14, .slice a20 x.ql.length c20] 41, .box b3 [.slice none 0 0, .slice none 0 0, .slice none 0 0] 41, .box b1 [.slice vN x.qh.length vM, .slice jI x.qp.length jH, .slice zM x.ql.length zL] 39] _ := H
 refine qA (t_n (qo (qB ?_)))
 refine sw (zu [.slice a9 x.qh.length c9, .slice a14 x.qp.length c14, .slice a20 x.ql.length c20] Try.isAgg41 Try.sizeOf41 rfl (qH (H.cells 0 rfl) 0 3) ?_)
 refine sw (o_store H 1 rfl (.agg #[.slice a9 x.qh.length c9, .slice a14 x.qp.length c14, .slice a20 x.ql.length c20]) Try.sizeOf41 rfl rfl (by simp [Value.oneCell', Value.cells]) (Nat.le_of_ble_eq_true rfl) fun w22 H => ?_)
 replace H : St _ _ [.box b5 [.slice a9 x.qh.length c9, .slice a14 x.qp.length c14, .slice a20 x.ql.length c20] 41, .box b3 [.slice a9 x.qh.length c9, .slice a14 x.qp.length c14, .slice a20 x.ql.length c20] 41, .box b1 [.slice vN x.qh.length vM, .slice jI x.qp.length jH, .slice zM x.ql.length zL] 39] _ := H
 refine qA (t_n (xE ?_))
 refine retC H 1 rfl rfl Try.isAgg41 Try.sizeOf41 rfl ⟨_, rfl, ?_, H.base⟩
 exact ⟨_, _, _, _, _, _, _, _, _, rfl, (H.get 2 rfl).1, (H.get 1 rfl).1, (H.get 0 rfl).1, (Xl (Xl f9 f14) f20), (Xj (Xj d9 d14 lt13 q14) d20 (Vd lt19 lt18) q20), ((((H.get 2 rfl).2 rfl).app ((H.get 1 rfl).2 rfl)).app ((H.get 0 rfl).2 rfl))⟩

theorem Xb (w : World) (x : List Int) (y : List Int) (ax : Option Addr) (cx : Nat) (Fx : List Nat) (ay : Option Addr) (cy : Nat) (Fy : List Nat) (hx : qW.rep w Fx [.slice ax x.length cx] x) (hy : qW.rep w Fy [.slice ay y.length cy] y) : Calls Try.prog 12 #[.slice ax x.length cx, .slice ay y.length cy] w (Ret (fun v w' => v = .bool (decide (x = y))) w) := by
 refine enter (n := 26) Try.func12 rfl Try.ntmps12 (Nat.le_of_ble_eq_true rfl) ?_
 have H := ((St.start w).arg hy).arg hx
 have nhx := qN hx
 have nhy := qN hy
 clear hx hy
 refine qo (qB ?_)
 refine sp (.bool false) ?_
 refine qA (t_n (qo (qo (qB ?_))))
 refine sp (.slice ax x.length cx) ?_
 refine sw (vI Try.underlying22 ax x.length cx rfl ?_)
 refine sp (.slice ay y.length cy) ?_
 refine sw (vI Try.underlying22 ay y.length cy rfl ?_)
 refine sp (.bool ((x.length : Int) != y.length)) ?_
 refine qA (t_n ?_)
 refine qX ((x.length : Int) != y.length) rfl (fun h1 => ?_) (fun h1 => ?_)
 ·skip
  replace h1 := bne_iff_ne.1 h1
  refine qo (qB ?_)
  refine sp (.bool false) ?_
  refine qA (t_n (xE (t_r ?_)))
  refine ret1 (.bool false) rfl rfl ⟨_, rfl, ?_, H.base⟩
  first | rw [decide_eq_false (fun e => by subst e; omega)] | rw [decide_eq_false (Qb (k := k) ‹_›)] | rw [decide_eq_true (yx (k := k) (by omega) (by omega) ‹_›)]
 replace h1 := xP h1
 refine xy (t_n (qo (qo (qB ?_))))
 refine sp (.int .i64 0) ?_
 refine qA (t_n (xC ?_))
 refine vw (fun m' ρ w2 => ∃ (junk : Env) (k : Nat), ρ = upd (upd (upd junk 0 (.slice ax x.length cx)) 1 (.slice ay y.length cy)) 5 (.int .i64 k) ∧ (k ≤ x.length) ∧ (x.take k = y.take k) ∧ m' = x.length - k ∧ St w w2 [] [isF false Fx (.slice ax x.length cx) x, isF false Fy (.slice ay y.length cy) y]) (x.length - 0) ⟨_, 0, (by exact qj (qj (qj (rfl) rfl) rfl) rfl), (by omega), (by rfl), rfl, H⟩ ?_
 clear H
 rintro m' ρ w3 ⟨junk, k, rfl, i0, i1, rfl, H⟩
 refine qo (qo (qB ?_))
 refine sps [.int .i64 k, .slice ax x.length cx] ?_
 refine sw (vI Try.underlying22 ax x.length cx rfl ?_)
 refine sp (.bool (decide ((k : Int) < x.length))) ?_
 refine qA (t_n ?_)
 refine qX (decide ((k : Int) < x.length)) rfl (fun h4 => ?_) (fun h4 => ?_)
 ·skip
  replace h4 := of_decide_eq_true h4
  refine xy (t_n (qo (xC (qo ?_))))
  refine yg rfl H fun H => ?_
  refine rtp 0 (.slice ax x.length cx) H ?_
  refine rtp 1 (.int .i64 k) H ?_
  obtain ⟨b6, o7, rfl⟩ := H.addr 0 rfl (by omega)
  refine rt 2 (pp b6 (o7 + (k : Int).toNat * 1)) (xK b6 (o7) x.length cx k Try.underlying22 ti2 rfl rfl (by omega) (by omega)) H ?_
  refine rt 3 (.int .i64 (x[k]!)) (xm Try.isAgg2 rfl (fun _ h => h.vX 0 rfl k (by omega) (by omega))) H ?_
  refine rtp 4 (.slice ay y.length cy) H ?_
  refine rtp 5 (.int .i64 k) H ?_
  obtain ⟨b8, o9, rfl⟩ := H.addr 1 rfl (by omega)
  refine rt 6 (pp b8 (o9 + (k : Int).toNat * 1)) (xK b8 (o9) y.length cy k Try.underlying22 ti2 rfl rfl (by omega) (by omega)) H ?_
  refine rt 7 (.int .i64 (y[k]!)) (xm Try.isAgg2 rfl (fun _ h => h.vX 1 rfl k (by omega) (by omega))) H ?_
  refine rtp 8 (.bool ((x[k]! : Int) != (y[k]!))) H ?_
  refine xM (by kernel_rfl) (t_n ?_)
  refine qX ((x[k]! : Int) != (y[k]!)) rfl (fun h10 => ?_) (fun h10 => ?_)
  ·skip
   replace h10 := bne_iff_ne.1 h10
   refine qo (qB ?_)
   refine sp (.bool false) ?_
   refine qA (t_n (xE (b_r (t_r (t_r (b_r (t_r ?_)))))))
   refine ret1 (.bool false) rfl rfl ⟨_, rfl, ?_, H.base⟩
   first | rw [decide_eq_false (fun e => by subst e; omega)] | rw [decide_eq_false (Qb (k := k) ‹_›)] | rw [decide_eq_true (yx (k := k) (by omega) (by omega) ‹_›)]
  replace h10 := xP h10
  refine xy (b_n (t_n (qB ?_)))
  refine sp (.int .i64 k) ?_
  refine sw (vz k 1 rfl rfl (by omega) ?_)
  refine sp (.int .i64 (k + 1)) ?_
  refine qA ?_
  refine xH (m' := x.length - (k + 1)) (by omega) ⟨_, k + 1, (by exact qj (qj (qj (rfl) rfl) rfl) rfl), ?_, ?_, rfl, H⟩
  · omega
  · exact eqTo_succ (by omega) (by omega) ‹_› (by first | assumption | omega)
 replace h4 := of_decide_eq_false h4
 refine ve (t_x (t_x (b_x (t_n (qo (qB ?_))))))
 refine sp (.bool true) ?_
 refine qA (t_n (xE ?_))
 refine ret1 (.bool true) rfl rfl ⟨_, rfl, ?_, H.base⟩
 first | rw [decide_eq_false (fun e => by subst e; omega)] | rw [decide_eq_false (Qb (k := k) ‹_›)] | rw [decide_eq_true (yx (k := k) (by omega) (by omega) ‹_›)]

theorem eqBoolS_ok (w : World) (x : List Bool) (y : List Bool) (ax : Option Addr) (cx : Nat) (Fx : List Nat) (ay : Option Addr) (cy : Nat) (Fy : List Nat) (hx : qW.rep w Fx [.slice ax x.length cx] x) (hy : qW.rep w Fy [.slice ay y.length cy] y) : Calls Try.prog 45 #[.slice ax x.length cx, .slice ay y.length cy] w (Ret (fun v w' => v = .bool (decide (x = y))) w) := by
 refine enter (n := 26) Try.func45 rfl Try.ntmps45 (Nat.le_of_ble_eq_true rfl) ?_
 have H := ((St.start w).arg hy).arg hx
 have nhx := qN hx
 have nhy := qN hy
 clear hx hy
 refine qo (qB ?_)
 refine sp (.bool false) ?_
 refine qA (t_n (qo (qo (qB ?_))))
 refine sp (.slice ax x.length cx) ?_
 refine sw (vI Try.underlying36 ax x.length cx rfl ?_)
 refine sp (.slice ay y.length cy) ?_
 refine sw (vI Try.underlying36 ay y.length cy rfl ?_)
 refine sp (.bool ((x.length : Int) != y.length)) ?_
 refine qA (t_n ?_)
 refine qX ((x.length : Int) != y.length) rfl (fun h1 => ?_) (fun h1 => ?_)
 ·skip
  replace h1 := bne_iff_ne.1 h1
  refine qo (qB ?_)
  refine sp (.bool false) ?_
  refine qA (t_n (xE (t_r ?_)))
  refine ret1 (.bool false) rfl rfl ⟨_, rfl, ?_, H.base⟩
  first | rw [decide_eq_false (fun e => by subst e; omega)] | rw [decide_eq_false (Qb (k := k) ‹_›)] | rw [decide_eq_true (yx (k := k) (by omega) (by omega) ‹_›)]
 replace h1 := xP h1
 refine xy (t_n (qo (qo (qB ?_))))
 refine sp (.int .i64 0) ?_
 refine qA (t_n (xC ?_))
 refine vw (fun m' ρ w2 => ∃ (junk : Env) (k : Nat), ρ = upd (upd (upd junk 0 (.slice ax x.length cx)) 1 (.slice ay y.length cy)) 5 (.int .i64 k) ∧ (k ≤ x.length) ∧ (x.take k = y.take k) ∧ m' = x.length - k ∧ St w w2 [] [isF false Fx (.slice ax x.length cx) x, isF false Fy (.slice ay y.length cy) y]) (x.length - 0) ⟨_, 0, (by exact qj (qj (qj (rfl) rfl) rfl) rfl), (by omega), (by rfl), rfl, H⟩ ?_
 clear H
 rintro m' ρ w3 ⟨junk, k, rfl, i0, i1, rfl, H⟩
 refine qo (qo (qB ?_))
 refine sps [.int .i64 k, .slice ax x.length cx] ?_
 refine sw (vI Try.underlying36 ax x.length cx rfl ?_)
 refine sp (.bool (decide ((k : Int) < x.length))) ?_
 refine qA (t_n ?_)
 refine qX (decide ((k : Int) < x.length)) rfl (fun h4 => ?_) (fun h4 => ?_)
 ·skip
  replace h4 := of_decide_eq_true h4
  refine xy (t_n (qo (xC (qo ?_))))
  refine yg rfl H fun H => ?_
  refine rtp 0 (.slice ax x.length cx) H ?_
  refine rtp 1 (.int .i64 k) H ?_
  obtain ⟨b6, o7, rfl⟩ := H.addr 0 rfl (by omega)
  refine rt 2 (pp b6 (o7 + (k : Int).toNat * 1)) (xK b6 (o7) x.length cx k Try.underlying36 ti4 rfl rfl (by omega) (by omega)) H ?_
  refine rt 3 (.bool (x[k]!)) (xm Try.isAgg4 rfl (fun _ h => h.Xd 0 rfl k (by omega) (by omega))) H ?_
  refine rtp 4 (.slice ay y.length cy) H ?_
  refine rtp 5 (.int .i64 k) H ?_
  obtain ⟨b8, o9, rfl⟩ := H.addr 1 rfl (by omega)
  refine rt 6 (pp b8 (o9 + (k : Int).toNat * 1)) (xK b8 (o9) y.length cy k Try.underlying36 ti4 rfl rfl (by omega) (by omega)) H ?_
  refine rt 7 (.bool (y[k]!)) (xm Try.isAgg4 rfl (fun _ h => h.Xd 1 rfl k (by omega) (by omega))) H ?_
  refine rt 8 (.bool ((x[k]!) != (y[k]!))) (y_neB Try.underlying4 (x[k]!) (y[k]!) rfl rfl) H ?_
  refine xM (by kernel_rfl) (t_n ?_)
  refine qX ((x[k]!) != (y[k]!)) rfl (fun h10 => ?_) (fun h10 => ?_)
  ·skip
   replace h10 := bne_iff_ne.1 h10
   refine qo (qB ?_)
   refine sp (.bool false) ?_
   refine qA (t_n (xE (b_r (t_r (t_r (b_r (t_r ?_)))))))
   refine ret1 (.bool false) rfl rfl ⟨_, rfl, ?_, H.base⟩
   first | rw [decide_eq_false (fun e => by subst e; omega)] | rw [decide_eq_false (Qb (k := k) ‹_›)] | rw [decide_eq_true (yx (k := k) (by omega) (by omega) ‹_›)]
  replace h10 := xP h10
  refine xy (b_n (t_n (qB ?_)))
  refine sp (.int .i64 k) ?_
  refine sw (vz k 1 rfl rfl (by omega) ?_)
  refine sp (.int .i64 (k + 1)) ?_
  refine qA ?_
  refine xH (m' := x.length - (k + 1)) (by omega) ⟨_, k + 1, (by exact qj (qj (qj (rfl) rfl) rfl) rfl), ?_, ?_, rfl, H⟩
  · omega
  · exact eqTo_succ (by omega) (by omega) ‹_› (by first | assumption | omega)
 replace h4 := of_decide_eq_false h4
 refine ve (t_x (t_x (b_x (t_n (qo (qB ?_))))))
 refine sp (.bool true) ?_
 refine qA (t_n (xE ?_))
 refine ret1 (.bool true) rfl rfl ⟨_, rfl, ?_, H.base⟩
 first | rw [decide_eq_false (fun e => by subst e; omega)] | rw [decide_eq_false (Qb (k := k) ‹_›)] | rw [decide_eq_true (yx (k := k) (by omega) (by omega) ‹_›)]

theorem eqInt64SS_ok (w : World) (x : List (List Int)) (y : List (List Int)) (ax : Option Addr) (cx : Nat) (Fx : List Nat) (ay : Option Addr) (cy : Nat) (Fy : List Nat) (hx : qW.rep w Fx [.slice ax x.length cx] x) (hy : qW.rep w Fy [.slice ay y.length cy] y) : Calls Try.prog 46 #[.slice ax x.length cx, .slice ay y.length cy] w (Ret (fun v w' => v = .bool (decide (x = y))) w) := by
 refine enter (n := 27) Try.func46 rfl Try.ntmps46 (Nat.le_of_ble_eq_true rfl) ?_
 have H := ((St.start w).arg hy).arg hx
 have nhx := qN hx
 have nhy := qN hy
 clear hx hy
 refine qo (qB ?_)
 refine sp (.bool false) ?_
 refine qA (t_n (qo (qo (qB ?_))))
 refine sp (.slice ax x.length cx) ?_
 refine sw (vI Try.underlying37 ax x.length cx rfl ?_)
 refine sp (.slice ay y.length cy) ?_
 refine sw (vI Try.underlying37 ay y.length cy rfl ?_)
 refine sp (.bool ((x.length : Int) != y.length)) ?_
 refine qA (t_n ?_)
 refine qX ((x.length : Int) != y.length) rfl (fun h1 => ?_) (fun h1 => ?_)
 ·skip
  replace h1 := bne_iff_ne.1 h1
  refine qo (qB ?_)
  refine sp (.bool false) ?_
  refine qA (t_n (xE (t_r ?_)))
  refine ret1 (.bool false) rfl rfl ⟨_, rfl, ?_, H.base⟩
  first | rw [decide_eq_false (fun e => by subst e; omega)] | rw [decide_eq_false (Qb (k := k) ‹_›)] | rw [decide_eq_true (yx (k := k) (by omega) (by omega) ‹_›)]
 replace h1 := xP h1
 refine xy (t_n (qo (qo (qB ?_))))
 refine sp (.int .i64 0) ?_
 refine qA (t_n (xC ?_))
 refine vw (fun m' ρ w2 => ∃ (junk : Env) (k : Nat), ρ = upd (upd (upd junk 0 (.slice ax x.length cx)) 1 (.slice ay y.length cy)) 5 (.int .i64 k) ∧ (k ≤ x.length) ∧ (x.take k = y.take k) ∧ m' = x.length - k ∧ St w w2 [] [isF false Fx (.slice ax x.length cx) x, isF false Fy (.slice ay y.length cy) y]) (x.length - 0) ⟨_, 0, (by exact qj (qj (qj (rfl) rfl) rfl) rfl), (by omega), (by rfl), rfl, H⟩ ?_
 clear H
 rintro m' ρ w3 ⟨junk, k, rfl, i0, i1, rfl, H⟩
 refine qo (qo (qB ?_))
 refine sps [.int .i64 k, .slice ax x.length cx] ?_
 refine sw (vI Try.underlying37 ax x.length cx rfl ?_)
 refine sp (.bool (decide ((k : Int) < x.length))) ?_
 refine qA (t_n ?_)
 refine qX (decide ((k : Int) < x.length)) rfl (fun h4 => ?_) (fun h4 => ?_)
 ·skip
  replace h4 := of_decide_eq_true h4
  refine xy (t_n (qo (xC (qo ?_))))
  refine yg rfl H fun H => ?_
  refine rtp 0 (.slice ax x.length cx) H ?_
  refine rtp 1 (.int .i64 k) H ?_
  obtain ⟨b6, o7, rfl⟩ := H.addr 0 rfl (by omega)
  obtain ⟨ae8, ce8, Fe8, H⟩ := H.yY 0 rfl k k (by omega) (by omega) (by omega)
  refine rt 2 (pp b6 (o7 + (k : Int).toNat * 1)) (xK b6 (o7) x.length cx k Try.underlying37 ti22 rfl rfl (by omega) (by omega)) (H.sel _ (.refl _) _ (fun _ h => List.mem_cons_of_mem _ (List.mem_cons_of_mem _ (h)))) ?_
  refine rtp 4 (.slice ay y.length cy) (H.sel _ (.refl _) _ (fun _ h => List.mem_cons_of_mem _ (List.mem_cons_of_mem _ (h)))) ?_
  refine rtp 5 (.int .i64 k) (H.sel _ (.refl _) _ (fun _ h => List.mem_cons_of_mem _ (List.mem_cons_of_mem _ (h)))) ?_
  obtain ⟨b9, o10, rfl⟩ := H.addr 3 rfl (by omega)
  obtain ⟨ae11, ce11, Fe11, H⟩ := H.yY 3 rfl k k (by omega) (by omega) (by omega)
  refine rt 6 (pp b9 (o10 + (k : Int).toNat * 1)) (xK b9 (o10) y.length cy k Try.underlying37 ti22 rfl rfl (by omega) (by omega)) (H.sel _ (.refl _) _ (fun _ h => List.mem_cons_of_mem _ (List.mem_cons_of_mem _ (List.mem_cons_of_mem _ (List.mem_cons_of_mem _ (h)))))) ?_
  refine xn [3, 7] (by kernel_rfl) (by simp) (zg rfl ?_ (zg rfl ?_ xq))
  ·skip
   refine qF (.slice ae8 ((x[k]!).length) ce8) Try.isAgg22 rfl (H.zh 3 rfl 0 rfl) ?_
   refine ⟨H.sel _ (.refl _) _ (fun _ h => List.mem_cons_of_mem _ (List.mem_cons_of_mem _ (List.mem_cons_of_mem _ (List.mem_cons_of_mem _ (h))))), ?_⟩
   refine xn [7] (by kernel_rfl) (by simp) (zg rfl ?_ xq)
   refine qF (.slice ae11 ((y[k]!).length) ce11) Try.isAgg22 rfl (H.zh 1 rfl 0 rfl) ?_
   refine ⟨H.sel _ (.refl _) _ (fun _ h => List.mem_cons_of_mem _ (List.mem_cons_of_mem _ (List.mem_cons_of_mem _ (List.mem_cons_of_mem _ (h))))), ?_⟩
   refine xn [8] (by kernel_rfl) (by simp) (zg rfl ?_ xq)
   refine xf #[.slice ae8 ((x[k]!).length) ce8, .slice ae11 ((y[k]!).length) ce11] rfl rfl Try.call12 (Xb w3.drew (x[k]!) (y[k]!) ae8 ce8 Fe8 ae11 ce11 Fe11 (H.get 2 rfl).1 (H.get 0 rfl).1) ?_
   rintro _ w12 rfl x13
   replace H := H.ext x13
   refine ⟨H.sel _ (.refl _) _ (fun _ h => List.mem_cons_of_mem _ (List.mem_cons_of_mem _ (List.mem_cons_of_mem _ (List.mem_cons_of_mem _ (h))))), ?_⟩
   refine rtp 9 (.bool (!(decide ((x[k]!) = (y[k]!))))) (H.sel _ (.refl _) _ (fun _ h => List.mem_cons_of_mem _ (List.mem_cons_of_mem _ (List.mem_cons_of_mem _ (List.mem_cons_of_mem _ (h)))))) ?_
   refine xM (by kernel_rfl) (t_n ?_)
   refine qX (!(decide ((x[k]!) = (y[k]!)))) rfl (fun h14 => ?_) (fun h14 => ?_)
   ·skip
    replace h14 := xh h14
    replace h14 := of_decide_eq_false h14
    refine qo (qB ?_)
    refine sp (.bool false) ?_
    refine qA (t_n (xE (b_r (t_r (t_r (b_r (t_r ?_)))))))
    refine ret1 (.bool false) rfl rfl ⟨_, rfl, ?_, H.base⟩
    first | rw [decide_eq_false (fun e => by subst e; omega)] | rw [decide_eq_false (Qb (k := k) ‹_›)] | rw [decide_eq_true (yx (k := k) (by omega) (by omega) ‹_›)]
   replace h14 := qY h14
   replace h14 := of_decide_eq_true h14
   refine xy (b_n (t_n (qB ?_)))
   refine sp (.int .i64 k) ?_
   refine sw (vz k 1 rfl rfl (by omega) ?_)
   refine sp (.int .i64 (k + 1)) ?_
   refine qA ?_
   refine xH (m' := x.length - (k + 1)) (by omega) ⟨_, k + 1, (by exact qj (qj (qj (rfl) rfl) rfl) rfl), ?_, ?_, rfl, H.sel _ (.refl _) _ (by simp)⟩
   · omega
   · exact eqTo_succ (by omega) (by omega) ‹_› (by first | assumption | omega)
  refine qF (.slice ae11 ((y[k]!).length) ce11) Try.isAgg22 rfl (H.zh 1 rfl 0 rfl) ?_
  refine ⟨H.sel _ (.refl _) _ (fun _ h => List.mem_cons_of_mem _ (List.mem_cons_of_mem _ (List.mem_cons_of_mem _ (List.mem_cons_of_mem _ (h))))), ?_⟩
  refine xn [3] (by kernel_rfl) (by simp) (zg rfl ?_ xq)
  refine qF (.slice ae8 ((x[k]!).length) ce8) Try.isAgg22 rfl (H.zh 3 rfl 0 rfl) ?_
  refine ⟨H.sel _ (.refl _) _ (fun _ h => List.mem_cons_of_mem _ (List.mem_cons_of_mem _ (List.mem_cons_of_mem _ (List.mem_cons_of_mem _ (h))))), ?_⟩
  refine xn [8] (by kernel_rfl) (by simp) (zg rfl ?_ xq)
  refine xf #[.slice ae8 ((x[k]!).length) ce8, .slice ae11 ((y[k]!).length) ce11] rfl rfl Try.call12 (Xb w3.drew (x[k]!) (y[k]!) ae8 ce8 Fe8 ae11 ce11 Fe11 (H.get 2 rfl).1 (H.get 0 rfl).1) ?_
  rintro _ w15 rfl x16
  replace H := H.ext x16
  refine ⟨H.sel _ (.refl _) _ (fun _ h => List.mem_cons_of_mem _ (List.mem_cons_of_mem _ (List.mem_cons_of_mem _ (List.mem_cons_of_mem _ (h))))), ?_⟩
  refine rtp 9 (.bool (!(decide ((x[k]!) = (y[k]!))))) (H.sel _ (.refl _) _ (fun _ h => List.mem_cons_of_mem _ (List.mem_cons_of_mem _ (List.mem_cons_of_mem _ (List.mem_cons_of_mem _ (h)))))) ?_
  refine xM (by kernel_rfl) (t_n ?_)
  refine qX (!(decide ((x[k]!) = (y[k]!)))) rfl (fun h17 => ?_) (fun h17 => ?_)
  ·skip
   replace h17 := xh h17
   replace h17 := of_decide_eq_false h17
   refine qo (qB ?_)
   refine sp (.bool false) ?_
   refine qA (t_n (xE (b_r (t_r (t_r (b_r (t_r ?_)))))))
   refine ret1 (.bool false) rfl rfl ⟨_, rfl, ?_, H.base⟩
   first | rw [decide_eq_false (fun e => by subst e; omega)] | rw [decide_eq_false (Qb (k := k) ‹_›)] | rw [decide_eq_true (yx (k := k) (by omega) (by omega) ‹_›)]
  replace h17 := qY h17
  replace h17 := of_decide_eq_true h17
  refine xy (b_n (t_n (qB ?_)))
  refine sp (.int .i64 k) ?_
  refine sw (vz k 1 rfl rfl (by omega) ?_)
  refine sp (.int .i64 (k + 1)) ?_
  refine qA ?_
  refine xH (m' := x.length - (k + 1)) (by omega) ⟨_, k + 1, (by exact qj (qj (qj (rfl) rfl) rfl) rfl), ?_, ?_, rfl, H.sel _ (.refl _) _ (by simp)⟩
  · omega
  · exact eqTo_succ (by omega) (by omega) ‹_› (by first | assumption | omega)
 replace h4 := of_decide_eq_false h4
 refine ve (t_x (t_x (b_x (t_n (qo (qB ?_))))))
 refine sp (.bool true) ?_
 refine qA (t_n (xE ?_))
 refine ret1 (.bool true) rfl rfl ⟨_, rfl, ?_, H.base⟩
 first | rw [decide_eq_false (fun e => by subst e; omega)] | rw [decide_eq_false (Qb (k := k) ‹_›)] | rw [decide_eq_true (yx (k := k) (by omega) (by omega) ‹_›)]

theorem eqInto_ok (w : World) (x : IntoD) (y : IntoD) (axBag : Option Addr) (cxBag : Nat) (FxBag : List Nat) (ayBag : Option Addr) (cyBag : Nat) (FyBag : List Nat) (hxBag : qW.rep w FxBag [.slice axBag x.vK.length cxBag] x.vK) (hyBag : qW.rep w FyBag [.slice ayBag y.vK.length cyBag] y.vK) : Calls Try.prog 119 #[.agg #[.int .i64 x.qy, .slice axBag x.vK.length cxBag], .agg #[.int .i64 y.qy, .slice ayBag y.vK.length cyBag]] w (Ret (fun v w' => v = .bool (decide (x = y))) w) := by
 refine enter (n := 16) Try.func119 rfl Try.ntmps119 (Nat.le_of_ble_eq_true rfl) ?_
 have H := ((St.start w).arg hyBag).arg hxBag
 have nhxBag := qN hxBag
 have nhyBag := qN hyBag
 clear hxBag hyBag
 refine qo (qB ?_)
 refine sw (o_box H (.agg #[.int .i64 x.qy, .slice axBag x.vK.length cxBag]) rfl fun b1 w2 H => ?_)
 replace H : St _ _ [.box b1 [.int .i64 x.qy, .slice axBag x.vK.length cxBag] 108] _ := H
 refine sw (o_box H (.agg #[.int .i64 y.qy, .slice ayBag y.vK.length cyBag]) rfl fun b3 w4 H => ?_)
 replace H : St _ _ [.box b3 [.int .i64 y.qy, .slice ayBag y.vK.length cyBag] 108, .box b1 [.int .i64 x.qy, .slice axBag x.vK.length cxBag] 108] _ := H
 refine sp (.bool false) ?_
 refine qA (t_n (qo (qo (qB ?_))))
 refine sw (qO b1 (0) 0 Try.underlying108 rfl rfl Try.sizeOf2 rfl ?_)
 refine sw (qF (.int .i64 x.qy) Try.isAgg2 rfl (H.cell 1 rfl rfl) ?_)
 refine sw (qO b3 (0) 0 Try.underlying108 rfl rfl Try.sizeOf2 rfl ?_)
 refine sw (qF (.int .i64 y.qy) Try.isAgg2 rfl (H.cell 0 rfl rfl) ?_)
 refine sp (.bool ((x.qy : Int) != y.qy)) ?_
 refine qA (t_n ?_)
 refine qX ((x.qy : Int) != y.qy) rfl (fun h5 => ?_) (fun h5 => ?_)
 ·skip
  replace h5 := bne_iff_ne.1 h5
  refine qo (qB ?_)
  refine sp (.bool false) ?_
  refine qA (t_n (xE (t_r ?_)))
  refine ret1 (.bool false) rfl rfl ⟨_, rfl, ?_, H.base⟩
  rw [decide_eq_false (fun e => by subst e; simp_all)]
 replace h5 := xP h5
 refine xy (t_n (qo (qo (qB ?_))))
 refine sw (qO b1 (0) 1 Try.underlying108 rfl rfl Try.sizeOf22 rfl ?_)
 refine sw (qF (.slice axBag x.vK.length cxBag) Try.isAgg22 rfl (H.cell 1 rfl rfl) ?_)
 refine sw (qO b3 (0) 1 Try.underlying108 rfl rfl Try.sizeOf22 rfl ?_)
 refine sw (qF (.slice ayBag y.vK.length cyBag) Try.isAgg22 rfl (H.cell 0 rfl rfl) ?_)
 refine sw (xf #[.slice axBag x.vK.length cxBag, .slice ayBag y.vK.length cyBag] rfl rfl Try.call12 (Xb w4 x.vK y.vK axBag cxBag FxBag ayBag cyBag FyBag (H.get 0 rfl).1 (H.get 1 rfl).1) ?_)
 rintro _ w6 rfl x7
 replace H := H.ext x7
 refine sp (.bool (!(decide (x.vK = y.vK)))) ?_
 refine qA (t_n ?_)
 refine qX (!(decide (x.vK = y.vK))) rfl (fun h8 => ?_) (fun h8 => ?_)
 ·skip
  replace h8 := xh h8
  replace h8 := of_decide_eq_false h8
  refine qo (qB ?_)
  refine sp (.bool false) ?_
  refine qA (t_n (xE (t_r ?_)))
  refine ret1 (.bool false) rfl rfl ⟨_, rfl, ?_, H.base⟩
  rw [decide_eq_false (fun e => by subst e; simp_all)]
 replace h8 := qY h8
 replace h8 := of_decide_eq_true h8
 refine xy (t_n (qo (qB ?_)))
 refine sp (.bool true) ?_
 refine qA (t_n (xE ?_))
 refine ret1 (.bool true) rfl rfl ⟨_, rfl, ?_, H.base⟩
 rw [decide_eq_true (by cases x; cases y; simp_all)]

theorem eqIntoS_ok (w : World) (x : List IntoD) (y : List IntoD) (ax : Option Addr) (cx : Nat) (Fx : List Nat) (ay : Option Addr) (cy : Nat) (Fy : List Nat) (hx : qW.rep w Fx [.slice ax x.length cx] x) (hy : qW.rep w Fy [.slice ay y.length cy] y) : Calls Try.prog 104 #[.slice ax x.length cx, .slice ay y.length cy] w (Ret (fun v w' => v = .bool (decide (x = y))) w) := by
 refine enter (n := 27) Try.func104 rfl Try.ntmps104 (Nat.le_of_ble_eq_true rfl) ?_
 have H := ((St.start w).arg hy).arg hx
 have nhx := qN hx
 have nhy := qN hy
 clear hx hy
 refine qo (qB ?_)
 refine sp (.bool false) ?_
 refine qA (t_n (qo (qo (qB ?_))))
 refine sp (.slice ax x.length cx) ?_
 refine sw (vI Try.underlying90 ax x.length cx rfl ?_)
 refine sp (.slice ay y.length cy) ?_
 refine sw (vI Try.underlying90 ay y.length cy rfl ?_)
 refine sp (.bool ((x.length : Int) != y.length)) ?_
 refine qA (t_n ?_)
 refine qX ((x.length : Int) != y.length) rfl (fun h1 => ?_) (fun h1 => ?_)
 ·skip
  replace h1 := bne_iff_ne.1 h1
  refine qo (qB ?_)
  refine sp (.bool false) ?_
  refine qA (t_n (xE (t_r ?_)))
  refine ret1 (.bool false) rfl rfl ⟨_, rfl, ?_, H.base⟩
  first | rw [decide_eq_false (fun e => by subst e; omega)] | rw [decide_eq_false (Qb (k := k) ‹_›)] | rw [decide_eq_true (yx (k := k) (by omega) (by omega) ‹_›)]
 replace h1 := xP h1
 refine xy (t_n (qo (qo (qB ?_))))
 refine sp (.int .i64 0) ?_
 refine qA (t_n (xC ?_))
 refine vw (fun m' ρ w2 => ∃ (junk : Env) (k : Nat), ρ = upd (upd (upd junk 0 (.slice ax x.length cx)) 1 (.slice ay y.length cy)) 5 (.int .i64 k) ∧ (k ≤ x.length) ∧ (x.take k = y.take k) ∧ m' = x.length - k ∧ St w w2 [] [isF false Fx (.slice ax x.length cx) x, isF false Fy (.slice ay y.length cy) y]) (x.length - 0) ⟨_, 0, (by exact qj (qj (qj (rfl) rfl) rfl) rfl), (by omega), (by rfl), rfl, H⟩ ?_
 clear H
 rintro m' ρ w3 ⟨junk, k, rfl, i0, i1, rfl, H⟩
 refine qo (qo (qB ?_))
 refine sps [.int .i64 k, .slice ax x.length cx] ?_
 refine sw (vI Try.underlying90 ax x.length cx rfl ?_)
 refine sp (.bool (decide ((k : Int) < x.length))) ?_
 refine qA (t_n ?_)
 refine qX (decide ((k : Int) < x.length)) rfl (fun h4 => ?_) (fun h4 => ?_)
 ·skip
  replace h4 := of_decide_eq_true h4
  refine xy (t_n (qo (xC (qo ?_))))
  refine yg rfl H fun H => ?_
  refine rtp 0 (.slice ax x.length cx) H ?_
  refine rtp 1 (.int .i64 k) H ?_
  obtain ⟨b6, o7, rfl⟩ := H.addr 0 rfl (by omega)
  obtain ⟨ae8Bag, ce8Bag, Fe8Bag, H⟩ := H.jQ 0 rfl k k (by omega) (by omega) (by omega)
  refine rt 2 (pp b6 (o7 + (k : Int).toNat * 2)) (xK b6 (o7) x.length cx k Try.underlying90 ti108 rfl rfl (by omega) (by omega)) (H.sel _ (.refl _) _ (fun _ h => List.mem_cons_of_mem _ (List.mem_cons_of_mem _ (h)))) ?_
  refine rtp 4 (.slice ay y.length cy) (H.sel _ (.refl _) _ (fun _ h => List.mem_cons_of_mem _ (List.mem_cons_of_mem _ (h)))) ?_
  refine rtp 5 (.int .i64 k) (H.sel _ (.refl _) _ (fun _ h => List.mem_cons_of_mem _ (List.mem_cons_of_mem _ (h)))) ?_
  obtain ⟨b9, o10, rfl⟩ := H.addr 3 rfl (by omega)
  obtain ⟨ae11Bag, ce11Bag, Fe11Bag, H⟩ := H.jQ 3 rfl k k (by omega) (by omega) (by omega)
  refine rt 6 (pp b9 (o10 + (k : Int).toNat * 2)) (xK b9 (o10) y.length cy k Try.underlying90 ti108 rfl rfl (by omega) (by omega)) (H.sel _ (.refl _) _ (fun _ h => List.mem_cons_of_mem _ (List.mem_cons_of_mem _ (List.mem_cons_of_mem _ (List.mem_cons_of_mem _ (h)))))) ?_
  refine xn [3, 7] (by kernel_rfl) (by simp) (zg rfl ?_ (zg rfl ?_ xq))
  ·skip
   refine zu [.int .i64 ((x[k]!).qy), .slice ae8Bag (((x[k]!).vK).length) ce8Bag] Try.isAgg108 Try.sizeOf108 rfl (qH (H.get 3 rfl) 0 2) ?_
   refine ⟨H.sel _ (.refl _) _ (fun _ h => List.mem_cons_of_mem _ (List.mem_cons_of_mem _ (List.mem_cons_of_mem _ (List.mem_cons_of_mem _ (h))))), ?_⟩
   refine xn [7] (by kernel_rfl) (by simp) (zg rfl ?_ xq)
   refine zu [.int .i64 ((y[k]!).qy), .slice ae11Bag (((y[k]!).vK).length) ce11Bag] Try.isAgg108 Try.sizeOf108 rfl (qH (H.get 1 rfl) 0 2) ?_
   refine ⟨H.sel _ (.refl _) _ (fun _ h => List.mem_cons_of_mem _ (List.mem_cons_of_mem _ (List.mem_cons_of_mem _ (List.mem_cons_of_mem _ (h))))), ?_⟩
   refine xn [8] (by kernel_rfl) (by simp) (zg rfl ?_ xq)
   refine xf #[.agg #[.int .i64 ((x[k]!).qy), .slice ae8Bag (((x[k]!).vK).length) ce8Bag], .agg #[.int .i64 ((y[k]!).qy), .slice ae11Bag (((y[k]!).vK).length) ce11Bag]] rfl rfl Try.call119 (eqInto_ok w3.drew (x[k]!) (y[k]!) ae8Bag ce8Bag Fe8Bag ae11Bag ce11Bag Fe11Bag (H.get 2 rfl).1 (H.get 0 rfl).1) ?_
   rintro _ w12 rfl x13
   replace H := H.ext x13
   refine ⟨H.sel _ (.refl _) _ (fun _ h => List.mem_cons_of_mem _ (List.mem_cons_of_mem _ (List.mem_cons_of_mem _ (List.mem_cons_of_mem _ (h))))), ?_⟩
   refine rtp 9 (.bool (!(decide ((x[k]!) = (y[k]!))))) (H.sel _ (.refl _) _ (fun _ h => List.mem_cons_of_mem _ (List.mem_cons_of_mem _ (List.mem_cons_of_mem _ (List.mem_cons_of_mem _ (h)))))) ?_
   refine xM (by kernel_rfl) (t_n ?_)
   refine qX (!(decide ((x[k]!) = (y[k]!)))) rfl (fun h14 => ?_) (fun h14 => ?_)
   ·skip
    replace h14 := xh h14
    replace h14 := of_decide_eq_false h14
    refine qo (qB ?_)
    refine sp (.bool false) ?_
    refine qA (t_n (xE (b_r (t_r (t_r (b_r (t_r ?_)))))))
    refine ret1 (.bool false) rfl rfl ⟨_, rfl, ?_, H.base⟩
    first | rw [decide_eq_false (fun e => by subst e; omega)] | rw [decide_eq_false (Qb (k := k) ‹_›)] | rw [decide_eq_true (yx (k := k) (by omega) (by omega) ‹_›)]
   replace h14 := qY h14
   replace h14 := of_decide_eq_true h14
   refine xy (b_n (t_n (qB ?_)))
   refine sp (.int .i64 k) ?_
   refine sw (vz k 1 rfl rfl (by omega) ?_)
   refine sp (.int .i64 (k + 1)) ?_
   refine qA ?_
   refine xH (m' := x.length - (k + 1)) (by omega) ⟨_, k + 1, (by exact qj (qj (qj (rfl) rfl) rfl) rfl), ?_, ?_, rfl, H.sel _ (.refl _) _ (by simp)⟩
   · omega
   · exact eqTo_succ (by omega) (by omega) ‹_› (by first | assumption | omega)
  refine zu [.int .i64 ((y[k]!).qy), .slice ae11Bag (((y[k]!).vK).length) ce11Bag] Try.isAgg108 Try.sizeOf108 rfl (qH (H.get 1 rfl) 0 2) ?_
  refine ⟨H.sel _ (.refl _) _ (fun _ h => List.mem_cons_of_mem _ (List.mem_cons_of_mem _ (List.mem_cons_of_mem _ (List.mem_cons_of_mem _ (h))))), ?_⟩
  refine xn [3] (by kernel_rfl) (by simp) (zg rfl ?_ xq)
  refine zu [.int .i64 ((x[k]!).qy), .slice ae8Bag (((x[k]!).vK).length) ce8Bag] Try.isAgg108 Try.sizeOf108 rfl (qH (H.get 3 rfl) 0 2) ?_
  refine ⟨H.sel _ (.refl _) _ (fun _ h => List.mem_cons_of_mem _ (List.mem_cons_of_mem _ (List.mem_cons_of_mem _ (List.mem_cons_of_mem _ (h))))), ?_⟩
  refine xn [8] (by kernel_rfl) (by simp) (zg rfl ?_ xq)
  refine xf #[.agg #[.int .i64 ((x[k]!).qy), .slice ae8Bag (((x[k]!).vK).length) ce8Bag], .agg #[.int .i64 ((y[k]!).qy), .slice ae11Bag (((y[k]!).vK).length) ce11Bag]] rfl rfl Try.call119 (eqInto_ok w3.drew (x[k]!) (y[k]!) ae8Bag ce8Bag Fe8Bag ae11Bag ce11Bag Fe11Bag (H.get 2 rfl).1 (H.get 0 rfl).1) ?_
  rintro _ w15 rfl x16
  replace H := H.ext x16
  refine ⟨H.sel _ (.refl _) _ (fun _ h => List.mem_cons_of_mem _ (List.mem_cons_of_mem _ (List.mem_cons_of_mem _ (List.mem_cons_of_mem _ (h))))), ?_⟩
  refine rtp 9 (.bool (!(decide ((x[k]!) = (y[k]!))))) (H.sel _ (.refl _) _ (fun _ h => List.mem_cons_of_mem _ (List.mem_cons_of_mem _ (List.mem_cons_of_mem _ (List.mem_cons_of_mem _ (h)))))) ?_
  refine xM (by kernel_rfl) (t_n ?_)
  refine qX (!(decide ((x[k]!) = (y[k]!)))) rfl (fun h17 => ?_) (fun h17 => ?_)
  ·skip
   replace h17 := xh h17
   replace h17 := of_decide_eq_false h17
   refine qo (qB ?_)
   refine sp (.bool false) ?_
   refine qA (t_n (xE (b_r (t_r (t_r (b_r (t_r ?_)))))))
   refine ret1 (.bool false) rfl rfl ⟨_, rfl, ?_, H.base⟩
   first | rw [decide_eq_false (fun e => by subst e; omega)] | rw [decide_eq_false (Qb (k := k) ‹_›)] | rw [decide_eq_true (yx (k := k) (by omega) (by omega) ‹_›)]
  replace h17 := qY h17
  replace h17 := of_decide_eq_true h17
  refine xy (b_n (t_n (qB ?_)))
  refine sp (.int .i64 k) ?_
  refine sw (vz k 1 rfl rfl (by omega) ?_)
  refine sp (.int .i64 (k + 1)) ?_
  refine qA ?_
  refine xH (m' := x.length - (k + 1)) (by omega) ⟨_, k + 1, (by exact qj (qj (qj (rfl) rfl) rfl) rfl), ?_, ?_, rfl, H.sel _ (.refl _) _ (by simp)⟩
  · omega
  · exact eqTo_succ (by omega) (by omega) ‹_› (by first | assumption | omega)
 replace h4 := of_decide_eq_false h4
 refine ve (t_x (t_x (b_x (t_n (qo (qB ?_))))))
 refine sp (.bool true) ?_
 refine qA (t_n (xE ?_))
 refine ret1 (.bool true) rfl rfl ⟨_, rfl, ?_, H.base⟩
 first | rw [decide_eq_false (fun e => by subst e; omega)] | rw [decide_eq_false (Qb (k := k) ‹_›)] | rw [decide_eq_true (yx (k := k) (by omega) (by omega) ‹_›)]

theorem eqRule_ok (w : World) (x : QK) (y : QK) (Qk : Option Addr) (Qe : Nat) (FxNeed : List Nat) (Qo : Option Addr) (Qj : Nat) (FxHave : List Nat) (Ql : Option Addr) (Qg : Nat) (FxLack : List Nat) (Qn : Option Addr) (Qi : Nat) (FxHere : List Nat) (XH : Option Addr) (XG : Nat) (FxOut : List Nat) (Qm : Option Addr) (Qh : Nat) (FxInto : List Nat) (ayNeed : Option Addr) (cyNeed : Nat) (FyNeed : List Nat) (ayHave : Option Addr) (cyHave : Nat) (FyHave : List Nat) (ayLack : Option Addr) (cyLack : Nat) (FyLack : List Nat) (ayHere : Option Addr) (cyHere : Nat) (FyHere : List Nat) (ayOut : Option Addr) (cyOut : Nat) (FyOut : List Nat) (ayInto : Option Addr) (cyInto : Nat) (FyInto : List Nat) (hxNeed : qW.rep w FxNeed [.slice Qk x.qR.length Qe] x.qR) (hxHave : qW.rep w FxHave [.slice Qo x.xg.length Qj] x.xg) (hxLack : qW.rep w FxLack [.slice Ql x.xk.length Qg] x.xk) (hxHere : qW.rep w FxHere [.slice Qn x.xw.length Qi] x.xw) (hxOut : qW.rep w FxOut [.slice XH x.zo.length XG] x.zo) (hxInto : qW.rep w FxInto [.slice Qm x.qE.length Qh] x.qE) (hyNeed : qW.rep w FyNeed [.slice ayNeed y.qR.length cyNeed] y.qR) (hyHave : qW.rep w FyHave [.slice ayHave y.xg.length cyHave] y.xg) (hyLack : qW.rep w FyLack [.slice ayLack y.xk.length cyLack] y.xk) (hyHere : qW.rep w FyHere [.slice ayHere y.xw.length cyHere] y.xw) (hyOut : qW.rep w FyOut [.slice ayOut y.zo.length cyOut] y.zo) (hyInto : qW.rep w FyInto [.slice ayInto y.qE.length cyInto] y.qE) : Calls Try.prog 75 #[.agg #[.int .i64 x.qy, .int .i64 x.zk, .slice Qk x.qR.length Qe, .slice Qo x.xg.length Qj, .slice Ql x.xk.length Qg, .slice Qn x.xw.length Qi, .slice XH x.zo.length XG, .slice Qm x.qE.length Qh, .bool x.xQ], .agg #[.int .i64 y.qy, .int .i64 y.zk, .slice ayNeed y.qR.length cyNeed, .slice ayHave y.xg.length cyHave, .slice ayLack y.xk.length cyLack, .slice ayHere y.xw.length cyHere, .slice ayOut y.zo.length cyOut, .slice ayInto y.qE.length cyInto, .bool y.xQ]] w (Ret (fun v w' => v = .bool (decide (x = y))) w) := by
 refine enter (n := 56) Try.func75 rfl Try.ntmps75 (Nat.le_of_ble_eq_true rfl) ?_
 have H := ((((((((((((St.start w).arg hyInto).arg hyOut).arg hyHere).arg hyLack).arg hyHave).arg hyNeed).arg hxInto).arg hxOut).arg hxHere).arg hxLack).arg hxHave).arg hxNeed
 have nhxNeed := qN hxNeed
 have nhxHave := qN hxHave
 have nhxLack := qN hxLack
 have nhxHere := qN hxHere
 have nhxOut := qN hxOut
 have nhxInto := qN hxInto
 have nhyNeed := qN hyNeed
 have nhyHave := qN hyHave
 have nhyLack := qN hyLack
 have nhyHere := qN hyHere
 have nhyOut := qN hyOut
 have nhyInto := qN hyInto
 clear hxNeed hxHave hxLack hxHere hxOut hxInto hyNeed hyHave hyLack hyHere hyOut hyInto
 refine qo (qB ?_)
 refine sw (o_box H (.agg #[.int .i64 x.qy, .int .i64 x.zk, .slice Qk x.qR.length Qe, .slice Qo x.xg.length Qj, .slice Ql x.xk.length Qg, .slice Qn x.xw.length Qi, .slice XH x.zo.length XG, .slice Qm x.qE.length Qh, .bool x.xQ]) rfl fun b1 w2 H => ?_)
 replace H : St _ _ [.box b1 [.int .i64 x.qy, .int .i64 x.zk, .slice Qk x.qR.length Qe, .slice Qo x.xg.length Qj, .slice Ql x.xk.length Qg, .slice Qn x.xw.length Qi, .slice XH x.zo.length XG, .slice Qm x.qE.length Qh, .bool x.xQ] 92] _ := H
 refine sw (o_box H (.agg #[.int .i64 y.qy, .int .i64 y.zk, .slice ayNeed y.qR.length cyNeed, .slice ayHave y.xg.length cyHave, .slice ayLack y.xk.length cyLack, .slice ayHere y.xw.length cyHere, .slice ayOut y.zo.length cyOut, .slice ayInto y.qE.length cyInto, .bool y.xQ]) rfl fun b3 w4 H => ?_)
 replace H : St _ _ [.box b3 [.int .i64 y.qy, .int .i64 y.zk, .slice ayNeed y.qR.length cyNeed, .slice ayHave y.xg.length cyHave, .slice ayLack y.xk.length cyLack, .slice ayHere y.xw.length cyHere, .slice ayOut y.zo.length cyOut, .slice ayInto y.qE.length cyInto, .bool y.xQ] 92, .box b1 [.int .i64 x.qy, .int .i64 x.zk, .slice Qk x.qR.length Qe, .slice Qo x.xg.length Qj, .slice Ql x.xk.length Qg, .slice Qn x.xw.length Qi, .slice XH x.zo.length XG, .slice Qm x.qE.length Qh, .bool x.xQ] 92] _ := H
 refine sp (.bool false) ?_
 refine qA (t_n (qo (qo (qB ?_))))
 refine sw (qO b1 (0) 0 Try.underlying92 rfl rfl Try.sizeOf2 rfl ?_)
 refine sw (qF (.int .i64 x.qy) Try.isAgg2 rfl (H.cell 1 rfl rfl) ?_)
 refine sw (qO b3 (0) 0 Try.underlying92 rfl rfl Try.sizeOf2 rfl ?_)
 refine sw (qF (.int .i64 y.qy) Try.isAgg2 rfl (H.cell 0 rfl rfl) ?_)
 refine sp (.bool ((x.qy : Int) != y.qy)) ?_
 refine qA (t_n ?_)
 refine qX ((x.qy : Int) != y.qy) rfl (fun h5 => ?_) (fun h5 => ?_)
 ·skip
  replace h5 := bne_iff_ne.1 h5
  refine qo (qB ?_)
  refine sp (.bool false) ?_
  refine qA (t_n (xE (t_r ?_)))
  refine ret1 (.bool false) rfl rfl ⟨_, rfl, ?_, H.base⟩
  rw [decide_eq_false (fun e => by subst e; simp_all)]
 replace h5 := xP h5
 refine xy (t_n (qo (qo (qB ?_))))
 refine sw (qO b1 (0) 1 Try.underlying92 rfl rfl Try.sizeOf2 rfl ?_)
 refine sw (qF (.int .i64 x.zk) Try.isAgg2 rfl (H.cell 1 rfl rfl) ?_)
 refine sw (qO b3 (0) 1 Try.underlying92 rfl rfl Try.sizeOf2 rfl ?_)
 refine sw (qF (.int .i64 y.zk) Try.isAgg2 rfl (H.cell 0 rfl rfl) ?_)
 refine sp (.bool ((x.zk : Int) != y.zk)) ?_
 refine qA (t_n ?_)
 refine qX ((x.zk : Int) != y.zk) rfl (fun h6 => ?_) (fun h6 => ?_)
 ·skip
  replace h6 := bne_iff_ne.1 h6
  refine qo (qB ?_)
  refine sp (.bool false) ?_
  refine qA (t_n (xE (t_r ?_)))
  refine ret1 (.bool false) rfl rfl ⟨_, rfl, ?_, H.base⟩
  rw [decide_eq_false (fun e => by subst e; simp_all)]
 replace h6 := xP h6
 refine xy (t_n (qo (qo (qB ?_))))
 refine sw (qO b1 (0) 2 Try.underlying92 rfl rfl Try.sizeOf22 rfl ?_)
 refine sw (qF (.slice Qk x.qR.length Qe) Try.isAgg22 rfl (H.cell 1 rfl rfl) ?_)
 refine sw (qO b3 (0) 2 Try.underlying92 rfl rfl Try.sizeOf22 rfl ?_)
 refine sw (qF (.slice ayNeed y.qR.length cyNeed) Try.isAgg22 rfl (H.cell 0 rfl rfl) ?_)
 refine sw (xf #[.slice Qk x.qR.length Qe, .slice ayNeed y.qR.length cyNeed] rfl rfl Try.call12 (Xb w4 x.qR y.qR Qk Qe FxNeed ayNeed cyNeed FyNeed (H.get 0 rfl).1 (H.get 6 rfl).1) ?_)
 rintro _ w7 rfl x8
 replace H := H.ext x8
 refine sp (.bool (!(decide (x.qR = y.qR)))) ?_
 refine qA (t_n ?_)
 refine qX (!(decide (x.qR = y.qR))) rfl (fun h9 => ?_) (fun h9 => ?_)
 ·skip
  replace h9 := xh h9
  replace h9 := of_decide_eq_false h9
  refine qo (qB ?_)
  refine sp (.bool false) ?_
  refine qA (t_n (xE (t_r ?_)))
  refine ret1 (.bool false) rfl rfl ⟨_, rfl, ?_, H.base⟩
  rw [decide_eq_false (fun e => by subst e; simp_all)]
 replace h9 := qY h9
 replace h9 := of_decide_eq_true h9
 refine xy (t_n (qo (qo (qB ?_))))
 refine sw (qO b1 (0) 3 Try.underlying92 rfl rfl Try.sizeOf22 rfl ?_)
 refine sw (qF (.slice Qo x.xg.length Qj) Try.isAgg22 rfl (H.cell 1 rfl rfl) ?_)
 refine sw (qO b3 (0) 3 Try.underlying92 rfl rfl Try.sizeOf22 rfl ?_)
 refine sw (qF (.slice ayHave y.xg.length cyHave) Try.isAgg22 rfl (H.cell 0 rfl rfl) ?_)
 refine sw (xf #[.slice Qo x.xg.length Qj, .slice ayHave y.xg.length cyHave] rfl rfl Try.call12 (Xb w7 x.xg y.xg Qo Qj FxHave ayHave cyHave FyHave (H.get 1 rfl).1 (H.get 7 rfl).1) ?_)
 rintro _ w10 rfl x11
 replace H := H.ext x11
 refine sp (.bool (!(decide (x.xg = y.xg)))) ?_
 refine qA (t_n ?_)
 refine qX (!(decide (x.xg = y.xg))) rfl (fun h12 => ?_) (fun h12 => ?_)
 ·skip
  replace h12 := xh h12
  replace h12 := of_decide_eq_false h12
  refine qo (qB ?_)
  refine sp (.bool false) ?_
  refine qA (t_n (xE (t_r ?_)))
  refine ret1 (.bool false) rfl rfl ⟨_, rfl, ?_, H.base⟩
  rw [decide_eq_false (fun e => by subst e; simp_all)]
 replace h12 := qY h12
 replace h12 := of_decide_eq_true h12
 refine xy (t_n (qo (qo (qB ?_))))
 refine sw (qO b1 (0) 4 Try.underlying92 rfl rfl Try.sizeOf22 rfl ?_)
 refine sw (qF (.slice Ql x.xk.length Qg) Try.isAgg22 rfl (H.cell 1 rfl rfl) ?_)
 refine sw (qO b3 (0) 4 Try.underlying92 rfl rfl Try.sizeOf22 rfl ?_)
 refine sw (qF (.slice ayLack y.xk.length cyLack) Try.isAgg22 rfl (H.cell 0 rfl rfl) ?_)
 refine sw (xf #[.slice Ql x.xk.length Qg, .slice ayLack y.xk.length cyLack] rfl rfl Try.call12 (Xb w10 x.xk y.xk Ql Qg FxLack ayLack cyLack FyLack (H.get 2 rfl).1 (H.get 8 rfl).1) ?_)
 rintro _ w13 rfl x14
 replace H := H.ext x14
 refine sp (.bool (!(decide (x.xk = y.xk)))) ?_
 refine qA (t_n ?_)
 refine qX (!(decide (x.xk = y.xk))) rfl (fun h15 => ?_) (fun h15 => ?_)
 ·skip
  replace h15 := xh h15
  replace h15 := of_decide_eq_false h15
  refine qo (qB ?_)
  refine sp (.bool false) ?_
  refine qA (t_n (xE (t_r ?_)))
  refine ret1 (.bool false) rfl rfl ⟨_, rfl, ?_, H.base⟩
  rw [decide_eq_false (fun e => by subst e; simp_all)]
 replace h15 := qY h15
 replace h15 := of_decide_eq_true h15
 refine xy (t_n (qo (qo (qB ?_))))
 refine sw (qO b1 (0) 5 Try.underlying92 rfl rfl Try.sizeOf22 rfl ?_)
 refine sw (qF (.slice Qn x.xw.length Qi) Try.isAgg22 rfl (H.cell 1 rfl rfl) ?_)
 refine sw (qO b3 (0) 5 Try.underlying92 rfl rfl Try.sizeOf22 rfl ?_)
 refine sw (qF (.slice ayHere y.xw.length cyHere) Try.isAgg22 rfl (H.cell 0 rfl rfl) ?_)
 refine sw (xf #[.slice Qn x.xw.length Qi, .slice ayHere y.xw.length cyHere] rfl rfl Try.call12 (Xb w13 x.xw y.xw Qn Qi FxHere ayHere cyHere FyHere (H.get 3 rfl).1 (H.get 9 rfl).1) ?_)
 rintro _ w16 rfl x17
 replace H := H.ext x17
 refine sp (.bool (!(decide (x.xw = y.xw)))) ?_
 refine qA (t_n ?_)
 refine qX (!(decide (x.xw = y.xw))) rfl (fun h18 => ?_) (fun h18 => ?_)
 ·skip
  replace h18 := xh h18
  replace h18 := of_decide_eq_false h18
  refine qo (qB ?_)
  refine sp (.bool false) ?_
  refine qA (t_n (xE (t_r ?_)))
  refine ret1 (.bool false) rfl rfl ⟨_, rfl, ?_, H.base⟩
  rw [decide_eq_false (fun e => by subst e; simp_all)]
 replace h18 := qY h18
 replace h18 := of_decide_eq_true h18
 refine xy (t_n (qo (qo (qB ?_))))
 refine sw (qO b1 (0) 6 Try.underlying92 rfl rfl Try.sizeOf22 rfl ?_)
 refine sw (qF (.slice XH x.zo.length XG) Try.isAgg22 rfl (H.cell 1 rfl rfl) ?_)
 refine sw (qO b3 (0) 6 Try.underlying92 rfl rfl Try.sizeOf22 rfl ?_)
 refine sw (qF (.slice ayOut y.zo.length cyOut) Try.isAgg22 rfl (H.cell 0 rfl rfl) ?_)
 refine sw (xf #[.slice XH x.zo.length XG, .slice ayOut y.zo.length cyOut] rfl rfl Try.call12 (Xb w16 x.zo y.zo XH XG FxOut ayOut cyOut FyOut (H.get 4 rfl).1 (H.get 10 rfl).1) ?_)
 rintro _ w19 rfl x20
 replace H := H.ext x20
 refine sp (.bool (!(decide (x.zo = y.zo)))) ?_
 refine qA (t_n ?_)
 refine qX (!(decide (x.zo = y.zo))) rfl (fun h21 => ?_) (fun h21 => ?_)
 ·skip
  replace h21 := xh h21
  replace h21 := of_decide_eq_false h21
  refine qo (qB ?_)
  refine sp (.bool false) ?_
  refine qA (t_n (xE (t_r ?_)))
  refine ret1 (.bool false) rfl rfl ⟨_, rfl, ?_, H.base⟩
  rw [decide_eq_false (fun e => by subst e; simp_all)]
 replace h21 := qY h21
 replace h21 := of_decide_eq_true h21
 refine xy (t_n (qo (qo (qB ?_))))
 refine sw (qO b1 (0) 7 Try.underlying92 rfl rfl Try.sizeOf90 rfl ?_)
 refine sw (qF (.slice Qm x.qE.length Qh) Try.isAgg90 rfl (H.cell 1 rfl rfl) ?_)
 refine sw (qO b3 (0) 7 Try.underlying92 rfl rfl Try.sizeOf90 rfl ?_)
 refine sw (qF (.slice ayInto y.qE.length cyInto) Try.isAgg90 rfl (H.cell 0 rfl rfl) ?_)
 refine sw (xf #[.slice Qm x.qE.length Qh, .slice ayInto y.qE.length cyInto] rfl rfl Try.call104 (eqIntoS_ok w19 x.qE y.qE Qm Qh FxInto ayInto cyInto FyInto (H.get 5 rfl).1 (H.get 11 rfl).1) ?_)
 rintro _ w22 rfl x23
 replace H := H.ext x23
 refine sp (.bool (!(decide (x.qE = y.qE)))) ?_
 refine qA (t_n ?_)
 refine qX (!(decide (x.qE = y.qE))) rfl (fun h24 => ?_) (fun h24 => ?_)
 ·skip
  replace h24 := xh h24
  replace h24 := of_decide_eq_false h24
  refine qo (qB ?_)
  refine sp (.bool false) ?_
  refine qA (t_n (xE (t_r ?_)))
  refine ret1 (.bool false) rfl rfl ⟨_, rfl, ?_, H.base⟩
  rw [decide_eq_false (fun e => by subst e; simp_all)]
 replace h24 := qY h24
 replace h24 := of_decide_eq_true h24
 refine xy (t_n (qo (qo (qB ?_))))
 refine sw (qO b1 (0) 8 Try.underlying92 rfl rfl Try.sizeOf4 rfl ?_)
 refine sw (qF (.bool x.xQ) Try.isAgg4 rfl (H.cell 1 rfl rfl) ?_)
 refine sw (qO b3 (0) 8 Try.underlying92 rfl rfl Try.sizeOf4 rfl ?_)
 refine sw (qF (.bool y.xQ) Try.isAgg4 rfl (H.cell 0 rfl rfl) ?_)
 refine sw (o_neB Try.underlying4 x.xQ y.xQ rfl rfl ?_)
 refine qA (t_n ?_)
 refine qX (x.xQ != y.xQ) rfl (fun h25 => ?_) (fun h25 => ?_)
 ·skip
  replace h25 := bne_iff_ne.1 h25
  refine qo (qB ?_)
  refine sp (.bool false) ?_
  refine qA (t_n (xE (t_r ?_)))
  refine ret1 (.bool false) rfl rfl ⟨_, rfl, ?_, H.base⟩
  rw [decide_eq_false (fun e => by subst e; simp_all)]
 replace h25 := xP h25
 refine xy (t_n (qo (qB ?_)))
 refine sp (.bool true) ?_
 refine qA (t_n (xE ?_))
 refine ret1 (.bool true) rfl rfl ⟨_, rfl, ?_, H.base⟩
 rw [decide_eq_true (by cases x; cases y; simp_all)]

theorem eqRuleS_ok (w : World) (x : List QK) (y : List QK) (ax : Option Addr) (cx : Nat) (Fx : List Nat) (ay : Option Addr) (cy : Nat) (Fy : List Nat) (hx : qW.rep w Fx [.slice ax x.length cx] x) (hy : qW.rep w Fy [.slice ay y.length cy] y) : Calls Try.prog 32 #[.slice ax x.length cx, .slice ay y.length cy] w (Ret (fun v w' => v = .bool (decide (x = y))) w) := by
 refine enter (n := 27) Try.func32 rfl Try.ntmps32 (Nat.le_of_ble_eq_true rfl) ?_
 have H := ((St.start w).arg hy).arg hx
 have nhx := qN hx
 have nhy := qN hy
 clear hx hy
 refine qo (qB ?_)
 refine sp (.bool false) ?_
 refine qA (t_n (qo (qo (qB ?_))))
 refine sp (.slice ax x.length cx) ?_
 refine sw (vI Try.underlying28 ax x.length cx rfl ?_)
 refine sp (.slice ay y.length cy) ?_
 refine sw (vI Try.underlying28 ay y.length cy rfl ?_)
 refine sp (.bool ((x.length : Int) != y.length)) ?_
 refine qA (t_n ?_)
 refine qX ((x.length : Int) != y.length) rfl (fun h1 => ?_) (fun h1 => ?_)
 ·skip
  replace h1 := bne_iff_ne.1 h1
  refine qo (qB ?_)
  refine sp (.bool false) ?_
  refine qA (t_n (xE (t_r ?_)))
  refine ret1 (.bool false) rfl rfl ⟨_, rfl, ?_, H.base⟩
  first | rw [decide_eq_false (fun e => by subst e; omega)] | rw [decide_eq_false (Qb (k := k) ‹_›)] | rw [decide_eq_true (yx (k := k) (by omega) (by omega) ‹_›)]
 replace h1 := xP h1
 refine xy (t_n (qo (qo (qB ?_))))
 refine sp (.int .i64 0) ?_
 refine qA (t_n (xC ?_))
 refine vw (fun m' ρ w2 => ∃ (junk : Env) (k : Nat), ρ = upd (upd (upd junk 0 (.slice ax x.length cx)) 1 (.slice ay y.length cy)) 5 (.int .i64 k) ∧ (k ≤ x.length) ∧ (x.take k = y.take k) ∧ m' = x.length - k ∧ St w w2 [] [isF false Fx (.slice ax x.length cx) x, isF false Fy (.slice ay y.length cy) y]) (x.length - 0) ⟨_, 0, (by exact qj (qj (qj (rfl) rfl) rfl) rfl), (by omega), (by rfl), rfl, H⟩ ?_
 clear H
 rintro m' ρ w3 ⟨junk, k, rfl, i0, i1, rfl, H⟩
 refine qo (qo (qB ?_))
 refine sps [.int .i64 k, .slice ax x.length cx] ?_
 refine sw (vI Try.underlying28 ax x.length cx rfl ?_)
 refine sp (.bool (decide ((k : Int) < x.length))) ?_
 refine qA (t_n ?_)
 refine qX (decide ((k : Int) < x.length)) rfl (fun h4 => ?_) (fun h4 => ?_)
 ·skip
  replace h4 := of_decide_eq_true h4
  refine xy (t_n (qo (xC (qo ?_))))
  refine yg rfl H fun H => ?_
  refine rtp 0 (.slice ax x.length cx) H ?_
  refine rtp 1 (.int .i64 k) H ?_
  obtain ⟨b6, o7, rfl⟩ := H.addr 0 rfl (by omega)
  obtain ⟨ae8Need, ce8Need, Fe8Need, ae8Have, ce8Have, Fe8Have, ae8Lack, ce8Lack, Fe8Lack, ae8Here, ce8Here, Fe8Here, ae8Out, ce8Out, Fe8Out, ae8Into, ce8Into, Fe8Into, H⟩ := H.yD 0 rfl k k (by omega) (by omega) (by omega)
  refine rt 2 (pp b6 (o7 + (k : Int).toNat * 9)) (xK b6 (o7) x.length cx k Try.underlying28 ti92 rfl rfl (by omega) (by omega)) (H.sel _ (.refl _) _ (fun _ h => List.mem_cons_of_mem _ (List.mem_cons_of_mem _ (List.mem_cons_of_mem _ (List.mem_cons_of_mem _ (List.mem_cons_of_mem _ (List.mem_cons_of_mem _ (List.mem_cons_of_mem _ (h))))))))) ?_
  refine rtp 4 (.slice ay y.length cy) (H.sel _ (.refl _) _ (fun _ h => List.mem_cons_of_mem _ (List.mem_cons_of_mem _ (List.mem_cons_of_mem _ (List.mem_cons_of_mem _ (List.mem_cons_of_mem _ (List.mem_cons_of_mem _ (List.mem_cons_of_mem _ (h))))))))) ?_
  refine rtp 5 (.int .i64 k) (H.sel _ (.refl _) _ (fun _ h => List.mem_cons_of_mem _ (List.mem_cons_of_mem _ (List.mem_cons_of_mem _ (List.mem_cons_of_mem _ (List.mem_cons_of_mem _ (List.mem_cons_of_mem _ (List.mem_cons_of_mem _ (h))))))))) ?_
  obtain ⟨b9, o10, rfl⟩ := H.addr 8 rfl (by omega)
  obtain ⟨ae11Need, ce11Need, Fe11Need, ae11Have, ce11Have, Fe11Have, ae11Lack, ce11Lack, Fe11Lack, ae11Here, ce11Here, Fe11Here, ae11Out, ce11Out, Fe11Out, ae11Into, ce11Into, Fe11Into, H⟩ := H.yD 8 rfl k k (by omega) (by omega) (by omega)
  refine rt 6 (pp b9 (o10 + (k : Int).toNat * 9)) (xK b9 (o10) y.length cy k Try.underlying28 ti92 rfl rfl (by omega) (by omega)) (H.sel _ (.refl _) _ (fun _ h => List.mem_cons_of_mem _ (List.mem_cons_of_mem _ (List.mem_cons_of_mem _ (List.mem_cons_of_mem _ (List.mem_cons_of_mem _ (List.mem_cons_of_mem _ (List.mem_cons_of_mem _ (List.mem_cons_of_mem _ (List.mem_cons_of_mem _ (List.mem_cons_of_mem _ (List.mem_cons_of_mem _ (List.mem_cons_of_mem _ (List.mem_cons_of_mem _ (List.mem_cons_of_mem _ (h)))))))))))))))) ?_
  refine xn [3, 7] (by kernel_rfl) (by simp) (zg rfl ?_ (zg rfl ?_ xq))
  ·skip
   refine zu [.int .i64 ((x[k]!).qy), .int .i64 ((x[k]!).zk), .slice ae8Need (((x[k]!).qR).length) ce8Need, .slice ae8Have (((x[k]!).xg).length) ce8Have, .slice ae8Lack (((x[k]!).xk).length) ce8Lack, .slice ae8Here (((x[k]!).xw).length) ce8Here, .slice ae8Out (((x[k]!).zo).length) ce8Out, .slice ae8Into (((x[k]!).qE).length) ce8Into, .bool ((x[k]!).xQ)] Try.isAgg92 Try.sizeOf92 rfl (qH (H.get 13 rfl) 0 9) ?_
   refine ⟨H.sel _ (.refl _) _ (fun _ h => List.mem_cons_of_mem _ (List.mem_cons_of_mem _ (List.mem_cons_of_mem _ (List.mem_cons_of_mem _ (List.mem_cons_of_mem _ (List.mem_cons_of_mem _ (List.mem_cons_of_mem _ (List.mem_cons_of_mem _ (List.mem_cons_of_mem _ (List.mem_cons_of_mem _ (List.mem_cons_of_mem _ (List.mem_cons_of_mem _ (List.mem_cons_of_mem _ (List.mem_cons_of_mem _ (h))))))))))))))), ?_⟩
   refine xn [7] (by kernel_rfl) (by simp) (zg rfl ?_ xq)
   refine zu [.int .i64 ((y[k]!).qy), .int .i64 ((y[k]!).zk), .slice ae11Need (((y[k]!).qR).length) ce11Need, .slice ae11Have (((y[k]!).xg).length) ce11Have, .slice ae11Lack (((y[k]!).xk).length) ce11Lack, .slice ae11Here (((y[k]!).xw).length) ce11Here, .slice ae11Out (((y[k]!).zo).length) ce11Out, .slice ae11Into (((y[k]!).qE).length) ce11Into, .bool ((y[k]!).xQ)] Try.isAgg92 Try.sizeOf92 rfl (qH (H.get 6 rfl) 0 9) ?_
   refine ⟨H.sel _ (.refl _) _ (fun _ h => List.mem_cons_of_mem _ (List.mem_cons_of_mem _ (List.mem_cons_of_mem _ (List.mem_cons_of_mem _ (List.mem_cons_of_mem _ (List.mem_cons_of_mem _ (List.mem_cons_of_mem _ (List.mem_cons_of_mem _ (List.mem_cons_of_mem _ (List.mem_cons_of_mem _ (List.mem_cons_of_mem _ (List.mem_cons_of_mem _ (List.mem_cons_of_mem _ (List.mem_cons_of_mem _ (h))))))))))))))), ?_⟩
   refine xn [8] (by kernel_rfl) (by simp) (zg rfl ?_ xq)
   refine xf #[.agg #[.int .i64 ((x[k]!).qy), .int .i64 ((x[k]!).zk), .slice ae8Need (((x[k]!).qR).length) ce8Need, .slice ae8Have (((x[k]!).xg).length) ce8Have, .slice ae8Lack (((x[k]!).xk).length) ce8Lack, .slice ae8Here (((x[k]!).xw).length) ce8Here, .slice ae8Out (((x[k]!).zo).length) ce8Out, .slice ae8Into (((x[k]!).qE).length) ce8Into, .bool ((x[k]!).xQ)], .agg #[.int .i64 ((y[k]!).qy), .int .i64 ((y[k]!).zk), .slice ae11Need (((y[k]!).qR).length) ce11Need, .slice ae11Have (((y[k]!).xg).length) ce11Have, .slice ae11Lack (((y[k]!).xk).length) ce11Lack, .slice ae11Here (((y[k]!).xw).length) ce11Here, .slice ae11Out (((y[k]!).zo).length) ce11Out, .slice ae11Into (((y[k]!).qE).length) ce11Into, .bool ((y[k]!).xQ)]] rfl rfl Try.call75 (eqRule_ok w3.drew (x[k]!) (y[k]!) ae8Need ce8Need Fe8Need ae8Have ce8Have Fe8Have ae8Lack ce8Lack Fe8Lack ae8Here ce8Here Fe8Here ae8Out ce8Out Fe8Out ae8Into ce8Into Fe8Into ae11Need ce11Need Fe11Need ae11Have ce11Have Fe11Have ae11Lack ce11Lack Fe11Lack ae11Here ce11Here Fe11Here ae11Out ce11Out Fe11Out ae11Into ce11Into Fe11Into (H.get 7 rfl).1 (H.get 8 rfl).1 (H.get 9 rfl).1 (H.get 10 rfl).1 (H.get 11 rfl).1 (H.get 12 rfl).1 (H.get 0 rfl).1 (H.get 1 rfl).1 (H.get 2 rfl).1 (H.get 3 rfl).1 (H.get 4 rfl).1 (H.get 5 rfl).1) ?_
   rintro _ w12 rfl x13
   replace H := H.ext x13
   refine ⟨H.sel _ (.refl _) _ (fun _ h => List.mem_cons_of_mem _ (List.mem_cons_of_mem _ (List.mem_cons_of_mem _ (List.mem_cons_of_mem _ (List.mem_cons_of_mem _ (List.mem_cons_of_mem _ (List.mem_cons_of_mem _ (List.mem_cons_of_mem _ (List.mem_cons_of_mem _ (List.mem_cons_of_mem _ (List.mem_cons_of_mem _ (List.mem_cons_of_mem _ (List.mem_cons_of_mem _ (List.mem_cons_of_mem _ (h))))))))))))))), ?_⟩
   refine rtp 9 (.bool (!(decide ((x[k]!) = (y[k]!))))) (H.sel _ (.refl _) _ (fun _ h => List.mem_cons_of_mem _ (List.mem_cons_of_mem _ (List.mem_cons_of_mem _ (List.mem_cons_of_mem _ (List.mem_cons_of_mem _ (List.mem_cons_of_mem _ (List.mem_cons_of_mem _ (List.mem_cons_of_mem _ (List.mem_cons_of_mem _ (List.mem_cons_of_mem _ (List.mem_cons_of_mem _ (List.mem_cons_of_mem _ (List.mem_cons_of_mem _ (List.mem_cons_of_mem _ (h)))))))))))))))) ?_
   refine xM (by kernel_rfl) (t_n ?_)
   refine qX (!(decide ((x[k]!) = (y[k]!)))) rfl (fun h14 => ?_) (fun h14 => ?_)
   ·skip
    replace h14 := xh h14
    replace h14 := of_decide_eq_false h14
    refine qo (qB ?_)
    refine sp (.bool false) ?_
    refine qA (t_n (xE (b_r (t_r (t_r (b_r (t_r ?_)))))))
    refine ret1 (.bool false) rfl rfl ⟨_, rfl, ?_, H.base⟩
    first | rw [decide_eq_false (fun e => by subst e; omega)] | rw [decide_eq_false (Qb (k := k) ‹_›)] | rw [decide_eq_true (yx (k := k) (by omega) (by omega) ‹_›)]
   replace h14 := qY h14
   replace h14 := of_decide_eq_true h14
   refine xy (b_n (t_n (qB ?_)))
   refine sp (.int .i64 k) ?_
   refine sw (vz k 1 rfl rfl (by omega) ?_)
   refine sp (.int .i64 (k + 1)) ?_
   refine qA ?_
   refine xH (m' := x.length - (k + 1)) (by omega) ⟨_, k + 1, (by exact qj (qj (qj (rfl) rfl) rfl) rfl), ?_, ?_, rfl, H.sel _ (.refl _) _ (by simp)⟩
   · omega
   · exact eqTo_succ (by omega) (by omega) ‹_› (by first | assumption | omega)
  refine zu [.int .i64 ((y[k]!).qy), .int .i64 ((y[k]!).zk), .slice ae11Need (((y[k]!).qR).length) ce11Need, .slice ae11Have (((y[k]!).xg).length) ce11Have, .slice ae11Lack (((y[k]!).xk).length) ce11Lack, .slice ae11Here (((y[k]!).xw).length) ce11Here, .slice ae11Out (((y[k]!).zo).length) ce11Out, .slice ae11Into (((y[k]!).qE).length) ce11Into, .bool ((y[k]!).xQ)] Try.isAgg92 Try.sizeOf92 rfl (qH (H.get 6 rfl) 0 9) ?_
  refine ⟨H.sel _ (.refl _) _ (fun _ h => List.mem_cons_of_mem _ (List.mem_cons_of_mem _ (List.mem_cons_of_mem _ (List.mem_cons_of_mem _ (List.mem_cons_of_mem _ (List.mem_cons_of_mem _ (List.mem_cons_of_mem _ (List.mem_cons_of_mem _ (List.mem_cons_of_mem _ (List.mem_cons_of_mem _ (List.mem_cons_of_mem _ (List.mem_cons_of_mem _ (List.mem_cons_of_mem _ (List.mem_cons_of_mem _ (h))))))))))))))), ?_⟩
  refine xn [3] (by kernel_rfl) (by simp) (zg rfl ?_ xq)
  refine zu [.int .i64 ((x[k]!).qy), .int .i64 ((x[k]!).zk), .slice ae8Need (((x[k]!).qR).length) ce8Need, .slice ae8Have (((x[k]!).xg).length) ce8Have, .slice ae8Lack (((x[k]!).xk).length) ce8Lack, .slice ae8Here (((x[k]!).xw).length) ce8Here, .slice ae8Out (((x[k]!).zo).length) ce8Out, .slice ae8Into (((x[k]!).qE).length) ce8Into, .bool ((x[k]!).xQ)] Try.isAgg92 Try.sizeOf92 rfl (qH (H.get 13 rfl) 0 9) ?_
  refine ⟨H.sel _ (.refl _) _ (fun _ h => List.mem_cons_of_mem _ (List.mem_cons_of_mem _ (List.mem_cons_of_mem _ (List.mem_cons_of_mem _ (List.mem_cons_of_mem _ (List.mem_cons_of_mem _ (List.mem_cons_of_mem _ (List.mem_cons_of_mem _ (List.mem_cons_of_mem _ (List.mem_cons_of_mem _ (List.mem_cons_of_mem _ (List.mem_cons_of_mem _ (List.mem_cons_of_mem _ (List.mem_cons_of_mem _ (h))))))))))))))), ?_⟩
  refine xn [8] (by kernel_rfl) (by simp) (zg rfl ?_ xq)
  refine xf #[.agg #[.int .i64 ((x[k]!).qy), .int .i64 ((x[k]!).zk), .slice ae8Need (((x[k]!).qR).length) ce8Need, .slice ae8Have (((x[k]!).xg).length) ce8Have, .slice ae8Lack (((x[k]!).xk).length) ce8Lack, .slice ae8Here (((x[k]!).xw).length) ce8Here, .slice ae8Out (((x[k]!).zo).length) ce8Out, .slice ae8Into (((x[k]!).qE).length) ce8Into, .bool ((x[k]!).xQ)], .agg #[.int .i64 ((y[k]!).qy), .int .i64 ((y[k]!).zk), .slice ae11Need (((y[k]!).qR).length) ce11Need, .slice ae11Have (((y[k]!).xg).length) ce11Have, .slice ae11Lack (((y[k]!).xk).length) ce11Lack, .slice ae11Here (((y[k]!).xw).length) ce11Here, .slice ae11Out (((y[k]!).zo).length) ce11Out, .slice ae11Into (((y[k]!).qE).length) ce11Into, .bool ((y[k]!).xQ)]] rfl rfl Try.call75 (eqRule_ok w3.drew (x[k]!) (y[k]!) ae8Need ce8Need Fe8Need ae8Have ce8Have Fe8Have ae8Lack ce8Lack Fe8Lack ae8Here ce8Here Fe8Here ae8Out ce8Out Fe8Out ae8Into ce8Into Fe8Into ae11Need ce11Need Fe11Need ae11Have ce11Have Fe11Have ae11Lack ce11Lack Fe11Lack ae11Here ce11Here Fe11Here ae11Out ce11Out Fe11Out ae11Into ce11Into Fe11Into (H.get 7 rfl).1 (H.get 8 rfl).1 (H.get 9 rfl).1 (H.get 10 rfl).1 (H.get 11 rfl).1 (H.get 12 rfl).1 (H.get 0 rfl).1 (H.get 1 rfl).1 (H.get 2 rfl).1 (H.get 3 rfl).1 (H.get 4 rfl).1 (H.get 5 rfl).1) ?_
  rintro _ w15 rfl x16
  replace H := H.ext x16
  refine ⟨H.sel _ (.refl _) _ (fun _ h => List.mem_cons_of_mem _ (List.mem_cons_of_mem _ (List.mem_cons_of_mem _ (List.mem_cons_of_mem _ (List.mem_cons_of_mem _ (List.mem_cons_of_mem _ (List.mem_cons_of_mem _ (List.mem_cons_of_mem _ (List.mem_cons_of_mem _ (List.mem_cons_of_mem _ (List.mem_cons_of_mem _ (List.mem_cons_of_mem _ (List.mem_cons_of_mem _ (List.mem_cons_of_mem _ (h))))))))))))))), ?_⟩
  refine rtp 9 (.bool (!(decide ((x[k]!) = (y[k]!))))) (H.sel _ (.refl _) _ (fun _ h => List.mem_cons_of_mem _ (List.mem_cons_of_mem _ (List.mem_cons_of_mem _ (List.mem_cons_of_mem _ (List.mem_cons_of_mem _ (List.mem_cons_of_mem _ (List.mem_cons_of_mem _ (List.mem_cons_of_mem _ (List.mem_cons_of_mem _ (List.mem_cons_of_mem _ (List.mem_cons_of_mem _ (List.mem_cons_of_mem _ (List.mem_cons_of_mem _ (List.mem_cons_of_mem _ (h)))))))))))))))) ?_
  refine xM (by kernel_rfl) (t_n ?_)
  refine qX (!(decide ((x[k]!) = (y[k]!)))) rfl (fun h17 => ?_) (fun h17 => ?_)
  ·skip
   replace h17 := xh h17
   replace h17 := of_decide_eq_false h17
   refine qo (qB ?_)
   refine sp (.bool false) ?_
   refine qA (t_n (xE (b_r (t_r (t_r (b_r (t_r ?_)))))))
   refine ret1 (.bool false) rfl rfl ⟨_, rfl, ?_, H.base⟩
   first | rw [decide_eq_false (fun e => by subst e; omega)] | rw [decide_eq_false (Qb (k := k) ‹_›)] | rw [decide_eq_true (yx (k := k) (by omega) (by omega) ‹_›)]
  replace h17 := qY h17
  replace h17 := of_decide_eq_true h17
  refine xy (b_n (t_n (qB ?_)))
  refine sp (.int .i64 k) ?_
  refine sw (vz k 1 rfl rfl (by omega) ?_)
  refine sp (.int .i64 (k + 1)) ?_
  refine qA ?_
  refine xH (m' := x.length - (k + 1)) (by omega) ⟨_, k + 1, (by exact qj (qj (qj (rfl) rfl) rfl) rfl), ?_, ?_, rfl, H.sel _ (.refl _) _ (by simp)⟩
  · omega
  · exact eqTo_succ (by omega) (by omega) ‹_› (by first | assumption | omega)
 replace h4 := of_decide_eq_false h4
 refine ve (t_x (t_x (b_x (t_n (qo (qB ?_))))))
 refine sp (.bool true) ?_
 refine qA (t_n (xE ?_))
 refine ret1 (.bool true) rfl rfl ⟨_, rfl, ?_, H.base⟩
 first | rw [decide_eq_false (fun e => by subst e; omega)] | rw [decide_eq_false (Qb (k := k) ‹_›)] | rw [decide_eq_true (yx (k := k) (by omega) (by omega) ‹_›)]

theorem eqSystem_ok (w : World) (x : qV) (y : qV) (zO : Option Addr) (zN : Nat) (yt : List Nat) (jo : Option Addr) (jm : Nat) (Q3 : List Nat) (ayParents : Option Addr) (cyParents : Nat) (FyParents : List Nat) (ayRules : Option Addr) (cyRules : Nat) (FyRules : List Nat) (QA : qW.rep w yt [.slice zO x.qf.length zN] x.qf) (Va : qW.rep w Q3 [.slice jo x.qg.length jm] x.qg) (hyParents : qW.rep w FyParents [.slice ayParents y.qf.length cyParents] y.qf) (hyRules : qW.rep w FyRules [.slice ayRules y.qg.length cyRules] y.qg) : Calls Try.prog 11 #[.agg #[.int .i64 x.qI, .slice zO x.qf.length zN, .slice jo x.qg.length jm], .agg #[.int .i64 y.qI, .slice ayParents y.qf.length cyParents, .slice ayRules y.qg.length cyRules]] w (Ret (fun v w' => v = .bool (decide (x = y))) w) := by
 refine enter (n := 22) Try.func11 rfl Try.ntmps11 (Nat.le_of_ble_eq_true rfl) ?_
 have H := ((((St.start w).arg hyRules).arg hyParents).arg Va).arg QA
 have nhxParents := qN QA
 have nhxRules := qN Va
 have nhyParents := qN hyParents
 have nhyRules := qN hyRules
 clear QA Va hyParents hyRules
 refine qo (qB ?_)
 refine sw (o_box H (.agg #[.int .i64 x.qI, .slice zO x.qf.length zN, .slice jo x.qg.length jm]) rfl fun b1 w2 H => ?_)
 replace H : St _ _ [.box b1 [.int .i64 x.qI, .slice zO x.qf.length zN, .slice jo x.qg.length jm] 30] _ := H
 refine sw (o_box H (.agg #[.int .i64 y.qI, .slice ayParents y.qf.length cyParents, .slice ayRules y.qg.length cyRules]) rfl fun b3 w4 H => ?_)
 replace H : St _ _ [.box b3 [.int .i64 y.qI, .slice ayParents y.qf.length cyParents, .slice ayRules y.qg.length cyRules] 30, .box b1 [.int .i64 x.qI, .slice zO x.qf.length zN, .slice jo x.qg.length jm] 30] _ := H
 refine sp (.bool false) ?_
 refine qA (t_n (qo (qo (qB ?_))))
 refine sw (qO b1 (0) 0 Try.underlying30 rfl rfl Try.sizeOf2 rfl ?_)
 refine sw (qF (.int .i64 x.qI) Try.isAgg2 rfl (H.cell 1 rfl rfl) ?_)
 refine sw (qO b3 (0) 0 Try.underlying30 rfl rfl Try.sizeOf2 rfl ?_)
 refine sw (qF (.int .i64 y.qI) Try.isAgg2 rfl (H.cell 0 rfl rfl) ?_)
 refine sp (.bool ((x.qI : Int) != y.qI)) ?_
 refine qA (t_n ?_)
 refine qX ((x.qI : Int) != y.qI) rfl (fun h5 => ?_) (fun h5 => ?_)
 ·skip
  replace h5 := bne_iff_ne.1 h5
  refine qo (qB ?_)
  refine sp (.bool false) ?_
  refine qA (t_n (xE (t_r ?_)))
  refine ret1 (.bool false) rfl rfl ⟨_, rfl, ?_, H.base⟩
  rw [decide_eq_false (fun e => by subst e; simp_all)]
 replace h5 := xP h5
 refine xy (t_n (qo (qo (qB ?_))))
 refine sw (qO b1 (0) 1 Try.underlying30 rfl rfl Try.sizeOf22 rfl ?_)
 refine sw (qF (.slice zO x.qf.length zN) Try.isAgg22 rfl (H.cell 1 rfl rfl) ?_)
 refine sw (qO b3 (0) 1 Try.underlying30 rfl rfl Try.sizeOf22 rfl ?_)
 refine sw (qF (.slice ayParents y.qf.length cyParents) Try.isAgg22 rfl (H.cell 0 rfl rfl) ?_)
 refine sw (xf #[.slice zO x.qf.length zN, .slice ayParents y.qf.length cyParents] rfl rfl Try.call12 (Xb w4 x.qf y.qf zO zN yt ayParents cyParents FyParents (H.get 0 rfl).1 (H.get 2 rfl).1) ?_)
 rintro _ w6 rfl x7
 replace H := H.ext x7
 refine sp (.bool (!(decide (x.qf = y.qf)))) ?_
 refine qA (t_n ?_)
 refine qX (!(decide (x.qf = y.qf))) rfl (fun h8 => ?_) (fun h8 => ?_)
 ·skip
  replace h8 := xh h8
  replace h8 := of_decide_eq_false h8
  refine qo (qB ?_)
  refine sp (.bool false) ?_
  refine qA (t_n (xE (t_r ?_)))
  refine ret1 (.bool false) rfl rfl ⟨_, rfl, ?_, H.base⟩
  rw [decide_eq_false (fun e => by subst e; simp_all)]
 replace h8 := qY h8
 replace h8 := of_decide_eq_true h8
 refine xy (t_n (qo (qo (qB ?_))))
 refine sw (qO b1 (0) 2 Try.underlying30 rfl rfl Try.sizeOf28 rfl ?_)
 refine sw (qF (.slice jo x.qg.length jm) Try.isAgg28 rfl (H.cell 1 rfl rfl) ?_)
 refine sw (qO b3 (0) 2 Try.underlying30 rfl rfl Try.sizeOf28 rfl ?_)
 refine sw (qF (.slice ayRules y.qg.length cyRules) Try.isAgg28 rfl (H.cell 0 rfl rfl) ?_)
 refine sw (xf #[.slice jo x.qg.length jm, .slice ayRules y.qg.length cyRules] rfl rfl Try.call32 (eqRuleS_ok w6 x.qg y.qg jo jm Q3 ayRules cyRules FyRules (H.get 1 rfl).1 (H.get 3 rfl).1) ?_)
 rintro _ w9 rfl x10
 replace H := H.ext x10
 refine sp (.bool (!(decide (x.qg = y.qg)))) ?_
 refine qA (t_n ?_)
 refine qX (!(decide (x.qg = y.qg))) rfl (fun h11 => ?_) (fun h11 => ?_)
 ·skip
  replace h11 := xh h11
  replace h11 := of_decide_eq_false h11
  refine qo (qB ?_)
  refine sp (.bool false) ?_
  refine qA (t_n (xE (t_r ?_)))
  refine ret1 (.bool false) rfl rfl ⟨_, rfl, ?_, H.base⟩
  rw [decide_eq_false (fun e => by subst e; simp_all)]
 replace h11 := qY h11
 replace h11 := of_decide_eq_true h11
 refine xy (t_n (qo (qB ?_)))
 refine sp (.bool true) ?_
 refine qA (t_n (xE ?_))
 refine ret1 (.bool true) rfl rfl ⟨_, rfl, ?_, H.base⟩
 rw [decide_eq_true (by cases x; cases y; simp_all)]

theorem eqState_ok (w : World) (x : qQ) (y : qQ) (vN : Option Addr) (vM : Nat) (Qr : List Nat) (jI : Option Addr) (jH : Nat) (Xo : List Nat) (zM : Option Addr) (zL : Nat) (yw : List Nat) (ayAlive : Option Addr) (cyAlive : Nat) (FyAlive : List Nat) (ayBags : Option Addr) (cyBags : Nat) (FyBags : List Nat) (ayAround : Option Addr) (cyAround : Nat) (FyAround : List Nat) (Xk : qW.rep w Qr [.slice vN x.qh.length vM] x.qh) (Vy : qW.rep w Xo [.slice jI x.qp.length jH] x.qp) (Qs : qW.rep w yw [.slice zM x.ql.length zL] x.ql) (hyAlive : qW.rep w FyAlive [.slice ayAlive y.qh.length cyAlive] y.qh) (hyBags : qW.rep w FyBags [.slice ayBags y.qp.length cyBags] y.qp) (hyAround : qW.rep w FyAround [.slice ayAround y.ql.length cyAround] y.ql) : Calls Try.prog 17 #[.agg #[.slice vN x.qh.length vM, .slice jI x.qp.length jH, .slice zM x.ql.length zL], .agg #[.slice ayAlive y.qh.length cyAlive, .slice ayBags y.qp.length cyBags, .slice ayAround y.ql.length cyAround]] w (Ret (fun v w' => v = .bool (decide (x = y))) w) := by
 refine enter (n := 23) Try.func17 rfl Try.ntmps17 (Nat.le_of_ble_eq_true rfl) ?_
 have H := ((((((St.start w).arg hyAround).arg hyBags).arg hyAlive).arg Qs).arg Vy).arg Xk
 have nhxAlive := qN Xk
 have nhxBags := qN Vy
 have nhxAround := qN Qs
 have nhyAlive := qN hyAlive
 have nhyBags := qN hyBags
 have nhyAround := qN hyAround
 clear Xk Vy Qs hyAlive hyBags hyAround
 refine qo (qB ?_)
 refine sw (o_box H (.agg #[.slice vN x.qh.length vM, .slice jI x.qp.length jH, .slice zM x.ql.length zL]) rfl fun b1 w2 H => ?_)
 replace H : St _ _ [.box b1 [.slice vN x.qh.length vM, .slice jI x.qp.length jH, .slice zM x.ql.length zL] 41] _ := H
 refine sw (o_box H (.agg #[.slice ayAlive y.qh.length cyAlive, .slice ayBags y.qp.length cyBags, .slice ayAround y.ql.length cyAround]) rfl fun b3 w4 H => ?_)
 replace H : St _ _ [.box b3 [.slice ayAlive y.qh.length cyAlive, .slice ayBags y.qp.length cyBags, .slice ayAround y.ql.length cyAround] 41, .box b1 [.slice vN x.qh.length vM, .slice jI x.qp.length jH, .slice zM x.ql.length zL] 41] _ := H
 refine sp (.bool false) ?_
 refine qA (t_n (qo (qo (qB ?_))))
 refine sw (qO b1 (0) 0 Try.underlying41 rfl rfl Try.sizeOf36 rfl ?_)
 refine sw (qF (.slice vN x.qh.length vM) Try.isAgg36 rfl (H.cell 1 rfl rfl) ?_)
 refine sw (qO b3 (0) 0 Try.underlying41 rfl rfl Try.sizeOf36 rfl ?_)
 refine sw (qF (.slice ayAlive y.qh.length cyAlive) Try.isAgg36 rfl (H.cell 0 rfl rfl) ?_)
 refine sw (xf #[.slice vN x.qh.length vM, .slice ayAlive y.qh.length cyAlive] rfl rfl Try.call45 (eqBoolS_ok w4 x.qh y.qh vN vM Qr ayAlive cyAlive FyAlive (H.get 0 rfl).1 (H.get 3 rfl).1) ?_)
 rintro _ w5 rfl x6
 replace H := H.ext x6
 refine sp (.bool (!(decide (x.qh = y.qh)))) ?_
 refine qA (t_n ?_)
 refine qX (!(decide (x.qh = y.qh))) rfl (fun h7 => ?_) (fun h7 => ?_)
 ·skip
  replace h7 := xh h7
  replace h7 := of_decide_eq_false h7
  refine qo (qB ?_)
  refine sp (.bool false) ?_
  refine qA (t_n (xE (t_r ?_)))
  refine ret1 (.bool false) rfl rfl ⟨_, rfl, ?_, H.base⟩
  rw [decide_eq_false (fun e => by subst e; simp_all)]
 replace h7 := qY h7
 replace h7 := of_decide_eq_true h7
 refine xy (t_n (qo (qo (qB ?_))))
 refine sw (qO b1 (0) 1 Try.underlying41 rfl rfl Try.sizeOf37 rfl ?_)
 refine sw (qF (.slice jI x.qp.length jH) Try.isAgg37 rfl (H.cell 1 rfl rfl) ?_)
 refine sw (qO b3 (0) 1 Try.underlying41 rfl rfl Try.sizeOf37 rfl ?_)
 refine sw (qF (.slice ayBags y.qp.length cyBags) Try.isAgg37 rfl (H.cell 0 rfl rfl) ?_)
 refine sw (xf #[.slice jI x.qp.length jH, .slice ayBags y.qp.length cyBags] rfl rfl Try.call46 (eqInt64SS_ok w5 x.qp y.qp jI jH Xo ayBags cyBags FyBags (H.get 1 rfl).1 (H.get 4 rfl).1) ?_)
 rintro _ w8 rfl x9
 replace H := H.ext x9
 refine sp (.bool (!(decide (x.qp = y.qp)))) ?_
 refine qA (t_n ?_)
 refine qX (!(decide (x.qp = y.qp))) rfl (fun h10 => ?_) (fun h10 => ?_)
 ·skip
  replace h10 := xh h10
  replace h10 := of_decide_eq_false h10
  refine qo (qB ?_)
  refine sp (.bool false) ?_
  refine qA (t_n (xE (t_r ?_)))
  refine ret1 (.bool false) rfl rfl ⟨_, rfl, ?_, H.base⟩
  rw [decide_eq_false (fun e => by subst e; simp_all)]
 replace h10 := qY h10
 replace h10 := of_decide_eq_true h10
 refine xy (t_n (qo (qo (qB ?_))))
 refine sw (qO b1 (0) 2 Try.underlying41 rfl rfl Try.sizeOf22 rfl ?_)
 refine sw (qF (.slice zM x.ql.length zL) Try.isAgg22 rfl (H.cell 1 rfl rfl) ?_)
 refine sw (qO b3 (0) 2 Try.underlying41 rfl rfl Try.sizeOf22 rfl ?_)
 refine sw (qF (.slice ayAround y.ql.length cyAround) Try.isAgg22 rfl (H.cell 0 rfl rfl) ?_)
 refine sw (xf #[.slice zM x.ql.length zL, .slice ayAround y.ql.length cyAround] rfl rfl Try.call12 (Xb w8 x.ql y.ql zM zL yw ayAround cyAround FyAround (H.get 2 rfl).1 (H.get 5 rfl).1) ?_)
 rintro _ w11 rfl x12
 replace H := H.ext x12
 refine sp (.bool (!(decide (x.ql = y.ql)))) ?_
 refine qA (t_n ?_)
 refine qX (!(decide (x.ql = y.ql))) rfl (fun h13 => ?_) (fun h13 => ?_)
 ·skip
  replace h13 := xh h13
  replace h13 := of_decide_eq_false h13
  refine qo (qB ?_)
  refine sp (.bool false) ?_
  refine qA (t_n (xE (t_r ?_)))
  refine ret1 (.bool false) rfl rfl ⟨_, rfl, ?_, H.base⟩
  rw [decide_eq_false (fun e => by subst e; simp_all)]
 replace h13 := qY h13
 replace h13 := of_decide_eq_true h13
 refine xy (t_n (qo (qB ?_)))
 refine sp (.bool true) ?_
 refine qA (t_n (xE ?_))
 refine ret1 (.bool true) rfl rfl ⟨_, rfl, ?_, H.base⟩
 rw [decide_eq_true (by cases x; cases y; simp_all)]

end Go.Proofs.Ytkmlihdacnfhdaa
