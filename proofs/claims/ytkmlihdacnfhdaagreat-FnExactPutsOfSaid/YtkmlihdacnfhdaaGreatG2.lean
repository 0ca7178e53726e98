/- Walks, printed by program (wip/tools/gv.py): what each function comes to, for all arguments. -/
import Derived.Test.YtkmlihdacnfhdaaGreatG1
namespace Go.Proofs.YtkmlihdacnfhdaaGreat
open Go.Proofs.YtkmlihdacnfhdaaGreat.Tot (tot)
open Go.Proofs.YtkmlihdacnfhdaaGreat.Mark (cnt mrk mkd mkd_mark cnt_mark)
open Go.RowKit
set_option linter.unusedVariables false
set_option linter.unusedSimpArgs false
set_option maxRecDepth 100000
set_option maxHeartbeats 4000000

theorem ti4 : TI Tryz.prog 4 (.bool false) 1 1 := by unfold TI; kernel_rfl
theorem ti22 : TI Tryz.prog 22 (.slice none 0 0) 1 24 := by unfold TI; kernel_rfl
theorem ti36 : TI Tryz.prog 36 (.agg #[.int .i64 0, .slice none 0 0, .slice none 0 0]) 3 56 := by unfold TI; kernel_rfl
theorem ti38 : TI Tryz.prog 38 (.agg #[.slice none 0 0, .slice none 0 0, .slice none 0 0]) 3 72 := by unfold TI; kernel_rfl
theorem ti105 : TI Tryz.prog 105 (.agg #[.int .i64 0, .int .i64 0, .slice none 0 0, .slice none 0 0, .slice none 0 0, .slice none 0 0, .slice none 0 0, .slice none 0 0, .bool false]) 9 168 := by unfold TI; kernel_rfl
theorem ti110 : TI Tryz.prog 110 (.agg #[.int .i64 0, .int .i64 0, .slice none 0 0, .slice none 0 0, .slice none 0 0, .slice none 0 0, .slice none 0 0, .slice none 0 0, .bool false]) 9 168 := by unfold TI; kernel_rfl
theorem ti115 : TI Tryz.prog 115 (.agg #[.int .i64 0, .slice none 0 0]) 2 32 := by unfold TI; kernel_rfl
theorem ti167 : TI Tryz.prog 167 (.agg #[.int .i64 0, .slice none 0 0]) 2 32 := by unfold TI; kernel_rfl


theorem Qo (w : World) (x : List Int) (left : Int) (ax : Option Addr) (cx : Nat) (Fx : List Nat) (hx : qM.rep w Fx [.slice ax x.length cx] x) (p0 : 0 ≤ left ∧ left ≤ 2000000) : Calls Tryz.prog 38 #[.slice ax x.length cx, .int .i64 left] w (Ret (fun v w' => v = .int .i64 (szR (tot x) left)) w) := by
 refine enter (n := 12) Tryz.func38 rfl Tryz.ntmps38 (Nat.le_of_ble_eq_true rfl) ?_
 have H := (St.start w).arg hx
 have nhx := qJ hx
 clear hx
 refine qh (qp ?_)
 refine sp (.int .i64 0) ?_
 refine qo (t_n (qh (qp ?_)))
 refine sps [.int .i64 left, .slice ax x.length cx] ?_
 refine sw (zK Tryz.underlying22 ax x.length cx rfl ?_)
 refine sw (o_sub left x.length rfl rfl (by omega) ?_)
 refine sp (.int .i64 (left - x.length)) ?_
 refine qo (t_n (qh (qh (qp ?_))))
 refine sps [.int .i64 (left - x.length), .bool (decide ((left - x.length : Int) < 0))] ?_
 refine qo (t_n ?_)
 refine qP (decide ((left - x.length : Int) < 0)) rfl (fun h1 => ?_) (fun h1 => ?_)
 ·skip
  replace h1 := of_decide_eq_true h1
  refine qh (qp ?_)
  refine sp (.int .i64 (-1)) ?_
  refine qo (t_n (xh (t_r ?_)))
  refine ret1 (.int .i64 (-1)) rfl rfl ⟨_, rfl, ?_, H.base⟩
  refine congrArg (Value.int .i64) ?_
  have := xX (tot x) left
  rw [tot_ints] at *
  try omega
 replace h1 := of_decide_eq_false h1
 refine xg (t_n (qh (qp ?_)))
 refine sps [.int .i64 (left - x.length), .int .i64 (left - x.length)] ?_
 refine qo (t_n (xh ?_))
 refine ret1 (.int .i64 (left - x.length)) rfl rfl ⟨_, rfl, ?_, H.base⟩
 refine congrArg (Value.int .i64) ?_
 have := xX (tot x) left
 rw [tot_ints] at *
 try omega

theorem szBoolS_ok (w : World) (x : List Bool) (left : Int) (ax : Option Addr) (cx : Nat) (Fx : List Nat) (hx : qM.rep w Fx [.slice ax x.length cx] x) (p0 : 0 ≤ left ∧ left ≤ 2000000) : Calls Tryz.prog 40 #[.slice ax x.length cx, .int .i64 left] w (Ret (fun v w' => v = .int .i64 (szR (tot x) left)) w) := by
 refine enter (n := 12) Tryz.func40 rfl Tryz.ntmps40 (Nat.le_of_ble_eq_true rfl) ?_
 have H := (St.start w).arg hx
 have nhx := qJ hx
 clear hx
 refine qh (qp ?_)
 refine sp (.int .i64 0) ?_
 refine qo (t_n (qh (qp ?_)))
 refine sps [.int .i64 left, .slice ax x.length cx] ?_
 refine sw (zK Tryz.underlying26 ax x.length cx rfl ?_)
 refine sw (o_sub left x.length rfl rfl (by omega) ?_)
 refine sp (.int .i64 (left - x.length)) ?_
 refine qo (t_n (qh (qh (qp ?_))))
 refine sps [.int .i64 (left - x.length), .bool (decide ((left - x.length : Int) < 0))] ?_
 refine qo (t_n ?_)
 refine qP (decide ((left - x.length : Int) < 0)) rfl (fun h1 => ?_) (fun h1 => ?_)
 ·skip
  replace h1 := of_decide_eq_true h1
  refine qh (qp ?_)
  refine sp (.int .i64 (-1)) ?_
  refine qo (t_n (xh (t_r ?_)))
  refine ret1 (.int .i64 (-1)) rfl rfl ⟨_, rfl, ?_, H.base⟩
  refine congrArg (Value.int .i64) ?_
  have := xX (tot x) left
  rw [tot_bools] at *
  try omega
 replace h1 := of_decide_eq_false h1
 refine xg (t_n (qh (qp ?_)))
 refine sps [.int .i64 (left - x.length), .int .i64 (left - x.length)] ?_
 refine qo (t_n (xh ?_))
 refine ret1 (.int .i64 (left - x.length)) rfl rfl ⟨_, rfl, ?_, H.base⟩
 refine congrArg (Value.int .i64) ?_
 have := xX (tot x) left
 rw [tot_bools] at *
 try omega

theorem szInt64SS_ok (w : World) (x : List (List Int)) (left : Int) (ax : Option Addr) (cx : Nat) (Fx : List Nat) (hx : qM.rep w Fx [.slice ax x.length cx] x) (p0 : 0 ≤ left ∧ left ≤ 2000000) : Calls Tryz.prog 29 #[.slice ax x.length cx, .int .i64 left] w (Ret (fun v w' => v = .int .i64 (szR (tot x) left)) w) := by
 refine enter (n := 27) Tryz.func29 rfl Tryz.ntmps29 (Nat.le_of_ble_eq_true rfl) ?_
 have H := (St.start w).arg hx
 have nhx := qJ hx
 clear hx
 refine qh (qp ?_)
 refine sp (.int .i64 0) ?_
 refine qo (t_n (qh (qp ?_)))
 refine sps [.int .i64 left, .slice ax x.length cx] ?_
 refine sw (zK Tryz.underlying27 ax x.length cx rfl ?_)
 refine sw (o_sub left x.length rfl rfl (by omega) ?_)
 refine sp (.int .i64 (left - x.length)) ?_
 refine qo (t_n (qh (qh (qp ?_))))
 refine sps [.int .i64 (left - x.length), .bool (decide ((left - x.length : Int) < 0))] ?_
 refine qo (t_n ?_)
 refine qP (decide ((left - x.length : Int) < 0)) rfl (fun h1 => ?_) (fun h1 => ?_)
 ·skip
  replace h1 := of_decide_eq_true h1
  refine qh (qp ?_)
  refine sp (.int .i64 (-1)) ?_
  refine qo (t_n (xh (t_r ?_)))
  refine ret1 (.int .i64 (-1)) rfl rfl ⟨_, rfl, ?_, H.base⟩
  refine congrArg (Value.int .i64) ?_
  have := xX (tot x) left
  have := len_tot x
  omega
 replace h1 := of_decide_eq_false h1
 refine xg (t_n (qh (qh (qp ?_))))
 refine sp (.int .i64 0) ?_
 refine qo (t_n (xn ?_))
 refine zC (fun m' ρ w2 => ∃ (junk : Env) (k : Nat) (r : Int), ρ = upd (upd (upd junk 0 (.slice ax x.length cx)) 1 (.int .i64 r)) 5 (.int .i64 k) ∧ (k ≤ x.length) ∧ (r = left - (x.length : Int) - (totTo x k : Nat)) ∧ (0 ≤ r) ∧ m' = x.length - k ∧ St w w2 [] [isF false Fx (.slice ax x.length cx) x]) (x.length - 0) ⟨_, 0, left - (x.length : Int), (by exact qj (qj (qj (rfl) rfl) rfl) rfl), (by omega), (by rw [totTo_zero]; omega), (by omega), rfl, H⟩ ?_
 clear H
 rintro m' ρ w3 ⟨junk, k, r, rfl, i0, i1, i2, rfl, H⟩
 refine qh (qh (qp ?_))
 refine sps [.int .i64 k, .slice ax x.length cx] ?_
 refine sw (zK Tryz.underlying27 ax x.length cx rfl ?_)
 refine sp (.bool (decide ((k : Int) < x.length))) ?_
 refine qo (t_n ?_)
 refine qP (decide ((k : Int) < x.length)) rfl (fun h4 => ?_) (fun h4 => ?_)
 ·skip
  replace h4 := of_decide_eq_true h4
  refine xg (t_n (qh (xn (qh (qp ?_)))))
  refine sps [.slice ax x.length cx, .int .i64 k] ?_
  obtain ⟨b5, o6, rfl⟩ := H.addr 0 rfl (by omega)
  obtain ⟨ae7, ce7, Fe7, H⟩ := H.Xk 0 rfl k k (by omega) (by omega) (by omega)
  refine sw (xE k Tryz.underlying27 ti22 rfl rfl (by omega) (by omega) ?_)
  refine sw (qC (.slice ae7 ((x[k]!).length) ce7) Tryz.isAgg22 rfl (H.xU 1 rfl 0 rfl) ?_)
  refine sp (.int .i64 r) ?_
  refine sw (xm #[.slice ae7 ((x[k]!).length) ce7, .int .i64 r] rfl rfl Tryz.call38 (Qo w3 (x[k]!) r ae7 ce7 Fe7 (H.get 0 rfl).1 (by omega)) ?_)
  rintro _ w8 rfl x9
  replace H := H.ext x9
  have := xX (tot (x[k]!)) r
  refine sp (.int .i64 (szR (tot (x[k]!)) r)) ?_
  refine qo (t_n (qh (qp ?_)))
  refine sps [.int .i64 (szR (tot (x[k]!)) r), .bool (decide ((szR (tot (x[k]!)) r : Int) < 0))] ?_
  refine qo (t_n ?_)
  refine qP (decide ((szR (tot (x[k]!)) r : Int) < 0)) rfl (fun h10 => ?_) (fun h10 => ?_)
  ·skip
   replace h10 := of_decide_eq_true h10
   refine qh (qp ?_)
   refine sp (.int .i64 (-1)) ?_
   refine qo (t_n (xh (b_r (t_r (t_r (b_r (t_r ?_)))))))
   refine ret1 (.int .i64 (-1)) rfl rfl ⟨_, rfl, ?_, H.base⟩
   refine congrArg (Value.int .i64) ?_
   have := xX (tot x) left
   have := tot_get (l := x) (k := k) (by omega)
   omega
  replace h10 := of_decide_eq_false h10
  refine xg (b_n (t_n (qp ?_)))
  refine sp (.int .i64 k) ?_
  refine sw (zD k 1 rfl rfl (by omega) ?_)
  refine sp (.int .i64 (k + 1)) ?_
  refine qo ?_
  refine xy (m' := x.length - (k + 1)) (by omega) ⟨_, k + 1, szR (tot (x[k]!)) r, (by exact qj (qj (qj (rfl) rfl) rfl) rfl), ?_, ?_, ?_, rfl, H.sel _ (.refl _) _ (by simp)⟩
  · omega
  · rw [totTo_succ]; omega
  · omega
 replace h4 := of_decide_eq_false h4
 refine zx (t_x (t_x (b_x (t_n (qh (qp ?_))))))
 refine sps [.int .i64 r, .int .i64 r] ?_
 refine qo (t_n (xh ?_))
 refine ret1 (.int .i64 r) rfl rfl ⟨_, rfl, ?_, H.base⟩
 refine congrArg (Value.int .i64) ?_
 obtain rfl : k = x.length := by omega
 have := xX (tot x) left
 rw [tot_list] at *
 omega

theorem szInto_ok (w : World) (x : IntoD) (left : Int) (axBag : Option Addr) (cxBag : Nat) (FxBag : List Nat) (hxBag : qM.rep w FxBag [.slice axBag x.zF.length cxBag] x.zF) (p0 : 0 ≤ left ∧ left ≤ 2000000) : Calls Tryz.prog 160 #[.agg #[.int .i64 x.qw, .slice axBag x.zF.length cxBag], .int .i64 left] w (Ret (fun v w' => v = .int .i64 (szR (tot x) left)) w) := by
 refine enter (n := 12) Tryz.func160 rfl Tryz.ntmps160 (Nat.le_of_ble_eq_true rfl) ?_
 have H := (St.start w).arg hxBag
 have nhxBag := qJ hxBag
 clear hxBag
 refine qh (qp ?_)
 refine sw (o_box H (.agg #[.int .i64 x.qw, .slice axBag x.zF.length cxBag]) rfl fun b1 w2 H => ?_)
 replace H : St _ _ [.box b1 [.int .i64 x.qw, .slice axBag x.zF.length cxBag] 167] _ := H
 refine sp (.int .i64 0) ?_
 refine qo (t_n (qh (qp ?_)))
 refine sw (qH b1 (0) 1 Tryz.underlying167 rfl rfl Tryz.sizeOf22 rfl ?_)
 refine sw (qC (.slice axBag x.zF.length cxBag) Tryz.isAgg22 rfl (H.cell 0 rfl rfl) ?_)
 refine sp (.int .i64 left) ?_
 refine sw (xm #[.slice axBag x.zF.length cxBag, .int .i64 left] rfl rfl Tryz.call38 (Qo w2 x.zF left axBag cxBag FxBag (H.get 0 rfl).1 (by omega)) ?_)
 rintro _ w3 rfl x4
 replace H := H.ext x4
 have := xX (tot x.zF) left
 refine sp (.int .i64 (szR (tot x.zF) left)) ?_
 refine qo (t_n (qh (qh (qp ?_))))
 refine sps [.int .i64 (szR (tot x.zF) left), .bool (decide ((szR (tot x.zF) left : Int) < 0))] ?_
 refine qo (t_n ?_)
 refine qP (decide ((szR (tot x.zF) left : Int) < 0)) rfl (fun h5 => ?_) (fun h5 => ?_)
 ·skip
  replace h5 := of_decide_eq_true h5
  refine qh (qp ?_)
  refine sp (.int .i64 (-1)) ?_
  refine qo (t_n (xh (t_r ?_)))
  refine ret1 (.int .i64 (-1)) rfl rfl ⟨_, rfl, ?_, H.base⟩
  refine congrArg (Value.int .i64) ?_
  have := xX (tot x) left
  rw [tot_IntoD] at *
  try omega
 replace h5 := of_decide_eq_false h5
 refine xg (t_n (qh (qp ?_)))
 refine sps [.int .i64 (szR (tot x.zF) left), .int .i64 (szR (tot x.zF) left)] ?_
 refine qo (t_n (xh ?_))
 refine ret1 (.int .i64 (szR (tot x.zF) left)) rfl rfl ⟨_, rfl, ?_, H.base⟩
 refine congrArg (Value.int .i64) ?_
 have := xX (tot x) left
 rw [tot_IntoD] at *
 try omega

theorem szIntoS_ok (w : World) (x : List IntoD) (left : Int) (ax : Option Addr) (cx : Nat) (Fx : List Nat) (hx : qM.rep w Fx [.slice ax x.length cx] x) (p0 : 0 ≤ left ∧ left ≤ 2000000) : Calls Tryz.prog 135 #[.slice ax x.length cx, .int .i64 left] w (Ret (fun v w' => v = .int .i64 (szR (tot x) left)) w) := by
 refine enter (n := 27) Tryz.func135 rfl Tryz.ntmps135 (Nat.le_of_ble_eq_true rfl) ?_
 have H := (St.start w).arg hx
 have nhx := qJ hx
 clear hx
 refine qh (qp ?_)
 refine sp (.int .i64 0) ?_
 refine qo (t_n (qh (qp ?_)))
 refine sps [.int .i64 left, .slice ax x.length cx] ?_
 refine sw (zK Tryz.underlying103 ax x.length cx rfl ?_)
 refine sw (o_sub left x.length rfl rfl (by omega) ?_)
 refine sp (.int .i64 (left - x.length)) ?_
 refine qo (t_n (qh (qh (qp ?_))))
 refine sps [.int .i64 (left - x.length), .bool (decide ((left - x.length : Int) < 0))] ?_
 refine qo (t_n ?_)
 refine qP (decide ((left - x.length : Int) < 0)) rfl (fun h1 => ?_) (fun h1 => ?_)
 ·skip
  replace h1 := of_decide_eq_true h1
  refine qh (qp ?_)
  refine sp (.int .i64 (-1)) ?_
  refine qo (t_n (xh (t_r ?_)))
  refine ret1 (.int .i64 (-1)) rfl rfl ⟨_, rfl, ?_, H.base⟩
  refine congrArg (Value.int .i64) ?_
  have := xX (tot x) left
  have := len_tot x
  omega
 replace h1 := of_decide_eq_false h1
 refine xg (t_n (qh (qh (qp ?_))))
 refine sp (.int .i64 0) ?_
 refine qo (t_n (xn ?_))
 refine zC (fun m' ρ w2 => ∃ (junk : Env) (k : Nat) (r : Int), ρ = upd (upd (upd junk 0 (.slice ax x.length cx)) 1 (.int .i64 r)) 5 (.int .i64 k) ∧ (k ≤ x.length) ∧ (r = left - (x.length : Int) - (totTo x k : Nat)) ∧ (0 ≤ r) ∧ m' = x.length - k ∧ St w w2 [] [isF false Fx (.slice ax x.length cx) x]) (x.length - 0) ⟨_, 0, left - (x.length : Int), (by exact qj (qj (qj (rfl) rfl) rfl) rfl), (by omega), (by rw [totTo_zero]; omega), (by omega), rfl, H⟩ ?_
 clear H
 rintro m' ρ w3 ⟨junk, k, r, rfl, i0, i1, i2, rfl, H⟩
 refine qh (qh (qp ?_))
 refine sps [.int .i64 k, .slice ax x.length cx] ?_
 refine sw (zK Tryz.underlying103 ax x.length cx rfl ?_)
 refine sp (.bool (decide ((k : Int) < x.length))) ?_
 refine qo (t_n ?_)
 refine qP (decide ((k : Int) < x.length)) rfl (fun h4 => ?_) (fun h4 => ?_)
 ·skip
  replace h4 := of_decide_eq_true h4
  refine xg (t_n (qh (xn (qh (qp ?_)))))
  refine sps [.slice ax x.length cx, .int .i64 k] ?_
  obtain ⟨b5, o6, rfl⟩ := H.addr 0 rfl (by omega)
  obtain ⟨ae7Bag, ce7Bag, Fe7Bag, H⟩ := H.vP 0 rfl k k (by omega) (by omega) (by omega)
  refine sw (xE k Tryz.underlying103 ti167 rfl rfl (by omega) (by omega) ?_)
  refine sw (zn [.int .i64 ((x[k]!).qw), .slice ae7Bag (((x[k]!).zF).length) ce7Bag] Tryz.isAgg167 Tryz.sizeOf167 rfl (qK (H.get 1 rfl) 0 2) ?_)
  refine sp (.int .i64 r) ?_
  refine sw (xm #[.agg #[.int .i64 ((x[k]!).qw), .slice ae7Bag (((x[k]!).zF).length) ce7Bag], .int .i64 r] rfl rfl Tryz.call160 (szInto_ok w3 (x[k]!) r ae7Bag ce7Bag Fe7Bag (H.get 0 rfl).1 (by omega)) ?_)
  rintro _ w8 rfl x9
  replace H := H.ext x9
  have := xX (tot (x[k]!)) r
  refine sp (.int .i64 (szR (tot (x[k]!)) r)) ?_
  refine qo (t_n (qh (qp ?_)))
  refine sps [.int .i64 (szR (tot (x[k]!)) r), .bool (decide ((szR (tot (x[k]!)) r : Int) < 0))] ?_
  refine qo (t_n ?_)
  refine qP (decide ((szR (tot (x[k]!)) r : Int) < 0)) rfl (fun h10 => ?_) (fun h10 => ?_)
  ·skip
   replace h10 := of_decide_eq_true h10
   refine qh (qp ?_)
   refine sp (.int .i64 (-1)) ?_
   refine qo (t_n (xh (b_r (t_r (t_r (b_r (t_r ?_)))))))
   refine ret1 (.int .i64 (-1)) rfl rfl ⟨_, rfl, ?_, H.base⟩
   refine congrArg (Value.int .i64) ?_
   have := xX (tot x) left
   have := tot_get (l := x) (k := k) (by omega)
   omega
  replace h10 := of_decide_eq_false h10
  refine xg (b_n (t_n (qp ?_)))
  refine sp (.int .i64 k) ?_
  refine sw (zD k 1 rfl rfl (by omega) ?_)
  refine sp (.int .i64 (k + 1)) ?_
  refine qo ?_
  refine xy (m' := x.length - (k + 1)) (by omega) ⟨_, k + 1, szR (tot (x[k]!)) r, (by exact qj (qj (qj (rfl) rfl) rfl) rfl), ?_, ?_, ?_, rfl, H.sel _ (.refl _) _ (by simp)⟩
  · omega
  · rw [totTo_succ]; omega
  · omega
 replace h4 := of_decide_eq_false h4
 refine zx (t_x (t_x (b_x (t_n (qh (qp ?_))))))
 refine sps [.int .i64 r, .int .i64 r] ?_
 refine qo (t_n (xh ?_))
 refine ret1 (.int .i64 r) rfl rfl ⟨_, rfl, ?_, H.base⟩
 refine congrArg (Value.int .i64) ?_
 obtain rfl : k = x.length := by omega
 have := xX (tot x) left
 rw [tot_list] at *
 omega

theorem szRule_ok (w : World) (x : yB) (left : Int) (jT : Option Addr) (jO : Nat) (FxNeed : List Nat) (jX : Option Addr) (jS : Nat) (FxHave : List Nat) (jU : Option Addr) (jP : Nat) (FxLack : List Nat) (jW : Option Addr) (jR : Nat) (FxHere : List Nat) (QG : Option Addr) (QF : Nat) (FxOut : List Nat) (jV : Option Addr) (jQ : Nat) (FxInto : List Nat) (hxNeed : qM.rep w FxNeed [.slice jT x.qI.length jO] x.qI) (hxHave : qM.rep w FxHave [.slice jX x.qW.length jS] x.qW) (hxLack : qM.rep w FxLack [.slice jU x.qX.length jP] x.qX) (hxHere : qM.rep w FxHere [.slice jW x.xe.length jR] x.xe) (hxOut : qM.rep w FxOut [.slice QG x.xO.length QF] x.xO) (hxInto : qM.rep w FxInto [.slice jV x.qx.length jQ] x.qx) (p0 : 0 ≤ left ∧ left ≤ 2000000) : Calls Tryz.prog 82 #[.agg #[.int .i64 x.qw, .int .i64 x.xM, .slice jT x.qI.length jO, .slice jX x.qW.length jS, .slice jU x.qX.length jP, .slice jW x.xe.length jR, .slice QG x.xO.length QF, .slice jV x.qx.length jQ, .bool x.xG], .int .i64 left] w (Ret (fun v w' => v = .int .i64 (szR (tot x) left)) w) := by
 refine enter (n := 42) Tryz.func82 rfl Tryz.ntmps82 (Nat.le_of_ble_eq_true rfl) ?_
 have H := ((((((St.start w).arg hxInto).arg hxOut).arg hxHere).arg hxLack).arg hxHave).arg hxNeed
 have nhxNeed := qJ hxNeed
 have nhxHave := qJ hxHave
 have nhxLack := qJ hxLack
 have nhxHere := qJ hxHere
 have nhxOut := qJ hxOut
 have nhxInto := qJ hxInto
 clear hxNeed hxHave hxLack hxHere hxOut hxInto
 refine qh (qp ?_)
 refine sw (o_box H (.agg #[.int .i64 x.qw, .int .i64 x.xM, .slice jT x.qI.length jO, .slice jX x.qW.length jS, .slice jU x.qX.length jP, .slice jW x.xe.length jR, .slice QG x.xO.length QF, .slice jV x.qx.length jQ, .bool x.xG]) rfl fun b1 w2 H => ?_)
 replace H : St _ _ [.box b1 [.int .i64 x.qw, .int .i64 x.xM, .slice jT x.qI.length jO, .slice jX x.qW.length jS, .slice jU x.qX.length jP, .slice jW x.xe.length jR, .slice QG x.xO.length QF, .slice jV x.qx.length jQ, .bool x.xG] 105] _ := H
 refine sp (.int .i64 0) ?_
 refine qo (t_n (qh (qp ?_)))
 refine sw (qH b1 (0) 2 Tryz.underlying105 rfl rfl Tryz.sizeOf22 rfl ?_)
 refine sw (qC (.slice jT x.qI.length jO) Tryz.isAgg22 rfl (H.cell 0 rfl rfl) ?_)
 refine sp (.int .i64 left) ?_
 refine sw (xm #[.slice jT x.qI.length jO, .int .i64 left] rfl rfl Tryz.call38 (Qo w2 x.qI left jT jO FxNeed (H.get 0 rfl).1 (by omega)) ?_)
 rintro _ w3 rfl x4
 replace H := H.ext x4
 have := xX (tot x.qI) left
 refine sp (.int .i64 (szR (tot x.qI) left)) ?_
 refine qo (t_n (qh (qh (qp ?_))))
 refine sps [.int .i64 (szR (tot x.qI) left), .bool (decide ((szR (tot x.qI) left : Int) < 0))] ?_
 refine qo (t_n ?_)
 refine qP (decide ((szR (tot x.qI) left : Int) < 0)) rfl (fun h5 => ?_) (fun h5 => ?_)
 ·skip
  replace h5 := of_decide_eq_true h5
  refine qh (qp ?_)
  refine sp (.int .i64 (-1)) ?_
  refine qo (t_n (xh (t_r ?_)))
  refine ret1 (.int .i64 (-1)) rfl rfl ⟨_, rfl, ?_, H.base⟩
  refine congrArg (Value.int .i64) ?_
  have := xX (tot x) left
  rw [tot_RuleD] at *
  try omega
 replace h5 := of_decide_eq_false h5
 refine xg (t_n (qh (qp ?_)))
 refine sw (qH b1 (0) 3 Tryz.underlying105 rfl rfl Tryz.sizeOf22 rfl ?_)
 refine sw (qC (.slice jX x.qW.length jS) Tryz.isAgg22 rfl (H.cell 0 rfl rfl) ?_)
 refine sp (.int .i64 (szR (tot x.qI) left)) ?_
 refine sw (xm #[.slice jX x.qW.length jS, .int .i64 (szR (tot x.qI) left)] rfl rfl Tryz.call38 (Qo w3 x.qW (szR (tot x.qI) left) jX jS FxHave (H.get 1 rfl).1 (by omega)) ?_)
 rintro _ w6 rfl x7
 replace H := H.ext x7
 have := xX (tot x.qW) (szR (tot x.qI) left)
 refine sp (.int .i64 (szR (tot x.qW) (szR (tot x.qI) left))) ?_
 refine qo (t_n (qh (qh (qp ?_))))
 refine sps [.int .i64 (szR (tot x.qW) (szR (tot x.qI) left)), .bool (decide ((szR (tot x.qW) (szR (tot x.qI) left) : Int) < 0))] ?_
 refine qo (t_n ?_)
 refine qP (decide ((szR (tot x.qW) (szR (tot x.qI) left) : Int) < 0)) rfl (fun h8 => ?_) (fun h8 => ?_)
 ·skip
  replace h8 := of_decide_eq_true h8
  refine qh (qp ?_)
  refine sp (.int .i64 (-1)) ?_
  refine qo (t_n (xh (t_r ?_)))
  refine ret1 (.int .i64 (-1)) rfl rfl ⟨_, rfl, ?_, H.base⟩
  refine congrArg (Value.int .i64) ?_
  have := xX (tot x) left
  rw [tot_RuleD] at *
  try omega
 replace h8 := of_decide_eq_false h8
 refine xg (t_n (qh (qp ?_)))
 refine sw (qH b1 (0) 4 Tryz.underlying105 rfl rfl Tryz.sizeOf22 rfl ?_)
 refine sw (qC (.slice jU x.qX.length jP) Tryz.isAgg22 rfl (H.cell 0 rfl rfl) ?_)
 refine sp (.int .i64 (szR (tot x.qW) (szR (tot x.qI) left))) ?_
 refine sw (xm #[.slice jU x.qX.length jP, .int .i64 (szR (tot x.qW) (szR (tot x.qI) left))] rfl rfl Tryz.call38 (Qo w6 x.qX (szR (tot x.qW) (szR (tot x.qI) left)) jU jP FxLack (H.get 2 rfl).1 (by omega)) ?_)
 rintro _ w9 rfl x10
 replace H := H.ext x10
 have := xX (tot x.qX) (szR (tot x.qW) (szR (tot x.qI) left))
 refine sp (.int .i64 (szR (tot x.qX) (szR (tot x.qW) (szR (tot x.qI) left)))) ?_
 refine qo (t_n (qh (qh (qp ?_))))
 refine sps [.int .i64 (szR (tot x.qX) (szR (tot x.qW) (szR (tot x.qI) left))), .bool (decide ((szR (tot x.qX) (szR (tot x.qW) (szR (tot x.qI) left)) : Int) < 0))] ?_
 refine qo (t_n ?_)
 refine qP (decide ((szR (tot x.qX) (szR (tot x.qW) (szR (tot x.qI) left)) : Int) < 0)) rfl (fun h11 => ?_) (fun h11 => ?_)
 ·skip
  replace h11 := of_decide_eq_true h11
  refine qh (qp ?_)
  refine sp (.int .i64 (-1)) ?_
  refine qo (t_n (xh (t_r ?_)))
  refine ret1 (.int .i64 (-1)) rfl rfl ⟨_, rfl, ?_, H.base⟩
  refine congrArg (Value.int .i64) ?_
  have := xX (tot x) left
  rw [tot_RuleD] at *
  try omega
 replace h11 := of_decide_eq_false h11
 refine xg (t_n (qh (qp ?_)))
 refine sw (qH b1 (0) 5 Tryz.underlying105 rfl rfl Tryz.sizeOf22 rfl ?_)
 refine sw (qC (.slice jW x.xe.length jR) Tryz.isAgg22 rfl (H.cell 0 rfl rfl) ?_)
 refine sp (.int .i64 (szR (tot x.qX) (szR (tot x.qW) (szR (tot x.qI) left)))) ?_
 refine sw (xm #[.slice jW x.xe.length jR, .int .i64 (szR (tot x.qX) (szR (tot x.qW) (szR (tot x.qI) left)))] rfl rfl Tryz.call38 (Qo w9 x.xe (szR (tot x.qX) (szR (tot x.qW) (szR (tot x.qI) left))) jW jR FxHere (H.get 3 rfl).1 (by omega)) ?_)
 rintro _ w12 rfl x13
 replace H := H.ext x13
 have := xX (tot x.xe) (szR (tot x.qX) (szR (tot x.qW) (szR (tot x.qI) left)))
 refine sp (.int .i64 (szR (tot x.xe) (szR (tot x.qX) (szR (tot x.qW) (szR (tot x.qI) left))))) ?_
 refine qo (t_n (qh (qh (qp ?_))))
 refine sps [.int .i64 (szR (tot x.xe) (szR (tot x.qX) (szR (tot x.qW) (szR (tot x.qI) left)))), .bool (decide ((szR (tot x.xe) (szR (tot x.qX) (szR (tot x.qW) (szR (tot x.qI) left))) : Int) < 0))] ?_
 refine qo (t_n ?_)
 refine qP (decide ((szR (tot x.xe) (szR (tot x.qX) (szR (tot x.qW) (szR (tot x.qI) left))) : Int) < 0)) rfl (fun h14 => ?_) (fun h14 => ?_)
 ·skip
  replace h14 := of_decide_eq_true h14
  refine qh (qp ?_)
  refine sp (.int .i64 (-1)) ?_
  refine qo (t_n (xh (t_r ?_)))
  refine ret1 (.int .i64 (-1)) rfl rfl ⟨_, rfl, ?_, H.base⟩
  refine congrArg (Value.int .i64) ?_
  have := xX (tot x) left
  rw [tot_RuleD] at *
  try omega
 replace h14 := of_decide_eq_false h14
 refine xg (t_n (qh (qp ?_)))
 refine sw (qH b1 (0) 6 Tryz.underlying105 rfl rfl Tryz.sizeOf22 rfl ?_)
 refine sw (qC (.slice QG x.xO.length QF) Tryz.isAgg22 rfl (H.cell 0 rfl rfl) ?_)
 refine sp (.int .i64 (szR (tot x.xe) (szR (tot x.qX) (szR (tot x.qW) (szR (tot x.qI) left))))) ?_
 refine sw (xm #[.slice QG x.xO.length QF, .int .i64 (szR (tot x.xe) (szR (tot x.qX) (szR (tot x.qW) (szR (tot x.qI) left))))] rfl rfl Tryz.call38 (Qo w12 x.xO (szR (tot x.xe) (szR (tot x.qX) (szR (tot x.qW) (szR (tot x.qI) left)))) QG QF FxOut (H.get 4 rfl).1 (by omega)) ?_)
 rintro _ w15 rfl x16
 replace H := H.ext x16
 have := xX (tot x.xO) (szR (tot x.xe) (szR (tot x.qX) (szR (tot x.qW) (szR (tot x.qI) left))))
 refine sp (.int .i64 (szR (tot x.xO) (szR (tot x.xe) (szR (tot x.qX) (szR (tot x.qW) (szR (tot x.qI) left)))))) ?_
 refine qo (t_n (qh (qh (qp ?_))))
 refine sps [.int .i64 (szR (tot x.xO) (szR (tot x.xe) (szR (tot x.qX) (szR (tot x.qW) (szR (tot x.qI) left))))), .bool (decide ((szR (tot x.xO) (szR (tot x.xe) (szR (tot x.qX) (szR (tot x.qW) (szR (tot x.qI) left)))) : Int) < 0))] ?_
 refine qo (t_n ?_)
 refine qP (decide ((szR (tot x.xO) (szR (tot x.xe) (szR (tot x.qX) (szR (tot x.qW) (szR (tot x.qI) left)))) : Int) < 0)) rfl (fun h17 => ?_) (fun h17 => ?_)
 ·skip
  replace h17 := of_decide_eq_true h17
  refine qh (qp ?_)
  refine sp (.int .i64 (-1)) ?_
  refine qo (t_n (xh (t_r ?_)))
  refine ret1 (.int .i64 (-1)) rfl rfl ⟨_, rfl, ?_, H.base⟩
  refine congrArg (Value.int .i64) ?_
  have := xX (tot x) left
  rw [tot_RuleD] at *
  try omega
 replace h17 := of_decide_eq_false h17
 refine xg (t_n (qh (qp ?_)))
 refine sw (qH b1 (0) 7 Tryz.underlying105 rfl rfl Tryz.sizeOf103 rfl ?_)
 refine sw (qC (.slice jV x.qx.length jQ) Tryz.isAgg103 rfl (H.cell 0 rfl rfl) ?_)
 refine sp (.int .i64 (szR (tot x.xO) (szR (tot x.xe) (szR (tot x.qX) (szR (tot x.qW) (szR (tot x.qI) left)))))) ?_
 refine sw (xm #[.slice jV x.qx.length jQ, .int .i64 (szR (tot x.xO) (szR (tot x.xe) (szR (tot x.qX) (szR (tot x.qW) (szR (tot x.qI) left)))))] rfl rfl Tryz.call135 (szIntoS_ok w15 x.qx (szR (tot x.xO) (szR (tot x.xe) (szR (tot x.qX) (szR (tot x.qW) (szR (tot x.qI) left))))) jV jQ FxInto (H.get 5 rfl).1 (by omega)) ?_)
 rintro _ w18 rfl x19
 replace H := H.ext x19
 have := xX (tot x.qx) (szR (tot x.xO) (szR (tot x.xe) (szR (tot x.qX) (szR (tot x.qW) (szR (tot x.qI) left)))))
 refine sp (.int .i64 (szR (tot x.qx) (szR (tot x.xO) (szR (tot x.xe) (szR (tot x.qX) (szR (tot x.qW) (szR (tot x.qI) left))))))) ?_
 refine qo (t_n (qh (qh (qp ?_))))
 refine sps [.int .i64 (szR (tot x.qx) (szR (tot x.xO) (szR (tot x.xe) (szR (tot x.qX) (szR (tot x.qW) (szR (tot x.qI) left)))))), .bool (decide ((szR (tot x.qx) (szR (tot x.xO) (szR (tot x.xe) (szR (tot x.qX) (szR (tot x.qW) (szR (tot x.qI) left))))) : Int) < 0))] ?_
 refine qo (t_n ?_)
 refine qP (decide ((szR (tot x.qx) (szR (tot x.xO) (szR (tot x.xe) (szR (tot x.qX) (szR (tot x.qW) (szR (tot x.qI) left))))) : Int) < 0)) rfl (fun h20 => ?_) (fun h20 => ?_)
 ·skip
  replace h20 := of_decide_eq_true h20
  refine qh (qp ?_)
  refine sp (.int .i64 (-1)) ?_
  refine qo (t_n (xh (t_r ?_)))
  refine ret1 (.int .i64 (-1)) rfl rfl ⟨_, rfl, ?_, H.base⟩
  refine congrArg (Value.int .i64) ?_
  have := xX (tot x) left
  rw [tot_RuleD] at *
  try omega
 replace h20 := of_decide_eq_false h20
 refine xg (t_n (qh (qp ?_)))
 refine sps [.int .i64 (szR (tot x.qx) (szR (tot x.xO) (szR (tot x.xe) (szR (tot x.qX) (szR (tot x.qW) (szR (tot x.qI) left)))))), .int .i64 (szR (tot x.qx) (szR (tot x.xO) (szR (tot x.xe) (szR (tot x.qX) (szR (tot x.qW) (szR (tot x.qI) left))))))] ?_
 refine qo (t_n (xh ?_))
 refine ret1 (.int .i64 (szR (tot x.qx) (szR (tot x.xO) (szR (tot x.xe) (szR (tot x.qX) (szR (tot x.qW) (szR (tot x.qI) left))))))) rfl rfl ⟨_, rfl, ?_, H.base⟩
 refine congrArg (Value.int .i64) ?_
 have := xX (tot x) left
 rw [tot_RuleD] at *
 try omega

theorem szRuleS_ok (w : World) (x : List yB) (left : Int) (ax : Option Addr) (cx : Nat) (Fx : List Nat) (hx : qM.rep w Fx [.slice ax x.length cx] x) (p0 : 0 ≤ left ∧ left ≤ 2000000) : Calls Tryz.prog 39 #[.slice ax x.length cx, .int .i64 left] w (Ret (fun v w' => v = .int .i64 (szR (tot x) left)) w) := by
 refine enter (n := 27) Tryz.func39 rfl Tryz.ntmps39 (Nat.le_of_ble_eq_true rfl) ?_
 have H := (St.start w).arg hx
 have nhx := qJ hx
 clear hx
 refine qh (qp ?_)
 refine sp (.int .i64 0) ?_
 refine qo (t_n (qh (qp ?_)))
 refine sps [.int .i64 left, .slice ax x.length cx] ?_
 refine sw (zK Tryz.underlying23 ax x.length cx rfl ?_)
 refine sw (o_sub left x.length rfl rfl (by omega) ?_)
 refine sp (.int .i64 (left - x.length)) ?_
 refine qo (t_n (qh (qh (qp ?_))))
 refine sps [.int .i64 (left - x.length), .bool (decide ((left - x.length : Int) < 0))] ?_
 refine qo (t_n ?_)
 refine qP (decide ((left - x.length : Int) < 0)) rfl (fun h1 => ?_) (fun h1 => ?_)
 ·skip
  replace h1 := of_decide_eq_true h1
  refine qh (qp ?_)
  refine sp (.int .i64 (-1)) ?_
  refine qo (t_n (xh (t_r ?_)))
  refine ret1 (.int .i64 (-1)) rfl rfl ⟨_, rfl, ?_, H.base⟩
  refine congrArg (Value.int .i64) ?_
  have := xX (tot x) left
  have := len_tot x
  omega
 replace h1 := of_decide_eq_false h1
 refine xg (t_n (qh (qh (qp ?_))))
 refine sp (.int .i64 0) ?_
 refine qo (t_n (xn ?_))
 refine zC (fun m' ρ w2 => ∃ (junk : Env) (k : Nat) (r : Int), ρ = upd (upd (upd junk 0 (.slice ax x.length cx)) 1 (.int .i64 r)) 5 (.int .i64 k) ∧ (k ≤ x.length) ∧ (r = left - (x.length : Int) - (totTo x k : Nat)) ∧ (0 ≤ r) ∧ m' = x.length - k ∧ St w w2 [] [isF false Fx (.slice ax x.length cx) x]) (x.length - 0) ⟨_, 0, left - (x.length : Int), (by exact qj (qj (qj (rfl) rfl) rfl) rfl), (by omega), (by rw [totTo_zero]; omega), (by omega), rfl, H⟩ ?_
 clear H
 rintro m' ρ w3 ⟨junk, k, r, rfl, i0, i1, i2, rfl, H⟩
 refine qh (qh (qp ?_))
 refine sps [.int .i64 k, .slice ax x.length cx] ?_
 refine sw (zK Tryz.underlying23 ax x.length cx rfl ?_)
 refine sp (.bool (decide ((k : Int) < x.length))) ?_
 refine qo (t_n ?_)
 refine qP (decide ((k : Int) < x.length)) rfl (fun h4 => ?_) (fun h4 => ?_)
 ·skip
  replace h4 := of_decide_eq_true h4
  refine xg (t_n (qh (xn (qh (qp ?_)))))
  refine sps [.slice ax x.length cx, .int .i64 k] ?_
  obtain ⟨b5, o6, rfl⟩ := H.addr 0 rfl (by omega)
  obtain ⟨ae7Need, ce7Need, Fe7Need, ae7Have, ce7Have, Fe7Have, ae7Lack, ce7Lack, Fe7Lack, ae7Here, ce7Here, Fe7Here, ae7Out, ce7Out, Fe7Out, ae7Into, ce7Into, Fe7Into, H⟩ := H.jv 0 rfl k k (by omega) (by omega) (by omega)
  refine sw (xE k Tryz.underlying23 ti105 rfl rfl (by omega) (by omega) ?_)
  refine sw (zn [.int .i64 ((x[k]!).qw), .int .i64 ((x[k]!).xM), .slice ae7Need (((x[k]!).qI).length) ce7Need, .slice ae7Have (((x[k]!).qW).length) ce7Have, .slice ae7Lack (((x[k]!).qX).length) ce7Lack, .slice ae7Here (((x[k]!).xe).length) ce7Here, .slice ae7Out (((x[k]!).xO).length) ce7Out, .slice ae7Into (((x[k]!).qx).length) ce7Into, .bool ((x[k]!).xG)] Tryz.isAgg105 Tryz.sizeOf105 rfl (qK (H.get 6 rfl) 0 9) ?_)
  refine sp (.int .i64 r) ?_
  refine sw (xm #[.agg #[.int .i64 ((x[k]!).qw), .int .i64 ((x[k]!).xM), .slice ae7Need (((x[k]!).qI).length) ce7Need, .slice ae7Have (((x[k]!).qW).length) ce7Have, .slice ae7Lack (((x[k]!).qX).length) ce7Lack, .slice ae7Here (((x[k]!).xe).length) ce7Here, .slice ae7Out (((x[k]!).xO).length) ce7Out, .slice ae7Into (((x[k]!).qx).length) ce7Into, .bool ((x[k]!).xG)], .int .i64 r] rfl rfl Tryz.call82 (szRule_ok w3 (x[k]!) r ae7Need ce7Need Fe7Need ae7Have ce7Have Fe7Have ae7Lack ce7Lack Fe7Lack ae7Here ce7Here Fe7Here ae7Out ce7Out Fe7Out ae7Into ce7Into Fe7Into (H.get 0 rfl).1 (H.get 1 rfl).1 (H.get 2 rfl).1 (H.get 3 rfl).1 (H.get 4 rfl).1 (H.get 5 rfl).1 (by omega)) ?_)
  rintro _ w8 rfl x9
  replace H := H.ext x9
  have := xX (tot (x[k]!)) r
  refine sp (.int .i64 (szR (tot (x[k]!)) r)) ?_
  refine qo (t_n (qh (qp ?_)))
  refine sps [.int .i64 (szR (tot (x[k]!)) r), .bool (decide ((szR (tot (x[k]!)) r : Int) < 0))] ?_
  refine qo (t_n ?_)
  refine qP (decide ((szR (tot (x[k]!)) r : Int) < 0)) rfl (fun h10 => ?_) (fun h10 => ?_)
  ·skip
   replace h10 := of_decide_eq_true h10
   refine qh (qp ?_)
   refine sp (.int .i64 (-1)) ?_
   refine qo (t_n (xh (b_r (t_r (t_r (b_r (t_r ?_)))))))
   refine ret1 (.int .i64 (-1)) rfl rfl ⟨_, rfl, ?_, H.base⟩
   refine congrArg (Value.int .i64) ?_
   have := xX (tot x) left
   have := tot_get (l := x) (k := k) (by omega)
   omega
  replace h10 := of_decide_eq_false h10
  refine xg (b_n (t_n (qp ?_)))
  refine sp (.int .i64 k) ?_
  refine sw (zD k 1 rfl rfl (by omega) ?_)
  refine sp (.int .i64 (k + 1)) ?_
  refine qo ?_
  refine xy (m' := x.length - (k + 1)) (by omega) ⟨_, k + 1, szR (tot (x[k]!)) r, (by exact qj (qj (qj (rfl) rfl) rfl) rfl), ?_, ?_, ?_, rfl, H.sel _ (.refl _) _ (by simp)⟩
  · omega
  · rw [totTo_succ]; omega
  · omega
 replace h4 := of_decide_eq_false h4
 refine zx (t_x (t_x (b_x (t_n (qh (qp ?_))))))
 refine sps [.int .i64 r, .int .i64 r] ?_
 refine qo (t_n (xh ?_))
 refine ret1 (.int .i64 r) rfl rfl ⟨_, rfl, ?_, H.base⟩
 refine congrArg (Value.int .i64) ?_
 obtain rfl : k = x.length := by omega
 have := xX (tot x) left
 rw [tot_list] at *
 omega

theorem szSystem_ok (w : World) (x : qR) (left : Int) (zg : Option Addr) (zf : Nat) (vY : List Nat) (zX : Option Addr) (zW : Nat) (yR : List Nat) (yt : qM.rep w vY [.slice zg x.qg.length zf] x.qg) (Xg : qM.rep w yR [.slice zX x.qf.length zW] x.qf) (p0 : 0 ≤ left ∧ left ≤ 2000000) : Calls Tryz.prog 8 #[.agg #[.int .i64 x.qF, .slice zg x.qg.length zf, .slice zX x.qf.length zW], .int .i64 left] w (Ret (fun v w' => v = .int .i64 (szR (tot x) left)) w) := by
 refine enter (n := 18) Tryz.func8 rfl Tryz.ntmps8 (Nat.le_of_ble_eq_true rfl) ?_
 have H := ((St.start w).arg Xg).arg yt
 have nhxParents := qJ yt
 have nhxRules := qJ Xg
 clear yt Xg
 refine qh (qp ?_)
 refine sw (o_box H (.agg #[.int .i64 x.qF, .slice zg x.qg.length zf, .slice zX x.qf.length zW]) rfl fun b1 w2 H => ?_)
 replace H : St _ _ [.box b1 [.int .i64 x.qF, .slice zg x.qg.length zf, .slice zX x.qf.length zW] 25] _ := H
 refine sp (.int .i64 0) ?_
 refine qo (t_n (qh (qp ?_)))
 refine sw (qH b1 (0) 1 Tryz.underlying25 rfl rfl Tryz.sizeOf22 rfl ?_)
 refine sw (qC (.slice zg x.qg.length zf) Tryz.isAgg22 rfl (H.cell 0 rfl rfl) ?_)
 refine sp (.int .i64 left) ?_
 refine sw (xm #[.slice zg x.qg.length zf, .int .i64 left] rfl rfl Tryz.call38 (Qo w2 x.qg left zg zf vY (H.get 0 rfl).1 (by omega)) ?_)
 rintro _ w3 rfl x4
 replace H := H.ext x4
 have := xX (tot x.qg) left
 refine sp (.int .i64 (szR (tot x.qg) left)) ?_
 refine qo (t_n (qh (qh (qp ?_))))
 refine sps [.int .i64 (szR (tot x.qg) left), .bool (decide ((szR (tot x.qg) left : Int) < 0))] ?_
 refine qo (t_n ?_)
 refine qP (decide ((szR (tot x.qg) left : Int) < 0)) rfl (fun h5 => ?_) (fun h5 => ?_)
 ·skip
  replace h5 := of_decide_eq_true h5
  refine qh (qp ?_)
  refine sp (.int .i64 (-1)) ?_
  refine qo (t_n (xh (t_r ?_)))
  refine ret1 (.int .i64 (-1)) rfl rfl ⟨_, rfl, ?_, H.base⟩
  refine congrArg (Value.int .i64) ?_
  have := xX (tot x) left
  rw [tot_SystemD] at *
  try omega
 replace h5 := of_decide_eq_false h5
 refine xg (t_n (qh (qp ?_)))
 refine sw (qH b1 (0) 2 Tryz.underlying25 rfl rfl Tryz.sizeOf23 rfl ?_)
 refine sw (qC (.slice zX x.qf.length zW) Tryz.isAgg23 rfl (H.cell 0 rfl rfl) ?_)
 refine sp (.int .i64 (szR (tot x.qg) left)) ?_
 refine sw (xm #[.slice zX x.qf.length zW, .int .i64 (szR (tot x.qg) left)] rfl rfl Tryz.call39 (szRuleS_ok w3 x.qf (szR (tot x.qg) left) zX zW yR (H.get 1 rfl).1 (by omega)) ?_)
 rintro _ w6 rfl x7
 replace H := H.ext x7
 have := xX (tot x.qf) (szR (tot x.qg) left)
 refine sp (.int .i64 (szR (tot x.qf) (szR (tot x.qg) left))) ?_
 refine qo (t_n (qh (qh (qp ?_))))
 refine sps [.int .i64 (szR (tot x.qf) (szR (tot x.qg) left)), .bool (decide ((szR (tot x.qf) (szR (tot x.qg) left) : Int) < 0))] ?_
 refine qo (t_n ?_)
 refine qP (decide ((szR (tot x.qf) (szR (tot x.qg) left) : Int) < 0)) rfl (fun h8 => ?_) (fun h8 => ?_)
 ·skip
  replace h8 := of_decide_eq_true h8
  refine qh (qp ?_)
  refine sp (.int .i64 (-1)) ?_
  refine qo (t_n (xh (t_r ?_)))
  refine ret1 (.int .i64 (-1)) rfl rfl ⟨_, rfl, ?_, H.base⟩
  refine congrArg (Value.int .i64) ?_
  have := xX (tot x) left
  rw [tot_SystemD] at *
  try omega
 replace h8 := of_decide_eq_false h8
 refine xg (t_n (qh (qp ?_)))
 refine sps [.int .i64 (szR (tot x.qf) (szR (tot x.qg) left)), .int .i64 (szR (tot x.qf) (szR (tot x.qg) left))] ?_
 refine qo (t_n (xh ?_))
 refine ret1 (.int .i64 (szR (tot x.qf) (szR (tot x.qg) left))) rfl rfl ⟨_, rfl, ?_, H.base⟩
 refine congrArg (Value.int .i64) ?_
 have := xX (tot x) left
 rw [tot_SystemD] at *
 try omega

theorem szState_ok (w : World) (x : xF) (left : Int) (zV : Option Addr) (zU : Nat) (yI : List Nat) (jb : Option Addr) (ja : Nat) (QJ : List Nat) (zB : Option Addr) (zA : Nat) (jr : List Nat) (Xh : qM.rep w yI [.slice zV x.qy.length zU] x.qy) (hxBags : qM.rep w QJ [.slice jb x.qG.length ja] x.qG) (Qc : qM.rep w jr [.slice zB x.qB.length zA] x.qB) (p0 : 0 ≤ left ∧ left ≤ 2000000) : Calls Tryz.prog 9 #[.agg #[.slice zV x.qy.length zU, .slice jb x.qG.length ja, .slice zB x.qB.length zA], .int .i64 left] w (Ret (fun v w' => v = .int .i64 (szR (tot x) left)) w) := by
 refine enter (n := 24) Tryz.func9 rfl Tryz.ntmps9 (Nat.le_of_ble_eq_true rfl) ?_
 have H := (((St.start w).arg Qc).arg hxBags).arg Xh
 have nhxAlive := qJ Xh
 have nhxBags := qJ hxBags
 have nhxAround := qJ Qc
 clear Xh hxBags Qc
 refine qh (qp ?_)
 refine sw (o_box H (.agg #[.slice zV x.qy.length zU, .slice jb x.qG.length ja, .slice zB x.qB.length zA]) rfl fun b1 w2 H => ?_)
 replace H : St _ _ [.box b1 [.slice zV x.qy.length zU, .slice jb x.qG.length ja, .slice zB x.qB.length zA] 29] _ := H
 refine sp (.int .i64 0) ?_
 refine qo (t_n (qh (qp ?_)))
 refine sw (qH b1 (0) 0 Tryz.underlying29 rfl rfl Tryz.sizeOf26 rfl ?_)
 refine sw (qC (.slice zV x.qy.length zU) Tryz.isAgg26 rfl (H.cell 0 rfl rfl) ?_)
 refine sp (.int .i64 left) ?_
 refine sw (xm #[.slice zV x.qy.length zU, .int .i64 left] rfl rfl Tryz.call40 (szBoolS_ok w2 x.qy left zV zU yI (H.get 0 rfl).1 (by omega)) ?_)
 rintro _ w3 rfl x4
 replace H := H.ext x4
 have := xX (tot x.qy) left
 refine sp (.int .i64 (szR (tot x.qy) left)) ?_
 refine qo (t_n (qh (qh (qp ?_))))
 refine sps [.int .i64 (szR (tot x.qy) left), .bool (decide ((szR (tot x.qy) left : Int) < 0))] ?_
 refine qo (t_n ?_)
 refine qP (decide ((szR (tot x.qy) left : Int) < 0)) rfl (fun h5 => ?_) (fun h5 => ?_)
 ·skip
  replace h5 := of_decide_eq_true h5
  refine qh (qp ?_)
  refine sp (.int .i64 (-1)) ?_
  refine qo (t_n (xh (t_r ?_)))
  refine ret1 (.int .i64 (-1)) rfl rfl ⟨_, rfl, ?_, H.base⟩
  refine congrArg (Value.int .i64) ?_
  have := xX (tot x) left
  rw [tot_StateD] at *
  try omega
 replace h5 := of_decide_eq_false h5
 refine xg (t_n (qh (qp ?_)))
 refine sw (qH b1 (0) 1 Tryz.underlying29 rfl rfl Tryz.sizeOf27 rfl ?_)
 refine sw (qC (.slice jb x.qG.length ja) Tryz.isAgg27 rfl (H.cell 0 rfl rfl) ?_)
 refine sp (.int .i64 (szR (tot x.qy) left)) ?_
 refine sw (xm #[.slice jb x.qG.length ja, .int .i64 (szR (tot x.qy) left)] rfl rfl Tryz.call29 (szInt64SS_ok w3 x.qG (szR (tot x.qy) left) jb ja QJ (H.get 1 rfl).1 (by omega)) ?_)
 rintro _ w6 rfl x7
 replace H := H.ext x7
 have := xX (tot x.qG) (szR (tot x.qy) left)
 refine sp (.int .i64 (szR (tot x.qG) (szR (tot x.qy) left))) ?_
 refine qo (t_n (qh (qh (qp ?_))))
 refine sps [.int .i64 (szR (tot x.qG) (szR (tot x.qy) left)), .bool (decide ((szR (tot x.qG) (szR (tot x.qy) left) : Int) < 0))] ?_
 refine qo (t_n ?_)
 refine qP (decide ((szR (tot x.qG) (szR (tot x.qy) left) : Int) < 0)) rfl (fun h8 => ?_) (fun h8 => ?_)
 ·skip
  replace h8 := of_decide_eq_true h8
  refine qh (qp ?_)
  refine sp (.int .i64 (-1)) ?_
  refine qo (t_n (xh (t_r ?_)))
  refine ret1 (.int .i64 (-1)) rfl rfl ⟨_, rfl, ?_, H.base⟩
  refine congrArg (Value.int .i64) ?_
  have := xX (tot x) left
  rw [tot_StateD] at *
  try omega
 replace h8 := of_decide_eq_false h8
 refine xg (t_n (qh (qp ?_)))
 refine sw (qH b1 (0) 2 Tryz.underlying29 rfl rfl Tryz.sizeOf22 rfl ?_)
 refine sw (qC (.slice zB x.qB.length zA) Tryz.isAgg22 rfl (H.cell 0 rfl rfl) ?_)
 refine sp (.int .i64 (szR (tot x.qG) (szR (tot x.qy) left))) ?_
 refine sw (xm #[.slice zB x.qB.length zA, .int .i64 (szR (tot x.qG) (szR (tot x.qy) left))] rfl rfl Tryz.call38 (Qo w6 x.qB (szR (tot x.qG) (szR (tot x.qy) left)) zB zA jr (H.get 2 rfl).1 (by omega)) ?_)
 rintro _ w9 rfl x10
 replace H := H.ext x10
 have := xX (tot x.qB) (szR (tot x.qG) (szR (tot x.qy) left))
 refine sp (.int .i64 (szR (tot x.qB) (szR (tot x.qG) (szR (tot x.qy) left)))) ?_
 refine qo (t_n (qh (qh (qp ?_))))
 refine sps [.int .i64 (szR (tot x.qB) (szR (tot x.qG) (szR (tot x.qy) left))), .bool (decide ((szR (tot x.qB) (szR (tot x.qG) (szR (tot x.qy) left)) : Int) < 0))] ?_
 refine qo (t_n ?_)
 refine qP (decide ((szR (tot x.qB) (szR (tot x.qG) (szR (tot x.qy) left)) : Int) < 0)) rfl (fun h11 => ?_) (fun h11 => ?_)
 ·skip
  replace h11 := of_decide_eq_true h11
  refine qh (qp ?_)
  refine sp (.int .i64 (-1)) ?_
  refine qo (t_n (xh (t_r ?_)))
  refine ret1 (.int .i64 (-1)) rfl rfl ⟨_, rfl, ?_, H.base⟩
  refine congrArg (Value.int .i64) ?_
  have := xX (tot x) left
  rw [tot_StateD] at *
  try omega
 replace h11 := of_decide_eq_false h11
 refine xg (t_n (qh (qp ?_)))
 refine sps [.int .i64 (szR (tot x.qB) (szR (tot x.qG) (szR (tot x.qy) left))), .int .i64 (szR (tot x.qB) (szR (tot x.qG) (szR (tot x.qy) left)))] ?_
 refine qo (t_n (xh ?_))
 refine ret1 (.int .i64 (szR (tot x.qB) (szR (tot x.qG) (szR (tot x.qy) left)))) rfl rfl ⟨_, rfl, ?_, H.base⟩
 refine congrArg (Value.int .i64) ?_
 have := xX (tot x) left
 rw [tot_StateD] at *
 try omega

theorem Qn (w : World) (x : List Int) (ax : Option Addr) (cx : Nat) (Fx : List Nat) (hx : qM.rep w Fx [.slice ax x.length cx] x) (p0 : tot x ≤ 2000000) : Calls Tryz.prog 25 #[.slice ax x.length cx] w (Ret (fun v w' => OwnNew w w' 2 v x) w) := by
 refine enter (n := 22) Tryz.func25 rfl Tryz.ntmps25 (Nat.le_of_ble_eq_true rfl) ?_
 have H := (St.start w).arg hx
 have nhx := qJ hx
 clear hx
 have p1 := len_tot x
 refine qh (qp ?_)
 refine sp (.slice none 0 0) ?_
 refine qo (t_n (qh (qp ?_)))
 refine sp (.slice ax x.length cx) ?_
 refine sw (zK Tryz.underlying22 ax x.length cx rfl ?_)
 refine sw (o_make1 H Tryz.underlying22 ti2 rfl x.length rfl rfl (by omega) (by omega) fun b1 w2 H => ?_)
 replace H : St _ _ [.box b1 (List.replicate x.length (.int .i64 0)) 2] _ := H
 refine sp (.slice (aa b1 0) x.length x.length) ?_
 refine qo (t_n (qh (qh (qp ?_))))
 refine sp (.int .i64 0) ?_
 refine qo (t_n (xn ?_))
 refine zC (fun m' ρ w3 => ∃ (junk : Env) (k : Nat), ρ = upd (upd (upd (upd junk 0 (.slice ax x.length cx)) 2 (.slice none 0 0)) 3 (.slice (aa b1 0) x.length x.length)) 4 (.int .i64 k) ∧ (k ≤ x.length) ∧ m' = x.length - k ∧ St w w3 [.box b1 ((x.take k).map (Value.int .i64) ++ List.replicate (x.length - (k)) (.int .i64 0)) 2] [isF false Fx (.slice ax x.length cx) x]) (x.length - 0) ⟨_, 0, (by exact qj (qj (qj (qj (rfl) rfl) rfl) rfl) rfl), (by omega), rfl, H⟩ ?_
 clear H
 rintro m' ρ w4 ⟨junk, k, rfl, i0, rfl, H⟩
 refine qh (qh (qp ?_))
 refine sps [.int .i64 k, .slice ax x.length cx] ?_
 refine sw (zK Tryz.underlying22 ax x.length cx rfl ?_)
 refine sp (.bool (decide ((k : Int) < x.length))) ?_
 refine qo (t_n ?_)
 refine qP (decide ((k : Int) < x.length)) rfl (fun h5 => ?_) (fun h5 => ?_)
 ·skip
  replace h5 := of_decide_eq_true h5
  refine xg (t_n (qh (xn (qp ?_))))
  refine sps [.slice (aa b1 0) x.length x.length, .int .i64 k, .slice ax x.length cx, .int .i64 k] ?_
  obtain ⟨b6, o7, rfl⟩ := H.addr 0 rfl (by omega)
  refine sw (xE k Tryz.underlying22 ti2 rfl rfl (by omega) (by omega) ?_)
  refine sw (qC (.int .i64 (x[k]!)) Tryz.isAgg2 rfl (H.vH 0 rfl k (by omega) (by omega)) ?_)
  refine sw (xE k Tryz.underlying22 ti2 rfl rfl (by omega) (by omega) ?_)
  refine sw (jC H 0 rfl (.int .i64 (x[k]!)) Tryz.sizeOf2 rfl rfl rfl (by simp only [List.length_append, List.length_replicate]; have : ((x.take k).map (Value.int .i64)).length = k := (by (simp; omega)); omega) fun w9 H => ?_)
  rw [fill_set (k := k) (by (simp; omega)) (by simp) (by omega)] at H
  replace H : St _ _ [.box b1 ((x.take k).map (Value.int .i64) ++ [.int .i64 (x[k]!)] ++ List.replicate (x.length - (k + 1)) (.int .i64 0)) 2] _ := H
  refine qo (b_n (t_n (qp ?_)))
  refine sp (.int .i64 k) ?_
  refine sw (zD k 1 rfl rfl (by omega) ?_)
  refine sp (.int .i64 (k + 1)) ?_
  refine qo ?_
  rw [show (x.take k).map (Value.int .i64) ++ [.int .i64 (x[k]!)] = (x.take (k + 1)).map (Value.int .i64) from by exact map_take_snoc _ (by omega)] at H
  refine xy (m' := x.length - (k + 1)) (by omega) ⟨_, k + 1, (by exact qj (qj (qj (qj (rfl) rfl) rfl) rfl) rfl), ?_, rfl, H⟩
  · omega
 replace h5 := of_decide_eq_false h5
 refine zx (t_x (t_x (b_x (t_n (qh (qp ?_))))))
 refine sps [.slice (aa b1 0) x.length x.length, .slice (aa b1 0) x.length x.length] ?_
 refine qo (t_n (xh ?_))
 refine ret1 (.slice (aa b1 0) x.length x.length) rfl rfl ⟨_, rfl, ?_, H.base⟩
 rw [List.take_of_length_le (by omega : x.length ≤ k)] at H
 rw [fill_end1 (by omega)] at H
 replace H := H.boxRow 0 rfl 1 x.length (by (first | omega | (simp; done) | (simp; omega))) (by unfold maxLen; omega)
 exact H.newInts 0 rfl (by omega)

theorem toBoolS_ok (w : World) (x : List Bool) (ax : Option Addr) (cx : Nat) (Fx : List Nat) (hx : qM.rep w Fx [.slice ax x.length cx] x) (p0 : tot x ≤ 2000000) : Calls Tryz.prog 48 #[.slice ax x.length cx] w (Ret (fun v w' => OwnNew w w' 4 v x) w) := by
 refine enter (n := 22) Tryz.func48 rfl Tryz.ntmps48 (Nat.le_of_ble_eq_true rfl) ?_
 have H := (St.start w).arg hx
 have nhx := qJ hx
 clear hx
 have p1 := len_tot x
 refine qh (qp ?_)
 refine sp (.slice none 0 0) ?_
 refine qo (t_n (qh (qp ?_)))
 refine sp (.slice ax x.length cx) ?_
 refine sw (zK Tryz.underlying26 ax x.length cx rfl ?_)
 refine sw (o_make1 H Tryz.underlying26 ti4 rfl x.length rfl rfl (by omega) (by omega) fun b1 w2 H => ?_)
 replace H : St _ _ [.box b1 (List.replicate x.length (.bool false)) 4] _ := H
 refine sp (.slice (aa b1 0) x.length x.length) ?_
 refine qo (t_n (qh (qh (qp ?_))))
 refine sp (.int .i64 0) ?_
 refine qo (t_n (xn ?_))
 refine zC (fun m' ρ w3 => ∃ (junk : Env) (k : Nat), ρ = upd (upd (upd (upd junk 0 (.slice ax x.length cx)) 2 (.slice none 0 0)) 3 (.slice (aa b1 0) x.length x.length)) 4 (.int .i64 k) ∧ (k ≤ x.length) ∧ m' = x.length - k ∧ St w w3 [.box b1 ((x.take k).map (Value.bool) ++ List.replicate (x.length - (k)) (.bool false)) 4] [isF false Fx (.slice ax x.length cx) x]) (x.length - 0) ⟨_, 0, (by exact qj (qj (qj (qj (rfl) rfl) rfl) rfl) rfl), (by omega), rfl, H⟩ ?_
 clear H
 rintro m' ρ w4 ⟨junk, k, rfl, i0, rfl, H⟩
 refine qh (qh (qp ?_))
 refine sps [.int .i64 k, .slice ax x.length cx] ?_
 refine sw (zK Tryz.underlying26 ax x.length cx rfl ?_)
 refine sp (.bool (decide ((k : Int) < x.length))) ?_
 refine qo (t_n ?_)
 refine qP (decide ((k : Int) < x.length)) rfl (fun h5 => ?_) (fun h5 => ?_)
 ·skip
  replace h5 := of_decide_eq_true h5
  refine xg (t_n (qh (xn (qp ?_))))
  refine sps [.slice (aa b1 0) x.length x.length, .int .i64 k, .slice ax x.length cx, .int .i64 k] ?_
  obtain ⟨b6, o7, rfl⟩ := H.addr 0 rfl (by omega)
  refine sw (xE k Tryz.underlying26 ti4 rfl rfl (by omega) (by omega) ?_)
  refine sw (qC (.bool (x[k]!)) Tryz.isAgg4 rfl (H.yU 0 rfl k (by omega) (by omega)) ?_)
  refine sw (xE k Tryz.underlying26 ti4 rfl rfl (by omega) (by omega) ?_)
  refine sw (jC H 0 rfl (.bool (x[k]!)) Tryz.sizeOf4 rfl rfl rfl (by simp only [List.length_append, List.length_replicate]; have : ((x.take k).map (Value.bool)).length = k := (by (simp; omega)); omega) fun w9 H => ?_)
  rw [fill_set (k := k) (by (simp; omega)) (by simp) (by omega)] at H
  replace H : St _ _ [.box b1 ((x.take k).map (Value.bool) ++ [.bool (x[k]!)] ++ List.replicate (x.length - (k + 1)) (.bool false)) 4] _ := H
  refine qo (b_n (t_n (qp ?_)))
  refine sp (.int .i64 k) ?_
  refine sw (zD k 1 rfl rfl (by omega) ?_)
  refine sp (.int .i64 (k + 1)) ?_
  refine qo ?_
  rw [show (x.take k).map (Value.bool) ++ [.bool (x[k]!)] = (x.take (k + 1)).map (Value.bool) from by exact map_take_snoc _ (by omega)] at H
  refine xy (m' := x.length - (k + 1)) (by omega) ⟨_, k + 1, (by exact qj (qj (qj (qj (rfl) rfl) rfl) rfl) rfl), ?_, rfl, H⟩
  · omega
 replace h5 := of_decide_eq_false h5
 refine zx (t_x (t_x (b_x (t_n (qh (qp ?_))))))
 refine sps [.slice (aa b1 0) x.length x.length, .slice (aa b1 0) x.length x.length] ?_
 refine qo (t_n (xh ?_))
 refine ret1 (.slice (aa b1 0) x.length x.length) rfl rfl ⟨_, rfl, ?_, H.base⟩
 rw [List.take_of_length_le (by omega : x.length ≤ k)] at H
 rw [fill_end1 (by omega)] at H
 replace H := H.boxRow 0 rfl 1 x.length (by (first | omega | (simp; done) | (simp; omega))) (by unfold maxLen; omega)
 exact H.newBools 0 rfl (by omega)

theorem toInt64SS_ok (w : World) (x : List (List Int)) (ax : Option Addr) (cx : Nat) (Fx : List Nat) (hx : qM.rep w Fx [.slice ax x.length cx] x) (p0 : tot x ≤ 2000000) : Calls Tryz.prog 31 #[.slice ax x.length cx] w (Ret (fun v w' => OwnNew w w' 22 v x) w) := by
 refine enter (n := 23) Tryz.func31 rfl Tryz.ntmps31 (Nat.le_of_ble_eq_true rfl) ?_
 have H := (St.start w).arg hx
 have nhx := qJ hx
 clear hx
 have p1 := len_tot x
 refine qh (qp ?_)
 refine sp (.slice none 0 0) ?_
 refine qo (t_n (qh (qp ?_)))
 refine sp (.slice ax x.length cx) ?_
 refine sw (zK Tryz.underlying27 ax x.length cx rfl ?_)
 refine sw (o_make1 H Tryz.underlying27 ti22 rfl x.length rfl rfl (by omega) (by omega) fun b1 w2 H => ?_)
 replace H : St _ _ [.box b1 (List.replicate x.length (.slice none 0 0)) 22] _ := H
 refine sp (.slice (aa b1 0) x.length x.length) ?_
 refine qo (t_n (qh (qh (qp ?_))))
 refine sp (.int .i64 0) ?_
 refine qo (t_n (xn ?_))
 replace H := H.Qp (α := List Int)
 refine zC (fun m' ρ w3 => ∃ (junk : Env) (k : Nat) (xs3 : List Value) (Fr3 : List Nat), ρ = upd (upd (upd (upd junk 0 (.slice ax x.length cx)) 2 (.slice none 0 0)) 3 (.slice (aa b1 0) x.length x.length)) 4 (.int .i64 k) ∧ (k ≤ x.length) ∧ (xs3.length = k * 1) ∧ (∀ b ∈ Fr3, w.heap.size ≤ b) ∧ (Fr3.Nodup) ∧ m' = x.length - k ∧ St w w3 [.box b1 (xs3 ++ List.replicate (x.length - (k)) (.slice none 0 0)) 22] [jo true Fr3 xs3 (x.take k), isF false Fx (.slice ax x.length cx) x]) (x.length - 0) ⟨_, 0, [], [], (by exact qj (qj (qj (qj (rfl) rfl) rfl) rfl) rfl), (by omega), (by rfl), (by simp), (by simp), rfl, H⟩ ?_
 clear H
 rintro m' ρ w4 ⟨junk, k, xs3, Fr3, rfl, i0, hl3, nf3, nd3, rfl, H⟩
 have p2 := fun h => tot_get (l := x) (k := k) h
 refine qh (qh (qp ?_))
 refine sps [.int .i64 k, .slice ax x.length cx] ?_
 refine sw (zK Tryz.underlying27 ax x.length cx rfl ?_)
 refine sp (.bool (decide ((k : Int) < x.length))) ?_
 refine qo (t_n ?_)
 refine qP (decide ((k : Int) < x.length)) rfl (fun h5 => ?_) (fun h5 => ?_)
 ·skip
  replace h5 := of_decide_eq_true h5
  refine xg (t_n (qh (xn (qp ?_))))
  refine sps [.slice (aa b1 0) x.length x.length, .int .i64 k, .slice ax x.length cx, .int .i64 k] ?_
  obtain ⟨b6, o7, rfl⟩ := H.addr 1 rfl (by omega)
  obtain ⟨ae8, ce8, Fe8, H⟩ := H.Xk 1 rfl k k (by omega) (by omega) (by omega)
  refine sw (xE k Tryz.underlying27 ti22 rfl rfl (by omega) (by omega) ?_)
  refine sw (qC (.slice ae8 ((x[k]!).length) ce8) Tryz.isAgg22 rfl (H.xU 1 rfl 0 rfl) ?_)
  have szx10 := H.base.size
  have lt11 := H.repsLt 2 rfl
  refine sw (xm #[.slice ae8 ((x[k]!).length) ce8] rfl rfl Tryz.call25 (Qn w4 (x[k]!) ae8 ce8 Fe8 (H.get 0 rfl).1 (by first | omega | (have := p2 (by omega); omega))) ?_)
  rintro v12 w9 r12 x10
  obtain ⟨a12, c12, F12, rfl, f12, H⟩ := H.add_is x10 r12.isNew
  have d12 := f12.2
  have q12 := f12.1
  replace f12 : ∀ b ∈ F12, w.heap.size ≤ b := fun b hb => Nat.le_trans szx10 (f12.1 b hb)
  refine sw (xE k Tryz.underlying27 ti22 rfl rfl (by omega) (by omega) ?_)
  refine sw (jC H 0 rfl (.slice a12 ((x[k]!).length) c12) Tryz.sizeOf22 rfl rfl rfl (by simp only [List.length_append, List.length_replicate]; have : (xs3).length = k := (by (omega)); omega) fun w14 H => ?_)
  rw [fill_set (k := k) (by (omega)) (by simp) (by omega)] at H
  replace H : St _ _ [.box b1 (xs3 ++ [.slice a12 ((x[k]!).length) c12] ++ List.replicate (x.length - (k + 1)) (.slice none 0 0)) 22] _ := H
  refine qo (b_n (t_n (qp ?_)))
  refine sp (.int .i64 k) ?_
  refine sw (zD k 1 rfl rfl (by omega) ?_)
  refine sp (.int .i64 (k + 1)) ?_
  refine qo ?_
  replace H := H.repsSnoc 3 rfl 0 rfl
  rw [show (x.take k) ++ [(x[k]!)] = x.take (k + 1) from by exact take_snoc (by omega)] at H
  refine xy (m' := x.length - (k + 1)) (by omega) ⟨_, k + 1, (xs3 ++ [.slice a12 ((x[k]!).length) c12]), (Fr3 ++ F12), (by exact qj (qj (qj (qj (rfl) rfl) rfl) rfl) rfl), ?_, ?_, ?_, ?_, rfl, H.sel _ (.refl _) _ (by simp)⟩
  · omega
  · first | (simp only [List.length_append, List.length_cons, List.length_nil]; omega) | (simp [hl3]; done) | (simp; omega)
  · exact Qh nf3 f12
  · exact Qg nd3 d12 lt11 q12
 replace h5 := of_decide_eq_false h5
 refine zx (t_x (t_x (b_x (t_n (qh (qp ?_))))))
 refine sps [.slice (aa b1 0) x.length x.length, .slice (aa b1 0) x.length x.length] ?_
 refine qo (t_n (xh ?_))
 refine ret1 (.slice (aa b1 0) x.length x.length) rfl rfl ⟨_, rfl, ?_, H.base⟩
 rw [List.take_of_length_le (by omega : x.length ≤ k)] at H
 rw [fill_end1 (by omega)] at H
 replace H := H.boxRow 0 rfl 1 x.length (by omega) (by unfold maxLen; omega)
 exact H.newRow 0 rfl 0 rfl (by omega) (by assumption) (by assumption)

theorem toInto_ok (w : World) (x : IntoD) (axBag : Option Addr) (cxBag : Nat) (FxBag : List Nat) (hxBag : qM.rep w FxBag [.slice axBag x.zF.length cxBag] x.zF) (p0 : tot x ≤ 2000000) : Calls Tryz.prog 161 #[.agg #[.int .i64 x.qw, .slice axBag x.zF.length cxBag]] w (Ret (fun v w' => New_IntoD w w' v x) w) := by
 refine enter (n := 12) Tryz.func161 rfl Tryz.ntmps161 (Nat.le_of_ble_eq_true rfl) ?_
 have H := (St.start w).arg hxBag
 have nhxBag := qJ hxBag
 clear hxBag
 have p1 := tot_IntoD x
 refine qh (qp ?_)
 refine sw (o_box H (.agg #[.int .i64 x.qw, .slice axBag x.zF.length cxBag]) rfl fun b1 w2 H => ?_)
 replace H : St _ _ [.box b1 [.int .i64 x.qw, .slice axBag x.zF.length cxBag] 167] _ := H
 refine sw (o_alloc H ti115 fun b3 w4 H => ?_)
 replace H : St _ _ [.box b3 [.int .i64 0, .slice none 0 0] 115, .box b1 [.int .i64 x.qw, .slice axBag x.zF.length cxBag] 167] _ := H
 refine qo (t_n (qh (qp ?_)))
 refine sw (o_alloc H ti115 fun b5 w6 H => ?_)
 replace H : St _ _ [.box b5 [.int .i64 0, .slice none 0 0] 115, .box b3 [.int .i64 0, .slice none 0 0] 115, .box b1 [.int .i64 x.qw, .slice axBag x.zF.length cxBag] 167] _ := H
 refine qo (t_n (qh (qp ?_)))
 refine sw (qH b1 (0) 0 Tryz.underlying167 rfl rfl Tryz.sizeOf2 rfl ?_)
 refine sw (qC (.int .i64 x.qw) Tryz.isAgg2 rfl (H.cell 2 rfl rfl) ?_)
 refine sw (qH b5 (0) 0 Tryz.underlying115 rfl rfl Tryz.sizeOf2 rfl ?_)
 refine sw (jC H 0 rfl (.int .i64 x.qw) Tryz.sizeOf2 rfl rfl rfl (Nat.le_of_ble_eq_true rfl) fun w7 H => ?_)
 replace H : St _ _ [.box b5 [.int .i64 x.qw, .slice none 0 0] 115, .box b3 [.int .i64 0, .slice none 0 0] 115, .box b1 [.int .i64 x.qw, .slice axBag x.zF.length cxBag] 167] _ := H
 refine qo (t_n (qh (qp ?_)))
 refine sw (qH b1 (0) 1 Tryz.underlying167 rfl rfl Tryz.sizeOf22 rfl ?_)
 refine sw (qC (.slice axBag x.zF.length cxBag) Tryz.isAgg22 rfl (H.cell 2 rfl rfl) ?_)
 have szx9 := H.base.size
 refine sw (xm #[.slice axBag x.zF.length cxBag] rfl rfl Tryz.call25 (Qn w7 x.zF axBag cxBag FxBag (H.get 0 rfl).1 (by first | omega | (have := p2 (by omega); omega))) ?_)
 rintro v10 w8 r10 x9
 obtain ⟨a10, c10, F10, rfl, f10, H⟩ := H.add_is x9 r10.isNew
 have d10 := f10.2
 have q10 := f10.1
 replace f10 : ∀ b ∈ F10, w.heap.size ≤ b := fun b hb => Nat.le_trans szx9 (f10.1 b hb)
 refine sw (qH b5 (0) 1 Tryz.underlying115 rfl rfl Tryz.sizeOf22 rfl ?_)
 refine sw (jC H 0 rfl (.slice a10 x.zF.length c10) Tryz.sizeOf22 rfl rfl rfl (Nat.le_of_ble_eq_true rfl) fun w11 H => ?_)
 replace H : St _ _ [.box b5 [.int .i64 x.qw, .slice a10 x.zF.length c10] 115, .box b3 [.int .i64 0, .slice none 0 0] 115, .box b1 [.int .i64 x.qw, .slice axBag x.zF.length cxBag] 167] _ := H
 refine qo (t_n (qh (qp ?_)))
 refine sw (zn [.int .i64 x.qw, .slice a10 x.zF.length c10] Tryz.isAgg115 Tryz.sizeOf115 rfl (qK (H.cells 0 rfl) 0 2) ?_)
 refine sw (o_store H 1 rfl (.agg #[.int .i64 x.qw, .slice a10 x.zF.length c10]) Tryz.sizeOf115 rfl rfl (by simp [Value.oneCell', Value.cells]) (Nat.le_of_ble_eq_true rfl) fun w12 H => ?_)
 replace H : St _ _ [.box b5 [.int .i64 x.qw, .slice a10 x.zF.length c10] 115, .box b3 [.int .i64 x.qw, .slice a10 x.zF.length c10] 115, .box b1 [.int .i64 x.qw, .slice axBag x.zF.length cxBag] 167] _ := H
 refine qo (t_n (xh ?_))
 refine retC H 1 rfl rfl Tryz.isAgg115 Tryz.sizeOf115 rfl ⟨_, rfl, ?_, H.base⟩
 exact ⟨_, _, _, rfl, (H.get 0 rfl).1, f10, d10, ((H.get 0 rfl).2 rfl)⟩

theorem toIntoS_ok (w : World) (x : List IntoD) (ax : Option Addr) (cx : Nat) (Fx : List Nat) (hx : qM.rep w Fx [.slice ax x.length cx] x) (p0 : tot x ≤ 2000000) : Calls Tryz.prog 140 #[.slice ax x.length cx] w (Ret (fun v w' => OwnNew w w' 115 v x) w) := by
 refine enter (n := 23) Tryz.func140 rfl Tryz.ntmps140 (Nat.le_of_ble_eq_true rfl) ?_
 have H := (St.start w).arg hx
 have nhx := qJ hx
 clear hx
 have p1 := len_tot x
 refine qh (qp ?_)
 refine sp (.slice none 0 0) ?_
 refine qo (t_n (qh (qp ?_)))
 refine sp (.slice ax x.length cx) ?_
 refine sw (zK Tryz.underlying103 ax x.length cx rfl ?_)
 refine sw (o_makeN H Tryz.underlying108 ti115 rfl (by decide) x.length rfl rfl (by omega) (by omega) fun b1 w2 H => ?_)
 replace H : St _ _ [.box b1 ((List.replicate x.length [.int .i64 0, .slice none 0 0]).flatten) 115] _ := H
 refine sp (.slice (aa b1 0) x.length x.length) ?_
 refine qo (t_n (qh (qh (qp ?_))))
 refine sp (.int .i64 0) ?_
 refine qo (t_n (xn ?_))
 replace H := H.Qp (α := IntoD)
 refine zC (fun m' ρ w3 => ∃ (junk : Env) (k : Nat) (xs3 : List Value) (Fr3 : List Nat), ρ = upd (upd (upd (upd junk 0 (.slice ax x.length cx)) 2 (.slice none 0 0)) 3 (.slice (aa b1 0) x.length x.length)) 4 (.int .i64 k) ∧ (k ≤ x.length) ∧ (xs3.length = k * 2) ∧ (∀ b ∈ Fr3, w.heap.size ≤ b) ∧ (Fr3.Nodup) ∧ m' = x.length - k ∧ St w w3 [.box b1 (xs3 ++ (List.replicate (x.length - (k)) [.int .i64 0, .slice none 0 0]).flatten) 115] [jo true Fr3 xs3 (x.take k), isF false Fx (.slice ax x.length cx) x]) (x.length - 0) ⟨_, 0, [], [], (by exact qj (qj (qj (qj (rfl) rfl) rfl) rfl) rfl), (by omega), (by rfl), (by simp), (by simp), rfl, H⟩ ?_
 clear H
 rintro m' ρ w4 ⟨junk, k, xs3, Fr3, rfl, i0, hl3, nf3, nd3, rfl, H⟩
 have p2 := fun h => tot_get (l := x) (k := k) h
 refine qh (qh (qp ?_))
 refine sps [.int .i64 k, .slice ax x.length cx] ?_
 refine sw (zK Tryz.underlying103 ax x.length cx rfl ?_)
 refine sp (.bool (decide ((k : Int) < x.length))) ?_
 refine qo (t_n ?_)
 refine qP (decide ((k : Int) < x.length)) rfl (fun h5 => ?_) (fun h5 => ?_)
 ·skip
  replace h5 := of_decide_eq_true h5
  refine xg (t_n (qh (xn (qp ?_))))
  refine sps [.slice (aa b1 0) x.length x.length, .int .i64 k, .slice ax x.length cx, .int .i64 k] ?_
  obtain ⟨b6, o7, rfl⟩ := H.addr 1 rfl (by omega)
  obtain ⟨ae8Bag, ce8Bag, Fe8Bag, H⟩ := H.vP 1 rfl k k (by omega) (by omega) (by omega)
  refine sw (xE k Tryz.underlying103 ti167 rfl rfl (by omega) (by omega) ?_)
  refine sw (zn [.int .i64 ((x[k]!).qw), .slice ae8Bag (((x[k]!).zF).length) ce8Bag] Tryz.isAgg167 Tryz.sizeOf167 rfl (qK (H.get 1 rfl) 0 2) ?_)
  have szx10 := H.base.size
  have lt11 := H.repsLt 2 rfl
  refine sw (xm #[.agg #[.int .i64 ((x[k]!).qw), .slice ae8Bag (((x[k]!).zF).length) ce8Bag]] rfl rfl Tryz.call161 (toInto_ok w4 (x[k]!) ae8Bag ce8Bag Fe8Bag (H.get 0 rfl).1 (by omega)) ?_)
  rintro v12 w9 r12 x10
  obtain ⟨a12Bag, c12Bag, F12Bag, rfl, f12, H⟩ := H.add_IntoD x10 r12
  have d12 := f12.2
  have q12 := f12.1
  replace f12 : ∀ b ∈ F12Bag, w.heap.size ≤ b := fun b hb => Nat.le_trans szx10 (f12.1 b hb)
  refine sw (xE k Tryz.underlying108 ti115 rfl rfl (by omega) (by omega) ?_)
  refine sw (o_store H 0 rfl (.agg #[.int .i64 ((x[k]!).qw), .slice a12Bag (((x[k]!).zF).length) c12Bag]) Tryz.sizeOf115 rfl rfl (by simp [Value.oneCell', Value.cells]) (by have : (xs3).length = k * 2 := (by (exact hl3)); simp [Value.cells]; have := fill_room (n := x.length) (k := k) (s := 2) (by omega); simp at this; omega) fun w14 H => ?_)
  replace H : St _ _ [.box b1 (xs3 ++ [.int .i64 ((x[k]!).qw), .slice a12Bag (((x[k]!).zF).length) c12Bag] ++ (List.replicate (x.length - (k + 1)) [.int .i64 0, .slice none 0 0]).flatten) 115] _ := (fill_put (vs := [.int .i64 ((x[k]!).qw), .slice a12Bag (((x[k]!).zF).length) c12Bag]) (zs := [.int .i64 0, .slice none 0 0]) (off := 0 + (k : Int).toNat * 2) (xs := xs3) (k := k) (s := 2) (n := x.length) (by (exact hl3)) (by simp) rfl rfl (by omega)) ▸ H
  replace H : St _ _ [.box b1 (xs3 ++ [.int .i64 ((x[k]!).qw), .slice a12Bag (((x[k]!).zF).length) c12Bag] ++ (List.replicate (x.length - (k + 1)) [.int .i64 0, .slice none 0 0]).flatten) 115] _ := H
  refine qo (b_n (t_n (qp ?_)))
  refine sp (.int .i64 k) ?_
  refine sw (zD k 1 rfl rfl (by omega) ?_)
  refine sp (.int .i64 (k + 1)) ?_
  refine qo ?_
  replace H := H.snoc_IntoD 3 rfl ((x[k]!).qw) 0 rfl
  rw [show (x.take k) ++ [⟨(x[k]!).qw, (x[k]!).zF⟩] = x.take (k + 1) from by exact take_snoc (by omega)] at H
  refine xy (m' := x.length - (k + 1)) (by omega) ⟨_, k + 1, (xs3 ++ [.int .i64 ((x[k]!).qw), .slice a12Bag (((x[k]!).zF).length) c12Bag]), (Fr3 ++ F12Bag), (by exact qj (qj (qj (qj (rfl) rfl) rfl) rfl) rfl), ?_, ?_, ?_, ?_, rfl, H.sel _ (.refl _) _ (by simp)⟩
  · omega
  · first | (simp only [List.length_append, List.length_cons, List.length_nil]; omega) | (simp [hl3]; done) | (simp; omega)
  · exact Qh nf3 f12
  · exact Qg nd3 d12 lt11 q12
 replace h5 := of_decide_eq_false h5
 refine zx (t_x (t_x (b_x (t_n (qh (qp ?_))))))
 refine sps [.slice (aa b1 0) x.length x.length, .slice (aa b1 0) x.length x.length] ?_
 refine qo (t_n (xh ?_))
 refine ret1 (.slice (aa b1 0) x.length x.length) rfl rfl ⟨_, rfl, ?_, H.base⟩
 rw [List.take_of_length_le (by omega : x.length ≤ k)] at H
 rw [fill_endN (by omega)] at H
 replace H := H.boxRow 0 rfl 2 x.length (by omega) (by unfold maxLen; omega)
 exact H.newRow 0 rfl 0 rfl (by omega) (by assumption) (by assumption)

theorem toRule_ok (w : World) (x : yB) (jT : Option Addr) (jO : Nat) (FxNeed : List Nat) (jX : Option Addr) (jS : Nat) (FxHave : List Nat) (jU : Option Addr) (jP : Nat) (FxLack : List Nat) (jW : Option Addr) (jR : Nat) (FxHere : List Nat) (QG : Option Addr) (QF : Nat) (FxOut : List Nat) (jV : Option Addr) (jQ : Nat) (FxInto : List Nat) (hxNeed : qM.rep w FxNeed [.slice jT x.qI.length jO] x.qI) (hxHave : qM.rep w FxHave [.slice jX x.qW.length jS] x.qW) (hxLack : qM.rep w FxLack [.slice jU x.qX.length jP] x.qX) (hxHere : qM.rep w FxHere [.slice jW x.xe.length jR] x.xe) (hxOut : qM.rep w FxOut [.slice QG x.xO.length QF] x.xO) (hxInto : qM.rep w FxInto [.slice jV x.qx.length jQ] x.qx) (p0 : tot x ≤ 2000000) : Calls Tryz.prog 90 #[.agg #[.int .i64 x.qw, .int .i64 x.xM, .slice jT x.qI.length jO, .slice jX x.qW.length jS, .slice jU x.qX.length jP, .slice jW x.xe.length jR, .slice QG x.xO.length QF, .slice jV x.qx.length jQ, .bool x.xG]] w (Ret (fun v w' => New_RuleD w w' v x) w) := by
 refine enter (n := 38) Tryz.func90 rfl Tryz.ntmps90 (Nat.le_of_ble_eq_true rfl) ?_
 have H := ((((((St.start w).arg hxInto).arg hxOut).arg hxHere).arg hxLack).arg hxHave).arg hxNeed
 have nhxNeed := qJ hxNeed
 have nhxHave := qJ hxHave
 have nhxLack := qJ hxLack
 have nhxHere := qJ hxHere
 have nhxOut := qJ hxOut
 have nhxInto := qJ hxInto
 clear hxNeed hxHave hxLack hxHere hxOut hxInto
 have p1 := tot_RuleD x
 refine qh (qp ?_)
 refine sw (o_box H (.agg #[.int .i64 x.qw, .int .i64 x.xM, .slice jT x.qI.length jO, .slice jX x.qW.length jS, .slice jU x.qX.length jP, .slice jW x.xe.length jR, .slice QG x.xO.length QF, .slice jV x.qx.length jQ, .bool x.xG]) rfl fun b1 w2 H => ?_)
 replace H : St _ _ [.box b1 [.int .i64 x.qw, .int .i64 x.xM, .slice jT x.qI.length jO, .slice jX x.qW.length jS, .slice jU x.qX.length jP, .slice jW x.xe.length jR, .slice QG x.xO.length QF, .slice jV x.qx.length jQ, .bool x.xG] 105] _ := H
 refine sw (o_alloc H ti110 fun b3 w4 H => ?_)
 replace H : St _ _ [.box b3 [.int .i64 0, .int .i64 0, .slice none 0 0, .slice none 0 0, .slice none 0 0, .slice none 0 0, .slice none 0 0, .slice none 0 0, .bool false] 110, .box b1 [.int .i64 x.qw, .int .i64 x.xM, .slice jT x.qI.length jO, .slice jX x.qW.length jS, .slice jU x.qX.length jP, .slice jW x.xe.length jR, .slice QG x.xO.length QF, .slice jV x.qx.length jQ, .bool x.xG] 105] _ := H
 refine qo (t_n (qh (qp ?_)))
 refine sw (o_alloc H ti110 fun b5 w6 H => ?_)
 replace H : St _ _ [.box b5 [.int .i64 0, .int .i64 0, .slice none 0 0, .slice none 0 0, .slice none 0 0, .slice none 0 0, .slice none 0 0, .slice none 0 0, .bool false] 110, .box b3 [.int .i64 0, .int .i64 0, .slice none 0 0, .slice none 0 0, .slice none 0 0, .slice none 0 0, .slice none 0 0, .slice none 0 0, .bool false] 110, .box b1 [.int .i64 x.qw, .int .i64 x.xM, .slice jT x.qI.length jO, .slice jX x.qW.length jS, .slice jU x.qX.length jP, .slice jW x.xe.length jR, .slice QG x.xO.length QF, .slice jV x.qx.length jQ, .bool x.xG] 105] _ := H
 refine qo (t_n (qh (qp ?_)))
 refine sw (qH b1 (0) 0 Tryz.underlying105 rfl rfl Tryz.sizeOf2 rfl ?_)
 refine sw (qC (.int .i64 x.qw) Tryz.isAgg2 rfl (H.cell 2 rfl rfl) ?_)
 refine sw (qH b5 (0) 0 Tryz.underlying110 rfl rfl Tryz.sizeOf2 rfl ?_)
 refine sw (jC H 0 rfl (.int .i64 x.qw) Tryz.sizeOf2 rfl rfl rfl (Nat.le_of_ble_eq_true rfl) fun w7 H => ?_)
 replace H : St _ _ [.box b5 [.int .i64 x.qw, .int .i64 0, .slice none 0 0, .slice none 0 0, .slice none 0 0, .slice none 0 0, .slice none 0 0, .slice none 0 0, .bool false] 110, .box b3 [.int .i64 0, .int .i64 0, .slice none 0 0, .slice none 0 0, .slice none 0 0, .slice none 0 0, .slice none 0 0, .slice none 0 0, .bool false] 110, .box b1 [.int .i64 x.qw, .int .i64 x.xM, .slice jT x.qI.length jO, .slice jX x.qW.length jS, .slice jU x.qX.length jP, .slice jW x.xe.length jR, .slice QG x.xO.length QF, .slice jV x.qx.length jQ, .bool x.xG] 105] _ := H
 refine qo (t_n (qh (qp ?_)))
 refine sw (qH b1 (0) 1 Tryz.underlying105 rfl rfl Tryz.sizeOf2 rfl ?_)
 refine sw (qC (.int .i64 x.xM) Tryz.isAgg2 rfl (H.cell 2 rfl rfl) ?_)
 refine sw (qH b5 (0) 1 Tryz.underlying110 rfl rfl Tryz.sizeOf2 rfl ?_)
 refine sw (jC H 0 rfl (.int .i64 x.xM) Tryz.sizeOf2 rfl rfl rfl (Nat.le_of_ble_eq_true rfl) fun w8 H => ?_)
 replace H : St _ _ [.box b5 [.int .i64 x.qw, .int .i64 x.xM, .slice none 0 0, .slice none 0 0, .slice none 0 0, .slice none 0 0, .slice none 0 0, .slice none 0 0, .bool false] 110, .box b3 [.int .i64 0, .int .i64 0, .slice none 0 0, .slice none 0 0, .slice none 0 0, .slice none 0 0, .slice none 0 0, .slice none 0 0, .bool false] 110, .box b1 [.int .i64 x.qw, .int .i64 x.xM, .slice jT x.qI.length jO, .slice jX x.qW.length jS, .slice jU x.qX.length jP, .slice jW x.xe.length jR, .slice QG x.xO.length QF, .slice jV x.qx.length jQ, .bool x.xG] 105] _ := H
 refine qo (t_n (qh (qp ?_)))
 refine sw (qH b1 (0) 2 Tryz.underlying105 rfl rfl Tryz.sizeOf22 rfl ?_)
 refine sw (qC (.slice jT x.qI.length jO) Tryz.isAgg22 rfl (H.cell 2 rfl rfl) ?_)
 have szx10 := H.base.size
 refine sw (xm #[.slice jT x.qI.length jO] rfl rfl Tryz.call25 (Qn w8 x.qI jT jO FxNeed (H.get 0 rfl).1 (by first | omega | (have := p2 (by omega); omega))) ?_)
 rintro v11 w9 r11 x10
 obtain ⟨a11, c11, F11, rfl, f11, H⟩ := H.add_is x10 r11.isNew
 have d11 := f11.2
 have q11 := f11.1
 replace f11 : ∀ b ∈ F11, w.heap.size ≤ b := fun b hb => Nat.le_trans szx10 (f11.1 b hb)
 refine sw (qH b5 (0) 2 Tryz.underlying110 rfl rfl Tryz.sizeOf22 rfl ?_)
 refine sw (jC H 0 rfl (.slice a11 x.qI.length c11) Tryz.sizeOf22 rfl rfl rfl (Nat.le_of_ble_eq_true rfl) fun w12 H => ?_)
 replace H : St _ _ [.box b5 [.int .i64 x.qw, .int .i64 x.xM, .slice a11 x.qI.length c11, .slice none 0 0, .slice none 0 0, .slice none 0 0, .slice none 0 0, .slice none 0 0, .bool false] 110, .box b3 [.int .i64 0, .int .i64 0, .slice none 0 0, .slice none 0 0, .slice none 0 0, .slice none 0 0, .slice none 0 0, .slice none 0 0, .bool false] 110, .box b1 [.int .i64 x.qw, .int .i64 x.xM, .slice jT x.qI.length jO, .slice jX x.qW.length jS, .slice jU x.qX.length jP, .slice jW x.xe.length jR, .slice QG x.xO.length QF, .slice jV x.qx.length jQ, .bool x.xG] 105] _ := H
 refine qo (t_n (qh (qp ?_)))
 refine sw (qH b1 (0) 3 Tryz.underlying105 rfl rfl Tryz.sizeOf22 rfl ?_)
 refine sw (qC (.slice jX x.qW.length jS) Tryz.isAgg22 rfl (H.cell 2 rfl rfl) ?_)
 have szx14 := H.base.size
 have lt15 := H.isLt 0 rfl
 refine sw (xm #[.slice jX x.qW.length jS] rfl rfl Tryz.call25 (Qn w12 x.qW jX jS FxHave (H.get 2 rfl).1 (by first | omega | (have := p2 (by omega); omega))) ?_)
 rintro v16 w13 r16 x14
 obtain ⟨a16, c16, F16, rfl, f16, H⟩ := H.add_is x14 r16.isNew
 have d16 := f16.2
 have q16 := f16.1
 replace f16 : ∀ b ∈ F16, w.heap.size ≤ b := fun b hb => Nat.le_trans szx14 (f16.1 b hb)
 refine sw (qH b5 (0) 3 Tryz.underlying110 rfl rfl Tryz.sizeOf22 rfl ?_)
 refine sw (jC H 0 rfl (.slice a16 x.qW.length c16) Tryz.sizeOf22 rfl rfl rfl (Nat.le_of_ble_eq_true rfl) fun w17 H => ?_)
 replace H : St _ _ [.box b5 [.int .i64 x.qw, .int .i64 x.xM, .slice a11 x.qI.length c11, .slice a16 x.qW.length c16, .slice none 0 0, .slice none 0 0, .slice none 0 0, .slice none 0 0, .bool false] 110, .box b3 [.int .i64 0, .int .i64 0, .slice none 0 0, .slice none 0 0, .slice none 0 0, .slice none 0 0, .slice none 0 0, .slice none 0 0, .bool false] 110, .box b1 [.int .i64 x.qw, .int .i64 x.xM, .slice jT x.qI.length jO, .slice jX x.qW.length jS, .slice jU x.qX.length jP, .slice jW x.xe.length jR, .slice QG x.xO.length QF, .slice jV x.qx.length jQ, .bool x.xG] 105] _ := H
 refine qo (t_n (qh (qp ?_)))
 refine sw (qH b1 (0) 4 Tryz.underlying105 rfl rfl Tryz.sizeOf22 rfl ?_)
 refine sw (qC (.slice jU x.qX.length jP) Tryz.isAgg22 rfl (H.cell 2 rfl rfl) ?_)
 have szx19 := H.base.size
 have lt20 := H.isLt 0 rfl
 have lt21 := H.isLt 1 rfl
 refine sw (xm #[.slice jU x.qX.length jP] rfl rfl Tryz.call25 (Qn w17 x.qX jU jP FxLack (H.get 4 rfl).1 (by first | omega | (have := p2 (by omega); omega))) ?_)
 rintro v22 w18 r22 x19
 obtain ⟨a22, c22, F22, rfl, f22, H⟩ := H.add_is x19 r22.isNew
 have d22 := f22.2
 have q22 := f22.1
 replace f22 : ∀ b ∈ F22, w.heap.size ≤ b := fun b hb => Nat.le_trans szx19 (f22.1 b hb)
 refine sw (qH b5 (0) 4 Tryz.underlying110 rfl rfl Tryz.sizeOf22 rfl ?_)
 refine sw (jC H 0 rfl (.slice a22 x.qX.length c22) Tryz.sizeOf22 rfl rfl rfl (Nat.le_of_ble_eq_true rfl) fun w23 H => ?_)
 replace H : St _ _ [.box b5 [.int .i64 x.qw, .int .i64 x.xM, .slice a11 x.qI.length c11, .slice a16 x.qW.length c16, .slice a22 x.qX.length c22, .slice none 0 0, .slice none 0 0, .slice none 0 0, .bool false] 110, .box b3 [.int .i64 0, .int .i64 0, .slice none 0 0, .slice none 0 0, .slice none 0 0, .slice none 0 0, .slice none 0 0, .slice none 0 0, .bool false] 110, .box b1 [.int .i64 x.qw, .int .i64 x.xM, .slice jT x.qI.length jO, .slice jX x.qW.length jS, .slice jU x.qX.length jP, .slice jW x.xe.length jR, .slice QG x.xO.length QF, .slice jV x.qx.length jQ, .bool x.xG] 105] _ := H
 refine qo (t_n (qh (qp ?_)))
 refine sw (qH b1 (0) 5 Tryz.underlying105 rfl rfl Tryz.sizeOf22 rfl ?_)
 refine sw (qC (.slice jW x.xe.length jR) Tryz.isAgg22 rfl (H.cell 2 rfl rfl) ?_)
 have szx25 := H.base.size
 have lt26 := H.isLt 0 rfl
 have lt27 := H.isLt 1 rfl
 have lt28 := H.isLt 2 rfl
 refine sw (xm #[.slice jW x.xe.length jR] rfl rfl Tryz.call25 (Qn w23 x.xe jW jR FxHere (H.get 6 rfl).1 (by first | omega | (have := p2 (by omega); omega))) ?_)
 rintro v29 w24 r29 x25
 obtain ⟨a29, c29, F29, rfl, f29, H⟩ := H.add_is x25 r29.isNew
 have d29 := f29.2
 have q29 := f29.1
 replace f29 : ∀ b ∈ F29, w.heap.size ≤ b := fun b hb => Nat.le_trans szx25 (f29.1 b hb)
 refine sw (qH b5 (0) 5 Tryz.underlying110 rfl rfl Tryz.sizeOf22 rfl ?_)
 refine sw (jC H 0 rfl (.slice a29 x.xe.length c29) Tryz.sizeOf22 rfl rfl rfl (Nat.le_of_ble_eq_true rfl) fun w30 H => ?_)
 replace H : St _ _ [.box b5 [.int .i64 x.qw, .int .i64 x.xM, .slice a11 x.qI.length c11, .slice a16 x.qW.length c16, .slice a22 x.qX.length c22, .slice a29 x.xe.length c29, .slice none 0 0, .slice none 0 0, .bool false] 110, .box b3 [.int .i64 0, .int .i64 0, .slice none 0 0, .slice none 0 0, .slice none 0 0, .slice none 0 0, .slice none 0 0, .slice none 0 0, .bool false] 110, .box b1 [.int .i64 x.qw, .int .i64 x.xM, .slice jT x.qI.length jO, .slice jX x.qW.length jS, .slice jU x.qX.length jP, .slice jW x.xe.length jR, .slice QG x.xO.length QF, .slice jV x.qx.length jQ, .bool x.xG] 105] _ := H
 refine qo (t_n (qh (qp ?_)))
 refine sw (qH b1 (0) 6 Tryz.underlying105 rfl rfl Tryz.sizeOf22 rfl ?_)
 refine sw (qC (.slice QG x.xO.length QF) Tryz.isAgg22 rfl (H.cell 2 rfl rfl) ?_)
 have szx32 := H.base.size
 have lt33 := H.isLt 0 rfl
 have lt34 := H.isLt 1 rfl
 have lt35 := H.isLt 2 rfl
 have lt36 := H.isLt 3 rfl
 refine sw (xm #[.slice QG x.xO.length QF] rfl rfl Tryz.call25 (Qn w30 x.xO QG QF FxOut (H.get 8 rfl).1 (by first | omega | (have := p2 (by omega); omega))) ?_)
 rintro v37 w31 r37 x32
 obtain ⟨a37, c37, F37, rfl, f37, H⟩ := H.add_is x32 r37.isNew
 have d37 := f37.2
 have q37 := f37.1
 replace f37 : ∀ b ∈ F37, w.heap.size ≤ b := fun b hb => Nat.le_trans szx32 (f37.1 b hb)
 refine sw (qH b5 (0) 6 Tryz.underlying110 rfl rfl Tryz.sizeOf22 rfl ?_)
 refine sw (jC H 0 rfl (.slice a37 x.xO.length c37) Tryz.sizeOf22 rfl rfl rfl (Nat.le_of_ble_eq_true rfl) fun w38 H => ?_)
 replace H : St _ _ [.box b5 [.int .i64 x.qw, .int .i64 x.xM, .slice a11 x.qI.length c11, .slice a16 x.qW.length c16, .slice a22 x.qX.length c22, .slice a29 x.xe.length c29, .slice a37 x.xO.length c37, .slice none 0 0, .bool false] 110, .box b3 [.int .i64 0, .int .i64 0, .slice none 0 0, .slice none 0 0, .slice none 0 0, .slice none 0 0, .slice none 0 0, .slice none 0 0, .bool false] 110, .box b1 [.int .i64 x.qw, .int .i64 x.xM, .slice jT x.qI.length jO, .slice jX x.qW.length jS, .slice jU x.qX.length jP, .slice jW x.xe.length jR, .slice QG x.xO.length QF, .slice jV x.qx.length jQ, .bool x.xG] 105] _ := H
 refine qo (t_n (qh (qp ?_)))
 refine sw (qH b1 (0) 7 Tryz.underlying105 rfl rfl Tryz.sizeOf103 rfl ?_)
 refine sw (qC (.slice jV x.qx.length jQ) Tryz.isAgg103 rfl (H.cell 2 rfl rfl) ?_)
 have szx40 := H.base.size
 have lt41 := H.isLt 0 rfl
 have lt42 := H.isLt 1 rfl
 have lt43 := H.isLt 2 rfl
 have lt44 := H.isLt 3 rfl
 have lt45 := H.isLt 4 rfl
 refine sw (xm #[.slice jV x.qx.length jQ] rfl rfl Tryz.call140 (toIntoS_ok w38 x.qx jV jQ FxInto (H.get 10 rfl).1 (by first | omega | (have := p2 (by omega); omega))) ?_)
 rintro v46 w39 r46 x40
 obtain ⟨a46, c46, F46, rfl, f46, H⟩ := H.add_is x40 r46.isNew
 have d46 := f46.2
 have q46 := f46.1
 replace f46 : ∀ b ∈ F46, w.heap.size ≤ b := fun b hb => Nat.le_trans szx40 (f46.1 b hb)
 refine sw (qH b5 (0) 7 Tryz.underlying110 rfl rfl Tryz.sizeOf108 rfl ?_)
 refine sw (jC H 0 rfl (.slice a46 x.qx.length c46) Tryz.sizeOf108 rfl rfl rfl (Nat.le_of_ble_eq_true rfl) fun w47 H => ?_)
 replace H : St _ _ [.box b5 [.int .i64 x.qw, .int .i64 x.xM, .slice a11 x.qI.length c11, .slice a16 x.qW.length c16, .slice a22 x.qX.length c22, .slice a29 x.xe.length c29, .slice a37 x.xO.length c37, .slice a46 x.qx.length c46, .bool false] 110, .box b3 [.int .i64 0, .int .i64 0, .slice none 0 0, .slice none 0 0, .slice none 0 0, .slice none 0 0, .slice none 0 0, .slice none 0 0, .bool false] 110, .box b1 [.int .i64 x.qw, .int .i64 x.xM, .slice jT x.qI.length jO, .slice jX x.qW.length jS, .slice jU x.qX.length jP, .slice jW x.xe.length jR, .slice QG x.xO.length QF, .slice jV x.qx.length jQ, .bool x.xG] 105] _ := H
 refine qo (t_n (qh (qp ?_)))
 refine sw (qH b1 (0) 8 Tryz.underlying105 rfl rfl Tryz.sizeOf4 rfl ?_)
 refine sw (qC (.bool x.xG) Tryz.isAgg4 rfl (H.cell 2 rfl rfl) ?_)
 refine sw (qH b5 (0) 8 Tryz.underlying110 rfl rfl Tryz.sizeOf4 rfl ?_)
 refine sw (jC H 0 rfl (.bool x.xG) Tryz.sizeOf4 rfl rfl rfl (Nat.le_of_ble_eq_true rfl) fun w48 H => ?_)
 replace H : St _ _ [.box b5 [.int .i64 x.qw, .int .i64 x.xM, .slice a11 x.qI.length c11, .slice a16 x.qW.length c16, .slice a22 x.qX.length c22, .slice a29 x.xe.length c29, .slice a37 x.xO.length c37, .slice a46 x.qx.length c46, .bool x.xG] 110, .box b3 [.int .i64 0, .int .i64 0, .slice none 0 0, .slice none 0 0, .slice none 0 0, .slice none 0 0, .slice none 0 0, .slice none 0 0, .bool false] 110, .box b1 [.int .i64 x.qw, .int .i64 x.xM, .slice jT x.qI.length jO, .slice jX x.qW.length jS, .slice jU x.qX.length jP, .slice jW x.xe.length jR, .slice QG x.xO.length QF, .slice jV x.qx.length jQ, .bool x.xG] 105] _ := H
 refine qo (t_n (qh (qp ?_)))
 refine sw (zn [.int .i64 x.qw, .int .i64 x.xM, .slice a11 x.qI.length c11, .slice a16 x.qW.length c16, .slice a22 x.qX.length c22, .slice a29 x.xe.length c29, .slice a37 x.xO.length c37, .slice a46 x.qx.length c46, .bool x.xG] Tryz.isAgg110 Tryz.sizeOf110 rfl (qK (H.cells 0 rfl) 0 9) ?_)
 refine sw (o_store H 1 rfl (.agg #[.int .i64 x.qw, .int .i64 x.xM, .slice a11 x.qI.length c11, .slice a16 x.qW.length c16, .slice a22 x.qX.length c22, .slice a29 x.xe.length c29, .slice a37 x.xO.length c37, .slice a46 x.qx.length c46, .bool x.xG]) Tryz.sizeOf110 rfl rfl (by simp [Value.oneCell', Value.cells]) (Nat.le_of_ble_eq_true rfl) fun w49 H => ?_)
 replace H : St _ _ [.box b5 [.int .i64 x.qw, .int .i64 x.xM, .slice a11 x.qI.length c11, .slice a16 x.qW.length c16, .slice a22 x.qX.length c22, .slice a29 x.xe.length c29, .slice a37 x.xO.length c37, .slice a46 x.qx.length c46, .bool x.xG] 110, .box b3 [.int .i64 x.qw, .int .i64 x.xM, .slice a11 x.qI.length c11, .slice a16 x.qW.length c16, .slice a22 x.qX.length c22, .slice a29 x.xe.length c29, .slice a37 x.xO.length c37, .slice a46 x.qx.length c46, .bool x.xG] 110, .box b1 [.int .i64 x.qw, .int .i64 x.xM, .slice jT x.qI.length jO, .slice jX x.qW.length jS, .slice jU x.qX.length jP, .slice jW x.xe.length jR, .slice QG x.xO.length QF, .slice jV x.qx.length jQ, .bool x.xG] 105] _ := H
 refine qo (t_n (xh ?_))
 refine retC H 1 rfl rfl Tryz.isAgg110 Tryz.sizeOf110 rfl ⟨_, rfl, ?_, H.base⟩
 exact ⟨_, _, _, _, _, _, _, _, _, _, _, _, _, _, _, _, _, _, rfl, (H.get 5 rfl).1, (H.get 4 rfl).1, (H.get 3 rfl).1, (H.get 2 rfl).1, (H.get 1 rfl).1, (H.get 0 rfl).1, (Qh (Qh (Qh (Qh (Qh f11 f16) f22) f29) f37) f46), (Qg (Qg (Qg (Qg (Qg d11 d16 lt15 q16) d22 (Xi lt21 lt20) q22) d29 (Xi (Xi lt28 lt27) lt26) q29) d37 (Xi (Xi (Xi lt36 lt35) lt34) lt33) q37) d46 (Xi (Xi (Xi (Xi lt45 lt44) lt43) lt42) lt41) q46), (((((((H.get 5 rfl).2 rfl).app ((H.get 4 rfl).2 rfl)).app ((H.get 3 rfl).2 rfl)).app ((H.get 2 rfl).2 rfl)).app ((H.get 1 rfl).2 rfl)).app ((H.get 0 rfl).2 rfl))⟩

theorem toRuleS_ok (w : World) (x : List yB) (ax : Option Addr) (cx : Nat) (Fx : List Nat) (hx : qM.rep w Fx [.slice ax x.length cx] x) (p0 : tot x ≤ 2000000) : Calls Tryz.prog 47 #[.slice ax x.length cx] w (Ret (fun v w' => OwnNew w w' 110 v x) w) := by
 refine enter (n := 23) Tryz.func47 rfl Tryz.ntmps47 (Nat.le_of_ble_eq_true rfl) ?_
 have H := (St.start w).arg hx
 have nhx := qJ hx
 clear hx
 have p1 := len_tot x
 refine qh (qp ?_)
 refine sp (.slice none 0 0) ?_
 refine qo (t_n (qh (qp ?_)))
 refine sp (.slice ax x.length cx) ?_
 refine sw (zK Tryz.underlying23 ax x.length cx rfl ?_)
 refine sw (o_makeN H Tryz.underlying34 ti110 rfl (by decide) x.length rfl rfl (by omega) (by omega) fun b1 w2 H => ?_)
 replace H : St _ _ [.box b1 ((List.replicate x.length [.int .i64 0, .int .i64 0, .slice none 0 0, .slice none 0 0, .slice none 0 0, .slice none 0 0, .slice none 0 0, .slice none 0 0, .bool false]).flatten) 110] _ := H
 refine sp (.slice (aa b1 0) x.length x.length) ?_
 refine qo (t_n (qh (qh (qp ?_))))
 refine sp (.int .i64 0) ?_
 refine qo (t_n (xn ?_))
 replace H := H.Qp (α := yB)
 refine zC (fun m' ρ w3 => ∃ (junk : Env) (k : Nat) (xs3 : List Value) (Fr3 : List Nat), ρ = upd (upd (upd (upd junk 0 (.slice ax x.length cx)) 2 (.slice none 0 0)) 3 (.slice (aa b1 0) x.length x.length)) 4 (.int .i64 k) ∧ (k ≤ x.length) ∧ (xs3.length = k * 9) ∧ (∀ b ∈ Fr3, w.heap.size ≤ b) ∧ (Fr3.Nodup) ∧ m' = x.length - k ∧ St w w3 [.box b1 (xs3 ++ (List.replicate (x.length - (k)) [.int .i64 0, .int .i64 0, .slice none 0 0, .slice none 0 0, .slice none 0 0, .slice none 0 0, .slice none 0 0, .slice none 0 0, .bool false]).flatten) 110] [jo true Fr3 xs3 (x.take k), isF false Fx (.slice ax x.length cx) x]) (x.length - 0) ⟨_, 0, [], [], (by exact qj (qj (qj (qj (rfl) rfl) rfl) rfl) rfl), (by omega), (by rfl), (by simp), (by simp), rfl, H⟩ ?_
 clear H
 rintro m' ρ w4 ⟨junk, k, xs3, Fr3, rfl, i0, hl3, nf3, nd3, rfl, H⟩
 have p2 := fun h => tot_get (l := x) (k := k) h
 refine qh (qh (qp ?_))
 refine sps [.int .i64 k, .slice ax x.length cx] ?_
 refine sw (zK Tryz.underlying23 ax x.length cx rfl ?_)
 refine sp (.bool (decide ((k : Int) < x.length))) ?_
 refine qo (t_n ?_)
 refine qP (decide ((k : Int) < x.length)) rfl (fun h5 => ?_) (fun h5 => ?_)
 ·skip
  replace h5 := of_decide_eq_true h5
  refine xg (t_n (qh (xn (qp ?_))))
  refine sps [.slice (aa b1 0) x.length x.length, .int .i64 k, .slice ax x.length cx, .int .i64 k] ?_
  obtain ⟨b6, o7, rfl⟩ := H.addr 1 rfl (by omega)
  obtain ⟨ae8Need, ce8Need, Fe8Need, ae8Have, ce8Have, Fe8Have, ae8Lack, ce8Lack, Fe8Lack, ae8Here, ce8Here, Fe8Here, ae8Out, ce8Out, Fe8Out, ae8Into, ce8Into, Fe8Into, H⟩ := H.jv 1 rfl k k (by omega) (by omega) (by omega)
  refine sw (xE k Tryz.underlying23 ti105 rfl rfl (by omega) (by omega) ?_)
  refine sw (zn [.int .i64 ((x[k]!).qw), .int .i64 ((x[k]!).xM), .slice ae8Need (((x[k]!).qI).length) ce8Need, .slice ae8Have (((x[k]!).qW).length) ce8Have, .slice ae8Lack (((x[k]!).qX).length) ce8Lack, .slice ae8Here (((x[k]!).xe).length) ce8Here, .slice ae8Out (((x[k]!).xO).length) ce8Out, .slice ae8Into (((x[k]!).qx).length) ce8Into, .bool ((x[k]!).xG)] Tryz.isAgg105 Tryz.sizeOf105 rfl (qK (H.get 6 rfl) 0 9) ?_)
  have szx10 := H.base.size
  have lt11 := H.repsLt 7 rfl
  refine sw (xm #[.agg #[.int .i64 ((x[k]!).qw), .int .i64 ((x[k]!).xM), .slice ae8Need (((x[k]!).qI).length) ce8Need, .slice ae8Have (((x[k]!).qW).length) ce8Have, .slice ae8Lack (((x[k]!).qX).length) ce8Lack, .slice ae8Here (((x[k]!).xe).length) ce8Here, .slice ae8Out (((x[k]!).xO).length) ce8Out, .slice ae8Into (((x[k]!).qx).length) ce8Into, .bool ((x[k]!).xG)]] rfl rfl Tryz.call90 (toRule_ok w4 (x[k]!) ae8Need ce8Need Fe8Need ae8Have ce8Have Fe8Have ae8Lack ce8Lack Fe8Lack ae8Here ce8Here Fe8Here ae8Out ce8Out Fe8Out ae8Into ce8Into Fe8Into (H.get 0 rfl).1 (H.get 1 rfl).1 (H.get 2 rfl).1 (H.get 3 rfl).1 (H.get 4 rfl).1 (H.get 5 rfl).1 (by omega)) ?_)
  rintro v12 w9 r12 x10
  obtain ⟨a12Need, c12Need, F12Need, a12Have, c12Have, F12Have, a12Lack, c12Lack, F12Lack, a12Here, c12Here, F12Here, a12Out, c12Out, F12Out, a12Into, c12Into, F12Into, rfl, f12, H⟩ := H.add_RuleD x10 r12
  have d12 := f12.2
  have q12 := f12.1
  replace f12 : ∀ b ∈ (F12Need ++ F12Have ++ F12Lack ++ F12Here ++ F12Out ++ F12Into), w.heap.size ≤ b := fun b hb => Nat.le_trans szx10 (f12.1 b hb)
  refine sw (xE k Tryz.underlying34 ti110 rfl rfl (by omega) (by omega) ?_)
  refine sw (o_store H 0 rfl (.agg #[.int .i64 ((x[k]!).qw), .int .i64 ((x[k]!).xM), .slice a12Need (((x[k]!).qI).length) c12Need, .slice a12Have (((x[k]!).qW).length) c12Have, .slice a12Lack (((x[k]!).qX).length) c12Lack, .slice a12Here (((x[k]!).xe).length) c12Here, .slice a12Out (((x[k]!).xO).length) c12Out, .slice a12Into (((x[k]!).qx).length) c12Into, .bool ((x[k]!).xG)]) Tryz.sizeOf110 rfl rfl (by simp [Value.oneCell', Value.cells]) (by have : (xs3).length = k * 9 := (by (exact hl3)); simp [Value.cells]; have := fill_room (n := x.length) (k := k) (s := 9) (by omega); simp at this; omega) fun w14 H => ?_)
  replace H : St _ _ [.box b1 (xs3 ++ [.int .i64 ((x[k]!).qw), .int .i64 ((x[k]!).xM), .slice a12Need (((x[k]!).qI).length) c12Need, .slice a12Have (((x[k]!).qW).length) c12Have, .slice a12Lack (((x[k]!).qX).length) c12Lack, .slice a12Here (((x[k]!).xe).length) c12Here, .slice a12Out (((x[k]!).xO).length) c12Out, .slice a12Into (((x[k]!).qx).length) c12Into, .bool ((x[k]!).xG)] ++ (List.replicate (x.length - (k + 1)) [.int .i64 0, .int .i64 0, .slice none 0 0, .slice none 0 0, .slice none 0 0, .slice none 0 0, .slice none 0 0, .slice none 0 0, .bool false]).flatten) 110] _ := (fill_put (vs := [.int .i64 ((x[k]!).qw), .int .i64 ((x[k]!).xM), .slice a12Need (((x[k]!).qI).length) c12Need, .slice a12Have (((x[k]!).qW).length) c12Have, .slice a12Lack (((x[k]!).qX).length) c12Lack, .slice a12Here (((x[k]!).xe).length) c12Here, .slice a12Out (((x[k]!).xO).length) c12Out, .slice a12Into (((x[k]!).qx).length) c12Into, .bool ((x[k]!).xG)]) (zs := [.int .i64 0, .int .i64 0, .slice none 0 0, .slice none 0 0, .slice none 0 0, .slice none 0 0, .slice none 0 0, .slice none 0 0, .bool false]) (off := 0 + (k : Int).toNat * 9) (xs := xs3) (k := k) (s := 9) (n := x.length) (by (exact hl3)) (by simp) rfl rfl (by omega)) ▸ H
  replace H : St _ _ [.box b1 (xs3 ++ [.int .i64 ((x[k]!).qw), .int .i64 ((x[k]!).xM), .slice a12Need (((x[k]!).qI).length) c12Need, .slice a12Have (((x[k]!).qW).length) c12Have, .slice a12Lack (((x[k]!).qX).length) c12Lack, .slice a12Here (((x[k]!).xe).length) c12Here, .slice a12Out (((x[k]!).xO).length) c12Out, .slice a12Into (((x[k]!).qx).length) c12Into, .bool ((x[k]!).xG)] ++ (List.replicate (x.length - (k + 1)) [.int .i64 0, .int .i64 0, .slice none 0 0, .slice none 0 0, .slice none 0 0, .slice none 0 0, .slice none 0 0, .slice none 0 0, .bool false]).flatten) 110] _ := H
  refine qo (b_n (t_n (qp ?_)))
  refine sp (.int .i64 k) ?_
  refine sw (zD k 1 rfl rfl (by omega) ?_)
  refine sp (.int .i64 (k + 1)) ?_
  refine qo ?_
  replace H := H.snoc_RuleD 13 rfl ((x[k]!).qw) ((x[k]!).xM) 0 rfl 1 rfl 2 rfl 3 rfl 4 rfl 5 rfl ((x[k]!).xG)
  rw [show (x.take k) ++ [⟨(x[k]!).qw, (x[k]!).xM, (x[k]!).qI, (x[k]!).qW, (x[k]!).qX, (x[k]!).xe, (x[k]!).xO, (x[k]!).qx, (x[k]!).xG⟩] = x.take (k + 1) from by exact take_snoc (by omega)] at H
  refine xy (m' := x.length - (k + 1)) (by omega) ⟨_, k + 1, (xs3 ++ [.int .i64 ((x[k]!).qw), .int .i64 ((x[k]!).xM), .slice a12Need (((x[k]!).qI).length) c12Need, .slice a12Have (((x[k]!).qW).length) c12Have, .slice a12Lack (((x[k]!).qX).length) c12Lack, .slice a12Here (((x[k]!).xe).length) c12Here, .slice a12Out (((x[k]!).xO).length) c12Out, .slice a12Into (((x[k]!).qx).length) c12Into, .bool ((x[k]!).xG)]), (Fr3 ++ (F12Need ++ F12Have ++ F12Lack ++ F12Here ++ F12Out ++ F12Into)), (by exact qj (qj (qj (qj (rfl) rfl) rfl) rfl) rfl), ?_, ?_, ?_, ?_, rfl, H.sel _ (.refl _) _ (by simp)⟩
  · omega
  · first | (simp only [List.length_append, List.length_cons, List.length_nil]; omega) | (simp [hl3]; done) | (simp; omega)
  · exact Qh nf3 f12
  · exact Qg nd3 d12 lt11 q12
 replace h5 := of_decide_eq_false h5
 refine zx (t_x (t_x (b_x (t_n (qh (qp ?_))))))
 refine sps [.slice (aa b1 0) x.length x.length, .slice (aa b1 0) x.length x.length] ?_
 refine qo (t_n (xh ?_))
 refine ret1 (.slice (aa b1 0) x.length x.length) rfl rfl ⟨_, rfl, ?_, H.base⟩
 rw [List.take_of_length_le (by omega : x.length ≤ k)] at H
 rw [fill_endN (by omega)] at H
 replace H := H.boxRow 0 rfl 9 x.length (by omega) (by unfold maxLen; omega)
 exact H.newRow 0 rfl 0 rfl (by omega) (by assumption) (by assumption)

theorem toSystem_ok (w : World) (x : qR) (zg : Option Addr) (zf : Nat) (vY : List Nat) (zX : Option Addr) (zW : Nat) (yR : List Nat) (yt : qM.rep w vY [.slice zg x.qg.length zf] x.qg) (Xg : qM.rep w yR [.slice zX x.qf.length zW] x.qf) (p0 : tot x ≤ 2000000) : Calls Tryz.prog 11 #[.agg #[.int .i64 x.qF, .slice zg x.qg.length zf, .slice zX x.qf.length zW]] w (Ret (fun v w' => New_SystemD w w' v x) w) := by
 refine enter (n := 16) Tryz.func11 rfl Tryz.ntmps11 (Nat.le_of_ble_eq_true rfl) ?_
 have H := ((St.start w).arg Xg).arg yt
 have nhxParents := qJ yt
 have nhxRules := qJ Xg
 clear yt Xg
 have p1 := tot_SystemD x
 refine qh (qp ?_)
 refine sw (o_box H (.agg #[.int .i64 x.qF, .slice zg x.qg.length zf, .slice zX x.qf.length zW]) rfl fun b1 w2 H => ?_)
 replace H : St _ _ [.box b1 [.int .i64 x.qF, .slice zg x.qg.length zf, .slice zX x.qf.length zW] 25] _ := H
 refine sw (o_alloc H ti36 fun b3 w4 H => ?_)
 replace H : St _ _ [.box b3 [.int .i64 0, .slice none 0 0, .slice none 0 0] 36, .box b1 [.int .i64 x.qF, .slice zg x.qg.length zf, .slice zX x.qf.length zW] 25] _ := H
 refine qo (t_n (qh (qp ?_)))
 refine sw (o_alloc H ti36 fun b5 w6 H => ?_)
 replace H : St _ _ [.box b5 [.int .i64 0, .slice none 0 0, .slice none 0 0] 36, .box b3 [.int .i64 0, .slice none 0 0, .slice none 0 0] 36, .box b1 [.int .i64 x.qF, .slice zg x.qg.length zf, .slice zX x.qf.length zW] 25] _ := H
 refine qo (t_n (qh (qp ?_)))
 refine sw (qH b1 (0) 0 Tryz.underlying25 rfl rfl Tryz.sizeOf2 rfl ?_)
 refine sw (qC (.int .i64 x.qF) Tryz.isAgg2 rfl (H.cell 2 rfl rfl) ?_)
 refine sw (qH b5 (0) 0 Tryz.underlying36 rfl rfl Tryz.sizeOf2 rfl ?_)
 refine sw (jC H 0 rfl (.int .i64 x.qF) Tryz.sizeOf2 rfl rfl rfl (Nat.le_of_ble_eq_true rfl) fun w7 H => ?_)
 replace H : St _ _ [.box b5 [.int .i64 x.qF, .slice none 0 0, .slice none 0 0] 36, .box b3 [.int .i64 0, .slice none 0 0, .slice none 0 0] 36, .box b1 [.int .i64 x.qF, .slice zg x.qg.length zf, .slice zX x.qf.length zW] 25] _ := H
 refine qo (t_n (qh (qp ?_)))
 refine sw (qH b1 (0) 1 Tryz.underlying25 rfl rfl Tryz.sizeOf22 rfl ?_)
 refine sw (qC (.slice zg x.qg.length zf) Tryz.isAgg22 rfl (H.cell 2 rfl rfl) ?_)
 have szx9 := H.base.size
 refine sw (xm #[.slice zg x.qg.length zf] rfl rfl Tryz.call25 (Qn w7 x.qg zg zf vY (H.get 0 rfl).1 (by first | omega | (have := p2 (by omega); omega))) ?_)
 rintro v10 w8 r10 x9
 obtain ⟨a10, c10, F10, rfl, f10, H⟩ := H.add_is x9 r10.isNew
 have d10 := f10.2
 have q10 := f10.1
 replace f10 : ∀ b ∈ F10, w.heap.size ≤ b := fun b hb => Nat.le_trans szx9 (f10.1 b hb)
 refine sw (qH b5 (0) 1 Tryz.underlying36 rfl rfl Tryz.sizeOf22 rfl ?_)
 refine sw (jC H 0 rfl (.slice a10 x.qg.length c10) Tryz.sizeOf22 rfl rfl rfl (Nat.le_of_ble_eq_true rfl) fun w11 H => ?_)
 replace H : St _ _ [.box b5 [.int .i64 x.qF, .slice a10 x.qg.length c10, .slice none 0 0] 36, .box b3 [.int .i64 0, .slice none 0 0, .slice none 0 0] 36, .box b1 [.int .i64 x.qF, .slice zg x.qg.length zf, .slice zX x.qf.length zW] 25] _ := H
 refine qo (t_n (qh (qp ?_)))
 refine sw (qH b1 (0) 2 Tryz.underlying25 rfl rfl Tryz.sizeOf23 rfl ?_)
 refine sw (qC (.slice zX x.qf.length zW) Tryz.isAgg23 rfl (H.cell 2 rfl rfl) ?_)
 have szx13 := H.base.size
 have lt14 := H.isLt 0 rfl
 refine sw (xm #[.slice zX x.qf.length zW] rfl rfl Tryz.call47 (toRuleS_ok w11 x.qf zX zW yR (H.get 2 rfl).1 (by first | omega | (have := p2 (by omega); omega))) ?_)
 rintro v15 w12 r15 x13
 obtain ⟨a15, c15, F15, rfl, f15, H⟩ := H.add_is x13 r15.isNew
 have d15 := f15.2
 have q15 := f15.1
 replace f15 : ∀ b ∈ F15, w.heap.size ≤ b := fun b hb => Nat.le_trans szx13 (f15.1 b hb)
 refine sw (qH b5 (0) 2 Tryz.underlying36 rfl rfl Tryz.sizeOf34 rfl ?_)
 refine sw (jC H 0 rfl (.slice a15 x.qf.length c15) Tryz.sizeOf34 rfl rfl rfl (Nat.le_of_ble_eq_true rfl) fun w16 H => ?_)
 replace H : St _ _ [.box b5 [.int .i64 x.qF, .slice a10 x.qg.length c10, .slice a15 x.qf.length c15] 36, .box b3 [.int .i64 0, .slice none 0 0, .slice none 0 0] 36, .box b1 [.int .i64 x.qF, .slice zg x.qg.length zf, .slice zX x.qf.length zW] 25] _ := H
 refine qo (t_n (qh (qp ?_)))
 refine sw (zn [.int .i64 x.qF, .slice a10 x.qg.length c10, .slice a15 x.qf.length c15] Tryz.isAgg36 Tryz.sizeOf36 rfl (qK (H.cells 0 rfl) 0 3) ?_)
 refine sw (o_store H 1 rfl (.agg #[.int .i64 x.qF, .slice a10 x.qg.length c10, .slice a15 x.qf.length c15]) Tryz.sizeOf36 rfl rfl (by simp [Value.oneCell', Value.cells]) (Nat.le_of_ble_eq_true rfl) fun w17 H => ?_)
 replace H : St _ _ [.box b5 [.int .i64 x.qF, .slice a10 x.qg.length c10, .slice a15 x.qf.length c15] 36, .box b3 [.int .i64 x.qF, .slice a10 x.qg.length c10, .slice a15 x.qf.length c15] 36, .box b1 [.int .i64 x.qF, .slice zg x.qg.length zf, .slice zX x.qf.length zW] 25] _ := H
 refine qo (t_n (xh ?_))
 refine retC H 1 rfl rfl Tryz.isAgg36 Tryz.sizeOf36 rfl ⟨_, rfl, ?_, H.base⟩
 exact ⟨_, _, _, _, _, _, rfl, (H.get 1 rfl).1, (H.get 0 rfl).1, (Qh f10 f15), (Qg d10 d15 lt14 q15), (((H.get 1 rfl).2 rfl).app ((H.get 0 rfl).2 rfl))⟩

theorem toState_ok (w : World) (x : xF) (zV : Option Addr) (zU : Nat) (yI : List Nat) (jb : Option Addr) (ja : Nat) (QJ : List Nat) (zB : Option Addr) (zA : Nat) (jr : List Nat) (Xh : qM.rep w yI [.slice zV x.qy.length zU] x.qy) (hxBags : qM.rep w QJ [.slice jb x.qG.length ja] x.qG) (Qc : qM.rep w jr [.slice zB x.qB.length zA] x.qB) (p0 : tot x ≤ 2000000) : Calls Tryz.prog 12 #[.agg #[.slice zV x.qy.length zU, .slice jb x.qG.length ja, .slice zB x.qB.length zA]] w (Ret (fun v w' => New_StateD w w' v x) w) := by
 refine enter (n := 17) Tryz.func12 rfl Tryz.ntmps12 (Nat.le_of_ble_eq_true rfl) ?_
 have H := (((St.start w).arg Qc).arg hxBags).arg Xh
 have nhxAlive := qJ Xh
 have nhxBags := qJ hxBags
 have nhxAround := qJ Qc
 clear Xh hxBags Qc
 have p1 := tot_StateD x
 refine qh (qp ?_)
 refine sw (o_box H (.agg #[.slice zV x.qy.length zU, .slice jb x.qG.length ja, .slice zB x.qB.length zA]) rfl fun b1 w2 H => ?_)
 replace H : St _ _ [.box b1 [.slice zV x.qy.length zU, .slice jb x.qG.length ja, .slice zB x.qB.length zA] 29] _ := H
 refine sw (o_alloc H ti38 fun b3 w4 H => ?_)
 replace H : St _ _ [.box b3 [.slice none 0 0, .slice none 0 0, .slice none 0 0] 38, .box b1 [.slice zV x.qy.length zU, .slice jb x.qG.length ja, .slice zB x.qB.length zA] 29] _ := H
 refine qo (t_n (qh (qp ?_)))
 refine sw (o_alloc H ti38 fun b5 w6 H => ?_)
 replace H : St _ _ [.box b5 [.slice none 0 0, .slice none 0 0, .slice none 0 0] 38, .box b3 [.slice none 0 0, .slice none 0 0, .slice none 0 0] 38, .box b1 [.slice zV x.qy.length zU, .slice jb x.qG.length ja, .slice zB x.qB.length zA] 29] _ := H
 refine qo (t_n (qh (qp ?_)))
 refine sw (qH b1 (0) 0 Tryz.underlying29 rfl rfl Tryz.sizeOf26 rfl ?_)
 refine sw (qC (.slice zV x.qy.length zU) Tryz.isAgg26 rfl (H.cell 2 rfl rfl) ?_)
 have szx8 := H.base.size
 refine sw (xm #[.slice zV x.qy.length zU] rfl rfl Tryz.call48 (toBoolS_ok w6 x.qy zV zU yI (H.get 0 rfl).1 (by first | omega | (have := p2 (by omega); omega))) ?_)
 rintro v9 w7 r9 x8
 obtain ⟨a9, c9, F9, rfl, f9, H⟩ := H.add_is x8 r9.isNew
 have d9 := f9.2
 have q9 := f9.1
 replace f9 : ∀ b ∈ F9, w.heap.size ≤ b := fun b hb => Nat.le_trans szx8 (f9.1 b hb)
 refine sw (qH b5 (0) 0 Tryz.underlying38 rfl rfl Tryz.sizeOf26 rfl ?_)
 refine sw (jC H 0 rfl (.slice a9 x.qy.length c9) Tryz.sizeOf26 rfl rfl rfl (Nat.le_of_ble_eq_true rfl) fun w10 H => ?_)
 replace H : St _ _ [.box b5 [.slice a9 x.qy.length c9, .slice none 0 0, .slice none 0 0] 38, .box b3 [.slice none 0 0, .slice none 0 0, .slice none 0 0] 38, .box b1 [.slice zV x.qy.length zU, .slice jb x.qG.length ja, .slice zB x.qB.length zA] 29] _ := H
 refine qo (t_n (qh (qp ?_)))
 refine sw (qH b1 (0) 1 Tryz.underlying29 rfl rfl Tryz.sizeOf27 rfl ?_)
 refine sw (qC (.slice jb x.qG.length ja) Tryz.isAgg27 rfl (H.cell 2 rfl rfl) ?_)
 have szx12 := H.base.size
 have lt13 := H.isLt 0 rfl
 refine sw (xm #[.slice jb x.qG.length ja] rfl rfl Tryz.call31 (toInt64SS_ok w10 x.qG jb ja QJ (H.get 2 rfl).1 (by first | omega | (have := p2 (by omega); omega))) ?_)
 rintro v14 w11 r14 x12
 obtain ⟨a14, c14, F14, rfl, f14, H⟩ := H.add_is x12 r14.isNew
 have d14 := f14.2
 have q14 := f14.1
 replace f14 : ∀ b ∈ F14, w.heap.size ≤ b := fun b hb => Nat.le_trans szx12 (f14.1 b hb)
 refine sw (qH b5 (0) 1 Tryz.underlying38 rfl rfl Tryz.sizeOf27 rfl ?_)
 refine sw (jC H 0 rfl (.slice a14 x.qG.length c14) Tryz.sizeOf27 rfl rfl rfl (Nat.le_of_ble_eq_true rfl) fun w15 H => ?_)
 replace H : St _ _ [.box b5 [.slice a9 x.qy.length c9, .slice a14 x.qG.length c14, .slice none 0 0] 38, .box b3 [.slice none 0 0, .slice none 0 0, .slice none 0 0] 38, .box b1 [.slice zV x.qy.length zU, .slice jb x.qG.length ja, .slice zB x.qB.length zA] 29] _ := H
 refine qo (t_n (qh (qp ?_)))
 refine sw (qH b1 (0) 2 Tryz.underlying29 rfl rfl Tryz.sizeOf22 rfl ?_)
 refine sw (qC (.slice zB x.qB.length zA) Tryz.isAgg22 rfl (H.cell 2 rfl rfl) ?_)
 have szx17 := H.base.size
 have lt18 := H.isLt 0 rfl
 have lt19 := H.isLt 1 rfl
 refine sw (xm #[.slice zB x.qB.length zA] rfl rfl Tryz.call25 (Qn w15 x.qB zB zA jr (H.get 4 rfl).1 (by first | omega | (have := p2 (by omega); omega))) ?_)
 rintro v20 w16 r20 x17
 obtain ⟨a20, c20, F20, rfl, f20, H⟩ := H.add_is x17 r20.isNew
 have d20 := f20.2
 have q20 := f20.1
 replace f20 : ∀ b ∈ F20, w.heap.size ≤ b := fun b hb => Nat.le_trans szx17 (f20.1 b hb)
 refine sw (qH b5 (0) 2 Tryz.underlying38 rfl rfl Tryz.sizeOf22 rfl ?_)
 refine sw (jC H 0 rfl (.slice a20 x.qB.length c20) Tryz.sizeOf22 rfl rfl rfl (Nat.le_of_ble_eq_true rfl) fun w21 H => ?_)
 replace H : St _ _ [.box b5 [.slice a9 x.qy.length c9, .slice a14 x.qG.length c14, .slice a20 x.qB.length c20] 38, .box b3 [.slice none 0 0, .slice none 0 0, .slice none 0 0] 38, .box b1 [.slice zV x.qy.length zU, .slice jb x.qG.length ja, .slice zB x.qB.length zA] 29] _ := H
 refine qo (t_n (qh (qp ?_)))
 refine sw (zn [.slice a9 x.qy.length c9, .slice a14 x.qG.length c14, .slice a20 x.qB.length c20] Tryz.isAgg38 Tryz.sizeOf38 rfl (qK (H.cells 0 rfl) 0 3) ?_)
 refine sw (o_store H 1 rfl (.agg #[.slice a9 x.qy.length c9, .slice a14 x.qG.length c14, .slice a20 x.qB.length c20]) Tryz.sizeOf38 rfl rfl (by simp [Value.oneCell', Value.cells]) (Nat.le_of_ble_eq_true rfl) fun w22 H => ?_)
 replace H : St _ _ [.box b5 [.slice a9 x.qy.length c9, .slice a14 x.qG.length c14, .slice a20 x.qB.length c20] 38, .box b3 [.slice a9 x.qy.length c9, .slice a14 x.qG.length c14, .slice a20 x.qB.length c20] 38, .box b1 [.slice zV x.qy.length zU, .slice jb x.qG.length ja, .slice zB x.qB.length zA] 29] _ := H
 refine qo (t_n (xh ?_))
 refine retC H 1 rfl rfl Tryz.isAgg38 Tryz.sizeOf38 rfl ⟨_, rfl, ?_, H.base⟩
 exact ⟨_, _, _, _, _, _, _, _, _, rfl, (H.get 2 rfl).1, (H.get 1 rfl).1, (H.get 0 rfl).1, (Qh (Qh f9 f14) f20), (Qg (Qg d9 d14 lt13 q14) d20 (Xi lt19 lt18) q20), ((((H.get 2 rfl).2 rfl).app ((H.get 1 rfl).2 rfl)).app ((H.get 0 rfl).2 rfl))⟩

theorem y9 (w : World) (x : List Int) (y : List Int) (ax : Option Addr) (cx : Nat) (Fx : List Nat) (ay : Option Addr) (cy : Nat) (Fy : List Nat) (hx : qM.rep w Fx [.slice ax x.length cx] x) (hy : qM.rep w Fy [.slice ay y.length cy] y) : Calls Tryz.prog 27 #[.slice ax x.length cx, .slice ay y.length cy] w (Ret (fun v w' => v = .bool (decide (x = y))) w) := by
 refine enter (n := 26) Tryz.func27 rfl Tryz.ntmps27 (Nat.le_of_ble_eq_true rfl) ?_
 have H := ((St.start w).arg hy).arg hx
 have nhx := qJ hx
 have nhy := qJ hy
 clear hx hy
 refine qh (qp ?_)
 refine sp (.bool false) ?_
 refine qo (t_n (qh (qh (qp ?_))))
 refine sp (.slice ax x.length cx) ?_
 refine sw (zK Tryz.underlying22 ax x.length cx rfl ?_)
 refine sp (.slice ay y.length cy) ?_
 refine sw (zK Tryz.underlying22 ay y.length cy rfl ?_)
 refine sp (.bool ((x.length : Int) != y.length)) ?_
 refine qo (t_n ?_)
 refine qP ((x.length : Int) != y.length) rfl (fun h1 => ?_) (fun h1 => ?_)
 ·skip
  replace h1 := bne_iff_ne.1 h1
  refine qh (qp ?_)
  refine sp (.bool false) ?_
  refine qo (t_n (xh (t_r ?_)))
  refine ret1 (.bool false) rfl rfl ⟨_, rfl, ?_, H.base⟩
  first | rw [decide_eq_false (fun e => by subst e; omega)] | rw [decide_eq_false (jF (k := k) ‹_›)] | rw [decide_eq_true (jc (k := k) (by omega) (by omega) ‹_›)]
 replace h1 := xI h1
 refine xg (t_n (qh (qh (qp ?_))))
 refine sp (.int .i64 0) ?_
 refine qo (t_n (xn ?_))
 refine zC (fun m' ρ w2 => ∃ (junk : Env) (k : Nat), ρ = upd (upd (upd junk 0 (.slice ax x.length cx)) 1 (.slice ay y.length cy)) 5 (.int .i64 k) ∧ (k ≤ x.length) ∧ (x.take k = y.take k) ∧ m' = x.length - k ∧ St w w2 [] [isF false Fx (.slice ax x.length cx) x, isF false Fy (.slice ay y.length cy) y]) (x.length - 0) ⟨_, 0, (by exact qj (qj (qj (rfl) rfl) rfl) rfl), (by omega), (by rfl), rfl, H⟩ ?_
 clear H
 rintro m' ρ w3 ⟨junk, k, rfl, i0, i1, rfl, H⟩
 refine qh (qh (qp ?_))
 refine sps [.int .i64 k, .slice ax x.length cx] ?_
 refine sw (zK Tryz.underlying22 ax x.length cx rfl ?_)
 refine sp (.bool (decide ((k : Int) < x.length))) ?_
 refine qo (t_n ?_)
 refine qP (decide ((k : Int) < x.length)) rfl (fun h4 => ?_) (fun h4 => ?_)
 ·skip
  replace h4 := of_decide_eq_true h4
  refine xg (t_n (qh (xn (qh ?_))))
  refine jf rfl H fun H => ?_
  refine rtp 0 (.slice ax x.length cx) H ?_
  refine rtp 1 (.int .i64 k) H ?_
  obtain ⟨b6, o7, rfl⟩ := H.addr 0 rfl (by omega)
  refine rt 2 (pp b6 (o7 + (k : Int).toNat * 1)) (xQ b6 (o7) x.length cx k Tryz.underlying22 ti2 rfl rfl (by omega) (by omega)) H ?_
  refine rt 3 (.int .i64 (x[k]!)) (xw Tryz.isAgg2 rfl (fun _ h => h.vH 0 rfl k (by omega) (by omega))) H ?_
  refine rtp 4 (.slice ay y.length cy) H ?_
  refine rtp 5 (.int .i64 k) H ?_
  obtain ⟨b8, o9, rfl⟩ := H.addr 1 rfl (by omega)
  refine rt 6 (pp b8 (o9 + (k : Int).toNat * 1)) (xQ b8 (o9) y.length cy k Tryz.underlying22 ti2 rfl rfl (by omega) (by omega)) H ?_
  refine rt 7 (.int .i64 (y[k]!)) (xw Tryz.isAgg2 rfl (fun _ h => h.vH 1 rfl k (by omega) (by omega))) H ?_
  refine rtp 8 (.bool ((x[k]! : Int) != (y[k]!))) H ?_
  refine xZ (by kernel_rfl) (t_n ?_)
  refine qP ((x[k]! : Int) != (y[k]!)) rfl (fun h10 => ?_) (fun h10 => ?_)
  ·skip
   replace h10 := bne_iff_ne.1 h10
   refine qh (qp ?_)
   refine sp (.bool false) ?_
   refine qo (t_n (xh (b_r (t_r (t_r (b_r (t_r ?_)))))))
   refine ret1 (.bool false) rfl rfl ⟨_, rfl, ?_, H.base⟩
   first | rw [decide_eq_false (fun e => by subst e; omega)] | rw [decide_eq_false (jF (k := k) ‹_›)] | rw [decide_eq_true (jc (k := k) (by omega) (by omega) ‹_›)]
  replace h10 := xI h10
  refine xg (b_n (t_n (qp ?_)))
  refine sp (.int .i64 k) ?_
  refine sw (zD k 1 rfl rfl (by omega) ?_)
  refine sp (.int .i64 (k + 1)) ?_
  refine qo ?_
  refine xy (m' := x.length - (k + 1)) (by omega) ⟨_, k + 1, (by exact qj (qj (qj (rfl) rfl) rfl) rfl), ?_, ?_, rfl, H⟩
  · omega
  · exact eqTo_succ (by omega) (by omega) ‹_› (by first | assumption | omega)
 replace h4 := of_decide_eq_false h4
 refine zx (t_x (t_x (b_x (t_n (qh (qp ?_))))))
 refine sp (.bool true) ?_
 refine qo (t_n (xh ?_))
 refine ret1 (.bool true) rfl rfl ⟨_, rfl, ?_, H.base⟩
 first | rw [decide_eq_false (fun e => by subst e; omega)] | rw [decide_eq_false (jF (k := k) ‹_›)] | rw [decide_eq_true (jc (k := k) (by omega) (by omega) ‹_›)]

theorem eqBoolS_ok (w : World) (x : List Bool) (y : List Bool) (ax : Option Addr) (cx : Nat) (Fx : List Nat) (ay : Option Addr) (cy : Nat) (Fy : List Nat) (hx : qM.rep w Fx [.slice ax x.length cx] x) (hy : qM.rep w Fy [.slice ay y.length cy] y) : Calls Tryz.prog 56 #[.slice ax x.length cx, .slice ay y.length cy] w (Ret (fun v w' => v = .bool (decide (x = y))) w) := by
 refine enter (n := 26) Tryz.func56 rfl Tryz.ntmps56 (Nat.le_of_ble_eq_true rfl) ?_
 have H := ((St.start w).arg hy).arg hx
 have nhx := qJ hx
 have nhy := qJ hy
 clear hx hy
 refine qh (qp ?_)
 refine sp (.bool false) ?_
 refine qo (t_n (qh (qh (qp ?_))))
 refine sp (.slice ax x.length cx) ?_
 refine sw (zK Tryz.underlying26 ax x.length cx rfl ?_)
 refine sp (.slice ay y.length cy) ?_
 refine sw (zK Tryz.underlying26 ay y.length cy rfl ?_)
 refine sp (.bool ((x.length : Int) != y.length)) ?_
 refine qo (t_n ?_)
 refine qP ((x.length : Int) != y.length) rfl (fun h1 => ?_) (fun h1 => ?_)
 ·skip
  replace h1 := bne_iff_ne.1 h1
  refine qh (qp ?_)
  refine sp (.bool false) ?_
  refine qo (t_n (xh (t_r ?_)))
  refine ret1 (.bool false) rfl rfl ⟨_, rfl, ?_, H.base⟩
  first | rw [decide_eq_false (fun e => by subst e; omega)] | rw [decide_eq_false (jF (k := k) ‹_›)] | rw [decide_eq_true (jc (k := k) (by omega) (by omega) ‹_›)]
 replace h1 := xI h1
 refine xg (t_n (qh (qh (qp ?_))))
 refine sp (.int .i64 0) ?_
 refine qo (t_n (xn ?_))
 refine zC (fun m' ρ w2 => ∃ (junk : Env) (k : Nat), ρ = upd (upd (upd junk 0 (.slice ax x.length cx)) 1 (.slice ay y.length cy)) 5 (.int .i64 k) ∧ (k ≤ x.length) ∧ (x.take k = y.take k) ∧ m' = x.length - k ∧ St w w2 [] [isF false Fx (.slice ax x.length cx) x, isF false Fy (.slice ay y.length cy) y]) (x.length - 0) ⟨_, 0, (by exact qj (qj (qj (rfl) rfl) rfl) rfl), (by omega), (by rfl), rfl, H⟩ ?_
 clear H
 rintro m' ρ w3 ⟨junk, k, rfl, i0, i1, rfl, H⟩
 refine qh (qh (qp ?_))
 refine sps [.int .i64 k, .slice ax x.length cx] ?_
 refine sw (zK Tryz.underlying26 ax x.length cx rfl ?_)
 refine sp (.bool (decide ((k : Int) < x.length))) ?_
 refine qo (t_n ?_)
 refine qP (decide ((k : Int) < x.length)) rfl (fun h4 => ?_) (fun h4 => ?_)
 ·skip
  replace h4 := of_decide_eq_true h4
  refine xg (t_n (qh (xn (qh ?_))))
  refine jf rfl H fun H => ?_
  refine rtp 0 (.slice ax x.length cx) H ?_
  refine rtp 1 (.int .i64 k) H ?_
  obtain ⟨b6, o7, rfl⟩ := H.addr 0 rfl (by omega)
  refine rt 2 (pp b6 (o7 + (k : Int).toNat * 1)) (xQ b6 (o7) x.length cx k Tryz.underlying26 ti4 rfl rfl (by omega) (by omega)) H ?_
  refine rt 3 (.bool (x[k]!)) (xw Tryz.isAgg4 rfl (fun _ h => h.yU 0 rfl k (by omega) (by omega))) H ?_
  refine rtp 4 (.slice ay y.length cy) H ?_
  refine rtp 5 (.int .i64 k) H ?_
  obtain ⟨b8, o9, rfl⟩ := H.addr 1 rfl (by omega)
  refine rt 6 (pp b8 (o9 + (k : Int).toNat * 1)) (xQ b8 (o9) y.length cy k Tryz.underlying26 ti4 rfl rfl (by omega) (by omega)) H ?_
  refine rt 7 (.bool (y[k]!)) (xw Tryz.isAgg4 rfl (fun _ h => h.yU 1 rfl k (by omega) (by omega))) H ?_
  refine rt 8 (.bool ((x[k]!) != (y[k]!))) (y_neB Tryz.underlying4 (x[k]!) (y[k]!) rfl rfl) H ?_
  refine xZ (by kernel_rfl) (t_n ?_)
  refine qP ((x[k]!) != (y[k]!)) rfl (fun h10 => ?_) (fun h10 => ?_)
  ·skip
   replace h10 := bne_iff_ne.1 h10
   refine qh (qp ?_)
   refine sp (.bool false) ?_
   refine qo (t_n (xh (b_r (t_r (t_r (b_r (t_r ?_)))))))
   refine ret1 (.bool false) rfl rfl ⟨_, rfl, ?_, H.base⟩
   first | rw [decide_eq_false (fun e => by subst e; omega)] | rw [decide_eq_false (jF (k := k) ‹_›)] | rw [decide_eq_true (jc (k := k) (by omega) (by omega) ‹_›)]
  replace h10 := xI h10
  refine xg (b_n (t_n (qp ?_)))
  refine sp (.int .i64 k) ?_
  refine sw (zD k 1 rfl rfl (by omega) ?_)
  refine sp (.int .i64 (k + 1)) ?_
  refine qo ?_
  refine xy (m' := x.length - (k + 1)) (by omega) ⟨_, k + 1, (by exact qj (qj (qj (rfl) rfl) rfl) rfl), ?_, ?_, rfl, H⟩
  · omega
  · exact eqTo_succ (by omega) (by omega) ‹_› (by first | assumption | omega)
 replace h4 := of_decide_eq_false h4
 refine zx (t_x (t_x (b_x (t_n (qh (qp ?_))))))
 refine sp (.bool true) ?_
 refine qo (t_n (xh ?_))
 refine ret1 (.bool true) rfl rfl ⟨_, rfl, ?_, H.base⟩
 first | rw [decide_eq_false (fun e => by subst e; omega)] | rw [decide_eq_false (jF (k := k) ‹_›)] | rw [decide_eq_true (jc (k := k) (by omega) (by omega) ‹_›)]

theorem eqInt64SS_ok (w : World) (x : List (List Int)) (y : List (List Int)) (ax : Option Addr) (cx : Nat) (Fx : List Nat) (ay : Option Addr) (cy : Nat) (Fy : List Nat) (hx : qM.rep w Fx [.slice ax x.length cx] x) (hy : qM.rep w Fy [.slice ay y.length cy] y) : Calls Tryz.prog 14 #[.slice ax x.length cx, .slice ay y.length cy] w (Ret (fun v w' => v = .bool (decide (x = y))) w) := by
 refine enter (n := 27) Tryz.func14 rfl Tryz.ntmps14 (Nat.le_of_ble_eq_true rfl) ?_
 have H := ((St.start w).arg hy).arg hx
 have nhx := qJ hx
 have nhy := qJ hy
 clear hx hy
 refine qh (qp ?_)
 refine sp (.bool false) ?_
 refine qo (t_n (qh (qh (qp ?_))))
 refine sp (.slice ax x.length cx) ?_
 refine sw (zK Tryz.underlying27 ax x.length cx rfl ?_)
 refine sp (.slice ay y.length cy) ?_
 refine sw (zK Tryz.underlying27 ay y.length cy rfl ?_)
 refine sp (.bool ((x.length : Int) != y.length)) ?_
 refine qo (t_n ?_)
 refine qP ((x.length : Int) != y.length) rfl (fun h1 => ?_) (fun h1 => ?_)
 ·skip
  replace h1 := bne_iff_ne.1 h1
  refine qh (qp ?_)
  refine sp (.bool false) ?_
  refine qo (t_n (xh (t_r ?_)))
  refine ret1 (.bool false) rfl rfl ⟨_, rfl, ?_, H.base⟩
  first | rw [decide_eq_false (fun e => by subst e; omega)] | rw [decide_eq_false (jF (k := k) ‹_›)] | rw [decide_eq_true (jc (k := k) (by omega) (by omega) ‹_›)]
 replace h1 := xI h1
 refine xg (t_n (qh (qh (qp ?_))))
 refine sp (.int .i64 0) ?_
 refine qo (t_n (xn ?_))
 refine zC (fun m' ρ w2 => ∃ (junk : Env) (k : Nat), ρ = upd (upd (upd junk 0 (.slice ax x.length cx)) 1 (.slice ay y.length cy)) 5 (.int .i64 k) ∧ (k ≤ x.length) ∧ (x.take k = y.take k) ∧ m' = x.length - k ∧ St w w2 [] [isF false Fx (.slice ax x.length cx) x, isF false Fy (.slice ay y.length cy) y]) (x.length - 0) ⟨_, 0, (by exact qj (qj (qj (rfl) rfl) rfl) rfl), (by omega), (by rfl), rfl, H⟩ ?_
 clear H
 rintro m' ρ w3 ⟨junk, k, rfl, i0, i1, rfl, H⟩
 refine qh (qh (qp ?_))
 refine sps [.int .i64 k, .slice ax x.length cx] ?_
 refine sw (zK Tryz.underlying27 ax x.length cx rfl ?_)
 refine sp (.bool (decide ((k : Int) < x.length))) ?_
 refine qo (t_n ?_)
 refine qP (decide ((k : Int) < x.length)) rfl (fun h4 => ?_) (fun h4 => ?_)
 ·skip
  replace h4 := of_decide_eq_true h4
  refine xg (t_n (qh (xn (qh ?_))))
  refine jf rfl H fun H => ?_
  refine rtp 0 (.slice ax x.length cx) H ?_
  refine rtp 1 (.int .i64 k) H ?_
  obtain ⟨b6, o7, rfl⟩ := H.addr 0 rfl (by omega)
  obtain ⟨ae8, ce8, Fe8, H⟩ := H.Xk 0 rfl k k (by omega) (by omega) (by omega)
  refine rt 2 (pp b6 (o7 + (k : Int).toNat * 1)) (xQ b6 (o7) x.length cx k Tryz.underlying27 ti22 rfl rfl (by omega) (by omega)) (H.sel _ (.refl _) _ (fun _ h => List.mem_cons_of_mem _ (List.mem_cons_of_mem _ (h)))) ?_
  refine rtp 4 (.slice ay y.length cy) (H.sel _ (.refl _) _ (fun _ h => List.mem_cons_of_mem _ (List.mem_cons_of_mem _ (h)))) ?_
  refine rtp 5 (.int .i64 k) (H.sel _ (.refl _) _ (fun _ h => List.mem_cons_of_mem _ (List.mem_cons_of_mem _ (h)))) ?_
  obtain ⟨b9, o10, rfl⟩ := H.addr 3 rfl (by omega)
  obtain ⟨ae11, ce11, Fe11, H⟩ := H.Xk 3 rfl k k (by omega) (by omega) (by omega)
  refine rt 6 (pp b9 (o10 + (k : Int).toNat * 1)) (xQ b9 (o10) y.length cy k Tryz.underlying27 ti22 rfl rfl (by omega) (by omega)) (H.sel _ (.refl _) _ (fun _ h => List.mem_cons_of_mem _ (List.mem_cons_of_mem _ (List.mem_cons_of_mem _ (List.mem_cons_of_mem _ (h)))))) ?_
  refine zt [3, 7] (by kernel_rfl) (by simp) (yF rfl ?_ (yF rfl ?_ zu))
  ·skip
   refine qC (.slice ae8 ((x[k]!).length) ce8) Tryz.isAgg22 rfl (H.xU 3 rfl 0 rfl) ?_
   refine ⟨H.sel _ (.refl _) _ (fun _ h => List.mem_cons_of_mem _ (List.mem_cons_of_mem _ (List.mem_cons_of_mem _ (List.mem_cons_of_mem _ (h))))), ?_⟩
   refine zt [7] (by kernel_rfl) (by simp) (yF rfl ?_ zu)
   refine qC (.slice ae11 ((y[k]!).length) ce11) Tryz.isAgg22 rfl (H.xU 1 rfl 0 rfl) ?_
   refine ⟨H.sel _ (.refl _) _ (fun _ h => List.mem_cons_of_mem _ (List.mem_cons_of_mem _ (List.mem_cons_of_mem _ (List.mem_cons_of_mem _ (h))))), ?_⟩
   refine zt [8] (by kernel_rfl) (by simp) (yF rfl ?_ zu)
   refine xm #[.slice ae8 ((x[k]!).length) ce8, .slice ae11 ((y[k]!).length) ce11] rfl rfl Tryz.call27 (y9 w3.drew (x[k]!) (y[k]!) ae8 ce8 Fe8 ae11 ce11 Fe11 (H.get 2 rfl).1 (H.get 0 rfl).1) ?_
   rintro _ w12 rfl x13
   replace H := H.ext x13
   refine ⟨H.sel _ (.refl _) _ (fun _ h => List.mem_cons_of_mem _ (List.mem_cons_of_mem _ (List.mem_cons_of_mem _ (List.mem_cons_of_mem _ (h))))), ?_⟩
   refine rtp 9 (.bool (!(decide ((x[k]!) = (y[k]!))))) (H.sel _ (.refl _) _ (fun _ h => List.mem_cons_of_mem _ (List.mem_cons_of_mem _ (List.mem_cons_of_mem _ (List.mem_cons_of_mem _ (h)))))) ?_
   refine xZ (by kernel_rfl) (t_n ?_)
   refine qP (!(decide ((x[k]!) = (y[k]!)))) rfl (fun h14 => ?_) (fun h14 => ?_)
   ·skip
    replace h14 := qQ h14
    replace h14 := of_decide_eq_false h14
    refine qh (qp ?_)
    refine sp (.bool false) ?_
    refine qo (t_n (xh (b_r (t_r (t_r (b_r (t_r ?_)))))))
    refine ret1 (.bool false) rfl rfl ⟨_, rfl, ?_, H.base⟩
    first | rw [decide_eq_false (fun e => by subst e; omega)] | rw [decide_eq_false (jF (k := k) ‹_›)] | rw [decide_eq_true (jc (k := k) (by omega) (by omega) ‹_›)]
   replace h14 := qN h14
   replace h14 := of_decide_eq_true h14
   refine xg (b_n (t_n (qp ?_)))
   refine sp (.int .i64 k) ?_
   refine sw (zD k 1 rfl rfl (by omega) ?_)
   refine sp (.int .i64 (k + 1)) ?_
   refine qo ?_
   refine xy (m' := x.length - (k + 1)) (by omega) ⟨_, k + 1, (by exact qj (qj (qj (rfl) rfl) rfl) rfl), ?_, ?_, rfl, H.sel _ (.refl _) _ (by simp)⟩
   · omega
   · exact eqTo_succ (by omega) (by omega) ‹_› (by first | assumption | omega)
  refine qC (.slice ae11 ((y[k]!).length) ce11) Tryz.isAgg22 rfl (H.xU 1 rfl 0 rfl) ?_
  refine ⟨H.sel _ (.refl _) _ (fun _ h => List.mem_cons_of_mem _ (List.mem_cons_of_mem _ (List.mem_cons_of_mem _ (List.mem_cons_of_mem _ (h))))), ?_⟩
  refine zt [3] (by kernel_rfl) (by simp) (yF rfl ?_ zu)
  refine qC (.slice ae8 ((x[k]!).length) ce8) Tryz.isAgg22 rfl (H.xU 3 rfl 0 rfl) ?_
  refine ⟨H.sel _ (.refl _) _ (fun _ h => List.mem_cons_of_mem _ (List.mem_cons_of_mem _ (List.mem_cons_of_mem _ (List.mem_cons_of_mem _ (h))))), ?_⟩
  refine zt [8] (by kernel_rfl) (by simp) (yF rfl ?_ zu)
  refine xm #[.slice ae8 ((x[k]!).length) ce8, .slice ae11 ((y[k]!).length) ce11] rfl rfl Tryz.call27 (y9 w3.drew (x[k]!) (y[k]!) ae8 ce8 Fe8 ae11 ce11 Fe11 (H.get 2 rfl).1 (H.get 0 rfl).1) ?_
  rintro _ w15 rfl x16
  replace H := H.ext x16
  refine ⟨H.sel _ (.refl _) _ (fun _ h => List.mem_cons_of_mem _ (List.mem_cons_of_mem _ (List.mem_cons_of_mem _ (List.mem_cons_of_mem _ (h))))), ?_⟩
  refine rtp 9 (.bool (!(decide ((x[k]!) = (y[k]!))))) (H.sel _ (.refl _) _ (fun _ h => List.mem_cons_of_mem _ (List.mem_cons_of_mem _ (List.mem_cons_of_mem _ (List.mem_cons_of_mem _ (h)))))) ?_
  refine xZ (by kernel_rfl) (t_n ?_)
  refine qP (!(decide ((x[k]!) = (y[k]!)))) rfl (fun h17 => ?_) (fun h17 => ?_)
  ·skip
   replace h17 := qQ h17
   replace h17 := of_decide_eq_false h17
   refine qh (qp ?_)
   refine sp (.bool false) ?_
   refine qo (t_n (xh (b_r (t_r (t_r (b_r (t_r ?_)))))))
   refine ret1 (.bool false) rfl rfl ⟨_, rfl, ?_, H.base⟩
   first | rw [decide_eq_false (fun e => by subst e; omega)] | rw [decide_eq_false (jF (k := k) ‹_›)] | rw [decide_eq_true (jc (k := k) (by omega) (by omega) ‹_›)]
  replace h17 := qN h17
  replace h17 := of_decide_eq_true h17
  refine xg (b_n (t_n (qp ?_)))
  refine sp (.int .i64 k) ?_
  refine sw (zD k 1 rfl rfl (by omega) ?_)
  refine sp (.int .i64 (k + 1)) ?_
  refine qo ?_
  refine xy (m' := x.length - (k + 1)) (by omega) ⟨_, k + 1, (by exact qj (qj (qj (rfl) rfl) rfl) rfl), ?_, ?_, rfl, H.sel _ (.refl _) _ (by simp)⟩
  · omega
  · exact eqTo_succ (by omega) (by omega) ‹_› (by first | assumption | omega)
 replace h4 := of_decide_eq_false h4
 refine zx (t_x (t_x (b_x (t_n (qh (qp ?_))))))
 refine sp (.bool true) ?_
 refine qo (t_n (xh ?_))
 refine ret1 (.bool true) rfl rfl ⟨_, rfl, ?_, H.base⟩
 first | rw [decide_eq_false (fun e => by subst e; omega)] | rw [decide_eq_false (jF (k := k) ‹_›)] | rw [decide_eq_true (jc (k := k) (by omega) (by omega) ‹_›)]

theorem eqInto_ok (w : World) (x : IntoD) (y : IntoD) (axBag : Option Addr) (cxBag : Nat) (FxBag : List Nat) (ayBag : Option Addr) (cyBag : Nat) (FyBag : List Nat) (hxBag : qM.rep w FxBag [.slice axBag x.zF.length cxBag] x.zF) (hyBag : qM.rep w FyBag [.slice ayBag y.zF.length cyBag] y.zF) : Calls Tryz.prog 162 #[.agg #[.int .i64 x.qw, .slice axBag x.zF.length cxBag], .agg #[.int .i64 y.qw, .slice ayBag y.zF.length cyBag]] w (Ret (fun v w' => v = .bool (decide (x = y))) w) := by
 refine enter (n := 16) Tryz.func162 rfl Tryz.ntmps162 (Nat.le_of_ble_eq_true rfl) ?_
 have H := ((St.start w).arg hyBag).arg hxBag
 have nhxBag := qJ hxBag
 have nhyBag := qJ hyBag
 clear hxBag hyBag
 refine qh (qp ?_)
 refine sw (o_box H (.agg #[.int .i64 x.qw, .slice axBag x.zF.length cxBag]) rfl fun b1 w2 H => ?_)
 replace H : St _ _ [.box b1 [.int .i64 x.qw, .slice axBag x.zF.length cxBag] 115] _ := H
 refine sw (o_box H (.agg #[.int .i64 y.qw, .slice ayBag y.zF.length cyBag]) rfl fun b3 w4 H => ?_)
 replace H : St _ _ [.box b3 [.int .i64 y.qw, .slice ayBag y.zF.length cyBag] 115, .box b1 [.int .i64 x.qw, .slice axBag x.zF.length cxBag] 115] _ := H
 refine sp (.bool false) ?_
 refine qo (t_n (qh (qh (qp ?_))))
 refine sw (qH b1 (0) 0 Tryz.underlying115 rfl rfl Tryz.sizeOf2 rfl ?_)
 refine sw (qC (.int .i64 x.qw) Tryz.isAgg2 rfl (H.cell 1 rfl rfl) ?_)
 refine sw (qH b3 (0) 0 Tryz.underlying115 rfl rfl Tryz.sizeOf2 rfl ?_)
 refine sw (qC (.int .i64 y.qw) Tryz.isAgg2 rfl (H.cell 0 rfl rfl) ?_)
 refine sp (.bool ((x.qw : Int) != y.qw)) ?_
 refine qo (t_n ?_)
 refine qP ((x.qw : Int) != y.qw) rfl (fun h5 => ?_) (fun h5 => ?_)
 ·skip
  replace h5 := bne_iff_ne.1 h5
  refine qh (qp ?_)
  refine sp (.bool false) ?_
  refine qo (t_n (xh (t_r ?_)))
  refine ret1 (.bool false) rfl rfl ⟨_, rfl, ?_, H.base⟩
  rw [decide_eq_false (fun e => by subst e; simp_all)]
 replace h5 := xI h5
 refine xg (t_n (qh (qh (qp ?_))))
 refine sw (qH b1 (0) 1 Tryz.underlying115 rfl rfl Tryz.sizeOf22 rfl ?_)
 refine sw (qC (.slice axBag x.zF.length cxBag) Tryz.isAgg22 rfl (H.cell 1 rfl rfl) ?_)
 refine sw (qH b3 (0) 1 Tryz.underlying115 rfl rfl Tryz.sizeOf22 rfl ?_)
 refine sw (qC (.slice ayBag y.zF.length cyBag) Tryz.isAgg22 rfl (H.cell 0 rfl rfl) ?_)
 refine sw (xm #[.slice axBag x.zF.length cxBag, .slice ayBag y.zF.length cyBag] rfl rfl Tryz.call27 (y9 w4 x.zF y.zF axBag cxBag FxBag ayBag cyBag FyBag (H.get 0 rfl).1 (H.get 1 rfl).1) ?_)
 rintro _ w6 rfl x7
 replace H := H.ext x7
 refine sp (.bool (!(decide (x.zF = y.zF)))) ?_
 refine qo (t_n ?_)
 refine qP (!(decide (x.zF = y.zF))) rfl (fun h8 => ?_) (fun h8 => ?_)
 ·skip
  replace h8 := qQ h8
  replace h8 := of_decide_eq_false h8
  refine qh (qp ?_)
  refine sp (.bool false) ?_
  refine qo (t_n (xh (t_r ?_)))
  refine ret1 (.bool false) rfl rfl ⟨_, rfl, ?_, H.base⟩
  rw [decide_eq_false (fun e => by subst e; simp_all)]
 replace h8 := qN h8
 replace h8 := of_decide_eq_true h8
 refine xg (t_n (qh (qp ?_)))
 refine sp (.bool true) ?_
 refine qo (t_n (xh ?_))
 refine ret1 (.bool true) rfl rfl ⟨_, rfl, ?_, H.base⟩
 rw [decide_eq_true (by cases x; cases y; simp_all)]

theorem eqIntoS_ok (w : World) (x : List IntoD) (y : List IntoD) (ax : Option Addr) (cx : Nat) (Fx : List Nat) (ay : Option Addr) (cy : Nat) (Fy : List Nat) (hx : qM.rep w Fx [.slice ax x.length cx] x) (hy : qM.rep w Fy [.slice ay y.length cy] y) : Calls Tryz.prog 148 #[.slice ax x.length cx, .slice ay y.length cy] w (Ret (fun v w' => v = .bool (decide (x = y))) w) := by
 refine enter (n := 27) Tryz.func148 rfl Tryz.ntmps148 (Nat.le_of_ble_eq_true rfl) ?_
 have H := ((St.start w).arg hy).arg hx
 have nhx := qJ hx
 have nhy := qJ hy
 clear hx hy
 refine qh (qp ?_)
 refine sp (.bool false) ?_
 refine qo (t_n (qh (qh (qp ?_))))
 refine sp (.slice ax x.length cx) ?_
 refine sw (zK Tryz.underlying108 ax x.length cx rfl ?_)
 refine sp (.slice ay y.length cy) ?_
 refine sw (zK Tryz.underlying108 ay y.length cy rfl ?_)
 refine sp (.bool ((x.length : Int) != y.length)) ?_
 refine qo (t_n ?_)
 refine qP ((x.length : Int) != y.length) rfl (fun h1 => ?_) (fun h1 => ?_)
 ·skip
  replace h1 := bne_iff_ne.1 h1
  refine qh (qp ?_)
  refine sp (.bool false) ?_
  refine qo (t_n (xh (t_r ?_)))
  refine ret1 (.bool false) rfl rfl ⟨_, rfl, ?_, H.base⟩
  first | rw [decide_eq_false (fun e => by subst e; omega)] | rw [decide_eq_false (jF (k := k) ‹_›)] | rw [decide_eq_true (jc (k := k) (by omega) (by omega) ‹_›)]
 replace h1 := xI h1
 refine xg (t_n (qh (qh (qp ?_))))
 refine sp (.int .i64 0) ?_
 refine qo (t_n (xn ?_))
 refine zC (fun m' ρ w2 => ∃ (junk : Env) (k : Nat), ρ = upd (upd (upd junk 0 (.slice ax x.length cx)) 1 (.slice ay y.length cy)) 5 (.int .i64 k) ∧ (k ≤ x.length) ∧ (x.take k = y.take k) ∧ m' = x.length - k ∧ St w w2 [] [isF false Fx (.slice ax x.length cx) x, isF false Fy (.slice ay y.length cy) y]) (x.length - 0) ⟨_, 0, (by exact qj (qj (qj (rfl) rfl) rfl) rfl), (by omega), (by rfl), rfl, H⟩ ?_
 clear H
 rintro m' ρ w3 ⟨junk, k, rfl, i0, i1, rfl, H⟩
 refine qh (qh (qp ?_))
 refine sps [.int .i64 k, .slice ax x.length cx] ?_
 refine sw (zK Tryz.underlying108 ax x.length cx rfl ?_)
 refine sp (.bool (decide ((k : Int) < x.length))) ?_
 refine qo (t_n ?_)
 refine qP (decide ((k : Int) < x.length)) rfl (fun h4 => ?_) (fun h4 => ?_)
 ·skip
  replace h4 := of_decide_eq_true h4
  refine xg (t_n (qh (xn (qh ?_))))
  refine jf rfl H fun H => ?_
  refine rtp 0 (.slice ax x.length cx) H ?_
  refine rtp 1 (.int .i64 k) H ?_
  obtain ⟨b6, o7, rfl⟩ := H.addr 0 rfl (by omega)
  obtain ⟨ae8Bag, ce8Bag, Fe8Bag, H⟩ := H.vP 0 rfl k k (by omega) (by omega) (by omega)
  refine rt 2 (pp b6 (o7 + (k : Int).toNat * 2)) (xQ b6 (o7) x.length cx k Tryz.underlying108 ti115 rfl rfl (by omega) (by omega)) (H.sel _ (.refl _) _ (fun _ h => List.mem_cons_of_mem _ (List.mem_cons_of_mem _ (h)))) ?_
  refine rtp 4 (.slice ay y.length cy) (H.sel _ (.refl _) _ (fun _ h => List.mem_cons_of_mem _ (List.mem_cons_of_mem _ (h)))) ?_
  refine rtp 5 (.int .i64 k) (H.sel _ (.refl _) _ (fun _ h => List.mem_cons_of_mem _ (List.mem_cons_of_mem _ (h)))) ?_
  obtain ⟨b9, o10, rfl⟩ := H.addr 3 rfl (by omega)
  obtain ⟨ae11Bag, ce11Bag, Fe11Bag, H⟩ := H.vP 3 rfl k k (by omega) (by omega) (by omega)
  refine rt 6 (pp b9 (o10 + (k : Int).toNat * 2)) (xQ b9 (o10) y.length cy k Tryz.underlying108 ti115 rfl rfl (by omega) (by omega)) (H.sel _ (.refl _) _ (fun _ h => List.mem_cons_of_mem _ (List.mem_cons_of_mem _ (List.mem_cons_of_mem _ (List.mem_cons_of_mem _ (h)))))) ?_
  refine zt [3, 7] (by kernel_rfl) (by simp) (yF rfl ?_ (yF rfl ?_ zu))
  ·skip
   refine zn [.int .i64 ((x[k]!).qw), .slice ae8Bag (((x[k]!).zF).length) ce8Bag] Tryz.isAgg115 Tryz.sizeOf115 rfl (qK (H.get 3 rfl) 0 2) ?_
   refine ⟨H.sel _ (.refl _) _ (fun _ h => List.mem_cons_of_mem _ (List.mem_cons_of_mem _ (List.mem_cons_of_mem _ (List.mem_cons_of_mem _ (h))))), ?_⟩
   refine zt [7] (by kernel_rfl) (by simp) (yF rfl ?_ zu)
   refine zn [.int .i64 ((y[k]!).qw), .slice ae11Bag (((y[k]!).zF).length) ce11Bag] Tryz.isAgg115 Tryz.sizeOf115 rfl (qK (H.get 1 rfl) 0 2) ?_
   refine ⟨H.sel _ (.refl _) _ (fun _ h => List.mem_cons_of_mem _ (List.mem_cons_of_mem _ (List.mem_cons_of_mem _ (List.mem_cons_of_mem _ (h))))), ?_⟩
   refine zt [8] (by kernel_rfl) (by simp) (yF rfl ?_ zu)
   refine xm #[.agg #[.int .i64 ((x[k]!).qw), .slice ae8Bag (((x[k]!).zF).length) ce8Bag], .agg #[.int .i64 ((y[k]!).qw), .slice ae11Bag (((y[k]!).zF).length) ce11Bag]] rfl rfl Tryz.call162 (eqInto_ok w3.drew (x[k]!) (y[k]!) ae8Bag ce8Bag Fe8Bag ae11Bag ce11Bag Fe11Bag (H.get 2 rfl).1 (H.get 0 rfl).1) ?_
   rintro _ w12 rfl x13
   replace H := H.ext x13
   refine ⟨H.sel _ (.refl _) _ (fun _ h => List.mem_cons_of_mem _ (List.mem_cons_of_mem _ (List.mem_cons_of_mem _ (List.mem_cons_of_mem _ (h))))), ?_⟩
   refine rtp 9 (.bool (!(decide ((x[k]!) = (y[k]!))))) (H.sel _ (.refl _) _ (fun _ h => List.mem_cons_of_mem _ (List.mem_cons_of_mem _ (List.mem_cons_of_mem _ (List.mem_cons_of_mem _ (h)))))) ?_
   refine xZ (by kernel_rfl) (t_n ?_)
   refine qP (!(decide ((x[k]!) = (y[k]!)))) rfl (fun h14 => ?_) (fun h14 => ?_)
   ·skip
    replace h14 := qQ h14
    replace h14 := of_decide_eq_false h14
    refine qh (qp ?_)
    refine sp (.bool false) ?_
    refine qo (t_n (xh (b_r (t_r (t_r (b_r (t_r ?_)))))))
    refine ret1 (.bool false) rfl rfl ⟨_, rfl, ?_, H.base⟩
    first | rw [decide_eq_false (fun e => by subst e; omega)] | rw [decide_eq_false (jF (k := k) ‹_›)] | rw [decide_eq_true (jc (k := k) (by omega) (by omega) ‹_›)]
   replace h14 := qN h14
   replace h14 := of_decide_eq_true h14
   refine xg (b_n (t_n (qp ?_)))
   refine sp (.int .i64 k) ?_
   refine sw (zD k 1 rfl rfl (by omega) ?_)
   refine sp (.int .i64 (k + 1)) ?_
   refine qo ?_
   refine xy (m' := x.length - (k + 1)) (by omega) ⟨_, k + 1, (by exact qj (qj (qj (rfl) rfl) rfl) rfl), ?_, ?_, rfl, H.sel _ (.refl _) _ (by simp)⟩
   · omega
   · exact eqTo_succ (by omega) (by omega) ‹_› (by first | assumption | omega)
  refine zn [.int .i64 ((y[k]!).qw), .slice ae11Bag (((y[k]!).zF).length) ce11Bag] Tryz.isAgg115 Tryz.sizeOf115 rfl (qK (H.get 1 rfl) 0 2) ?_
  refine ⟨H.sel _ (.refl _) _ (fun _ h => List.mem_cons_of_mem _ (List.mem_cons_of_mem _ (List.mem_cons_of_mem _ (List.mem_cons_of_mem _ (h))))), ?_⟩
  refine zt [3] (by kernel_rfl) (by simp) (yF rfl ?_ zu)
  refine zn [.int .i64 ((x[k]!).qw), .slice ae8Bag (((x[k]!).zF).length) ce8Bag] Tryz.isAgg115 Tryz.sizeOf115 rfl (qK (H.get 3 rfl) 0 2) ?_
  refine ⟨H.sel _ (.refl _) _ (fun _ h => List.mem_cons_of_mem _ (List.mem_cons_of_mem _ (List.mem_cons_of_mem _ (List.mem_cons_of_mem _ (h))))), ?_⟩
  refine zt [8] (by kernel_rfl) (by simp) (yF rfl ?_ zu)
  refine xm #[.agg #[.int .i64 ((x[k]!).qw), .slice ae8Bag (((x[k]!).zF).length) ce8Bag], .agg #[.int .i64 ((y[k]!).qw), .slice ae11Bag (((y[k]!).zF).length) ce11Bag]] rfl rfl Tryz.call162 (eqInto_ok w3.drew (x[k]!) (y[k]!) ae8Bag ce8Bag Fe8Bag ae11Bag ce11Bag Fe11Bag (H.get 2 rfl).1 (H.get 0 rfl).1) ?_
  rintro _ w15 rfl x16
  replace H := H.ext x16
  refine ⟨H.sel _ (.refl _) _ (fun _ h => List.mem_cons_of_mem _ (List.mem_cons_of_mem _ (List.mem_cons_of_mem _ (List.mem_cons_of_mem _ (h))))), ?_⟩
  refine rtp 9 (.bool (!(decide ((x[k]!) = (y[k]!))))) (H.sel _ (.refl _) _ (fun _ h => List.mem_cons_of_mem _ (List.mem_cons_of_mem _ (List.mem_cons_of_mem _ (List.mem_cons_of_mem _ (h)))))) ?_
  refine xZ (by kernel_rfl) (t_n ?_)
  refine qP (!(decide ((x[k]!) = (y[k]!)))) rfl (fun h17 => ?_) (fun h17 => ?_)
  ·skip
   replace h17 := qQ h17
   replace h17 := of_decide_eq_false h17
   refine qh (qp ?_)
   refine sp (.bool false) ?_
   refine qo (t_n (xh (b_r (t_r (t_r (b_r (t_r ?_)))))))
   refine ret1 (.bool false) rfl rfl ⟨_, rfl, ?_, H.base⟩
   first | rw [decide_eq_false (fun e => by subst e; omega)] | rw [decide_eq_false (jF (k := k) ‹_›)] | rw [decide_eq_true (jc (k := k) (by omega) (by omega) ‹_›)]
  replace h17 := qN h17
  replace h17 := of_decide_eq_true h17
  refine xg (b_n (t_n (qp ?_)))
  refine sp (.int .i64 k) ?_
  refine sw (zD k 1 rfl rfl (by omega) ?_)
  refine sp (.int .i64 (k + 1)) ?_
  refine qo ?_
  refine xy (m' := x.length - (k + 1)) (by omega) ⟨_, k + 1, (by exact qj (qj (qj (rfl) rfl) rfl) rfl), ?_, ?_, rfl, H.sel _ (.refl _) _ (by simp)⟩
  · omega
  · exact eqTo_succ (by omega) (by omega) ‹_› (by first | assumption | omega)
 replace h4 := of_decide_eq_false h4
 refine zx (t_x (t_x (b_x (t_n (qh (qp ?_))))))
 refine sp (.bool true) ?_
 refine qo (t_n (xh ?_))
 refine ret1 (.bool true) rfl rfl ⟨_, rfl, ?_, H.base⟩
 first | rw [decide_eq_false (fun e => by subst e; omega)] | rw [decide_eq_false (jF (k := k) ‹_›)] | rw [decide_eq_true (jc (k := k) (by omega) (by omega) ‹_›)]

theorem eqRule_ok (w : World) (x : yB) (y : yB) (jT : Option Addr) (jO : Nat) (FxNeed : List Nat) (jX : Option Addr) (jS : Nat) (FxHave : List Nat) (jU : Option Addr) (jP : Nat) (FxLack : List Nat) (jW : Option Addr) (jR : Nat) (FxHere : List Nat) (QG : Option Addr) (QF : Nat) (FxOut : List Nat) (jV : Option Addr) (jQ : Nat) (FxInto : List Nat) (ayNeed : Option Addr) (cyNeed : Nat) (FyNeed : List Nat) (ayHave : Option Addr) (cyHave : Nat) (FyHave : List Nat) (ayLack : Option Addr) (cyLack : Nat) (FyLack : List Nat) (ayHere : Option Addr) (cyHere : Nat) (FyHere : List Nat) (ayOut : Option Addr) (cyOut : Nat) (FyOut : List Nat) (ayInto : Option Addr) (cyInto : Nat) (FyInto : List Nat) (hxNeed : qM.rep w FxNeed [.slice jT x.qI.length jO] x.qI) (hxHave : qM.rep w FxHave [.slice jX x.qW.length jS] x.qW) (hxLack : qM.rep w FxLack [.slice jU x.qX.length jP] x.qX) (hxHere : qM.rep w FxHere [.slice jW x.xe.length jR] x.xe) (hxOut : qM.rep w FxOut [.slice QG x.xO.length QF] x.xO) (hxInto : qM.rep w FxInto [.slice jV x.qx.length jQ] x.qx) (hyNeed : qM.rep w FyNeed [.slice ayNeed y.qI.length cyNeed] y.qI) (hyHave : qM.rep w FyHave [.slice ayHave y.qW.length cyHave] y.qW) (hyLack : qM.rep w FyLack [.slice ayLack y.qX.length cyLack] y.qX) (hyHere : qM.rep w FyHere [.slice ayHere y.xe.length cyHere] y.xe) (hyOut : qM.rep w FyOut [.slice ayOut y.xO.length cyOut] y.xO) (hyInto : qM.rep w FyInto [.slice ayInto y.qx.length cyInto] y.qx) : Calls Tryz.prog 104 #[.agg #[.int .i64 x.qw, .int .i64 x.xM, .slice jT x.qI.length jO, .slice jX x.qW.length jS, .slice jU x.qX.length jP, .slice jW x.xe.length jR, .slice QG x.xO.length QF, .slice jV x.qx.length jQ, .bool x.xG], .agg #[.int .i64 y.qw, .int .i64 y.xM, .slice ayNeed y.qI.length cyNeed, .slice ayHave y.qW.length cyHave, .slice ayLack y.qX.length cyLack, .slice ayHere y.xe.length cyHere, .slice ayOut y.xO.length cyOut, .slice ayInto y.qx.length cyInto, .bool y.xG]] w (Ret (fun v w' => v = .bool (decide (x = y))) w) := by
 refine enter (n := 56) Tryz.func104 rfl Tryz.ntmps104 (Nat.le_of_ble_eq_true rfl) ?_
 have H := ((((((((((((St.start w).arg hyInto).arg hyOut).arg hyHere).arg hyLack).arg hyHave).arg hyNeed).arg hxInto).arg hxOut).arg hxHere).arg hxLack).arg hxHave).arg hxNeed
 have nhxNeed := qJ hxNeed
 have nhxHave := qJ hxHave
 have nhxLack := qJ hxLack
 have nhxHere := qJ hxHere
 have nhxOut := qJ hxOut
 have nhxInto := qJ hxInto
 have nhyNeed := qJ hyNeed
 have nhyHave := qJ hyHave
 have nhyLack := qJ hyLack
 have nhyHere := qJ hyHere
 have nhyOut := qJ hyOut
 have nhyInto := qJ hyInto
 clear hxNeed hxHave hxLack hxHere hxOut hxInto hyNeed hyHave hyLack hyHere hyOut hyInto
 refine qh (qp ?_)
 refine sw (o_box H (.agg #[.int .i64 x.qw, .int .i64 x.xM, .slice jT x.qI.length jO, .slice jX x.qW.length jS, .slice jU x.qX.length jP, .slice jW x.xe.length jR, .slice QG x.xO.length QF, .slice jV x.qx.length jQ, .bool x.xG]) rfl fun b1 w2 H => ?_)
 replace H : St _ _ [.box b1 [.int .i64 x.qw, .int .i64 x.xM, .slice jT x.qI.length jO, .slice jX x.qW.length jS, .slice jU x.qX.length jP, .slice jW x.xe.length jR, .slice QG x.xO.length QF, .slice jV x.qx.length jQ, .bool x.xG] 110] _ := H
 refine sw (o_box H (.agg #[.int .i64 y.qw, .int .i64 y.xM, .slice ayNeed y.qI.length cyNeed, .slice ayHave y.qW.length cyHave, .slice ayLack y.qX.length cyLack, .slice ayHere y.xe.length cyHere, .slice ayOut y.xO.length cyOut, .slice ayInto y.qx.length cyInto, .bool y.xG]) rfl fun b3 w4 H => ?_)
 replace H : St _ _ [.box b3 [.int .i64 y.qw, .int .i64 y.xM, .slice ayNeed y.qI.length cyNeed, .slice ayHave y.qW.length cyHave, .slice ayLack y.qX.length cyLack, .slice ayHere y.xe.length cyHere, .slice ayOut y.xO.length cyOut, .slice ayInto y.qx.length cyInto, .bool y.xG] 110, .box b1 [.int .i64 x.qw, .int .i64 x.xM, .slice jT x.qI.length jO, .slice jX x.qW.length jS, .slice jU x.qX.length jP, .slice jW x.xe.length jR, .slice QG x.xO.length QF, .slice jV x.qx.length jQ, .bool x.xG] 110] _ := H
 refine sp (.bool false) ?_
 refine qo (t_n (qh (qh (qp ?_))))
 refine sw (qH b1 (0) 0 Tryz.underlying110 rfl rfl Tryz.sizeOf2 rfl ?_)
 refine sw (qC (.int .i64 x.qw) Tryz.isAgg2 rfl (H.cell 1 rfl rfl) ?_)
 refine sw (qH b3 (0) 0 Tryz.underlying110 rfl rfl Tryz.sizeOf2 rfl ?_)
 refine sw (qC (.int .i64 y.qw) Tryz.isAgg2 rfl (H.cell 0 rfl rfl) ?_)
 refine sp (.bool ((x.qw : Int) != y.qw)) ?_
 refine qo (t_n ?_)
 refine qP ((x.qw : Int) != y.qw) rfl (fun h5 => ?_) (fun h5 => ?_)
 ·skip
  replace h5 := bne_iff_ne.1 h5
  refine qh (qp ?_)
  refine sp (.bool false) ?_
  refine qo (t_n (xh (t_r ?_)))
  refine ret1 (.bool false) rfl rfl ⟨_, rfl, ?_, H.base⟩
  rw [decide_eq_false (fun e => by subst e; simp_all)]
 replace h5 := xI h5
 refine xg (t_n (qh (qh (qp ?_))))
 refine sw (qH b1 (0) 1 Tryz.underlying110 rfl rfl Tryz.sizeOf2 rfl ?_)
 refine sw (qC (.int .i64 x.xM) Tryz.isAgg2 rfl (H.cell 1 rfl rfl) ?_)
 refine sw (qH b3 (0) 1 Tryz.underlying110 rfl rfl Tryz.sizeOf2 rfl ?_)
 refine sw (qC (.int .i64 y.xM) Tryz.isAgg2 rfl (H.cell 0 rfl rfl) ?_)
 refine sp (.bool ((x.xM : Int) != y.xM)) ?_
 refine qo (t_n ?_)
 refine qP ((x.xM : Int) != y.xM) rfl (fun h6 => ?_) (fun h6 => ?_)
 ·skip
  replace h6 := bne_iff_ne.1 h6
  refine qh (qp ?_)
  refine sp (.bool false) ?_
  refine qo (t_n (xh (t_r ?_)))
  refine ret1 (.bool false) rfl rfl ⟨_, rfl, ?_, H.base⟩
  rw [decide_eq_false (fun e => by subst e; simp_all)]
 replace h6 := xI h6
 refine xg (t_n (qh (qh (qp ?_))))
 refine sw (qH b1 (0) 2 Tryz.underlying110 rfl rfl Tryz.sizeOf22 rfl ?_)
 refine sw (qC (.slice jT x.qI.length jO) Tryz.isAgg22 rfl (H.cell 1 rfl rfl) ?_)
 refine sw (qH b3 (0) 2 Tryz.underlying110 rfl rfl Tryz.sizeOf22 rfl ?_)
 refine sw (qC (.slice ayNeed y.qI.length cyNeed) Tryz.isAgg22 rfl (H.cell 0 rfl rfl) ?_)
 refine sw (xm #[.slice jT x.qI.length jO, .slice ayNeed y.qI.length cyNeed] rfl rfl Tryz.call27 (y9 w4 x.qI y.qI jT jO FxNeed ayNeed cyNeed FyNeed (H.get 0 rfl).1 (H.get 6 rfl).1) ?_)
 rintro _ w7 rfl x8
 replace H := H.ext x8
 refine sp (.bool (!(decide (x.qI = y.qI)))) ?_
 refine qo (t_n ?_)
 refine qP (!(decide (x.qI = y.qI))) rfl (fun h9 => ?_) (fun h9 => ?_)
 ·skip
  replace h9 := qQ h9
  replace h9 := of_decide_eq_false h9
  refine qh (qp ?_)
  refine sp (.bool false) ?_
  refine qo (t_n (xh (t_r ?_)))
  refine ret1 (.bool false) rfl rfl ⟨_, rfl, ?_, H.base⟩
  rw [decide_eq_false (fun e => by subst e; simp_all)]
 replace h9 := qN h9
 replace h9 := of_decide_eq_true h9
 refine xg (t_n (qh (qh (qp ?_))))
 refine sw (qH b1 (0) 3 Tryz.underlying110 rfl rfl Tryz.sizeOf22 rfl ?_)
 refine sw (qC (.slice jX x.qW.length jS) Tryz.isAgg22 rfl (H.cell 1 rfl rfl) ?_)
 refine sw (qH b3 (0) 3 Tryz.underlying110 rfl rfl Tryz.sizeOf22 rfl ?_)
 refine sw (qC (.slice ayHave y.qW.length cyHave) Tryz.isAgg22 rfl (H.cell 0 rfl rfl) ?_)
 refine sw (xm #[.slice jX x.qW.length jS, .slice ayHave y.qW.length cyHave] rfl rfl Tryz.call27 (y9 w7 x.qW y.qW jX jS FxHave ayHave cyHave FyHave (H.get 1 rfl).1 (H.get 7 rfl).1) ?_)
 rintro _ w10 rfl x11
 replace H := H.ext x11
 refine sp (.bool (!(decide (x.qW = y.qW)))) ?_
 refine qo (t_n ?_)
 refine qP (!(decide (x.qW = y.qW))) rfl (fun h12 => ?_) (fun h12 => ?_)
 ·skip
  replace h12 := qQ h12
  replace h12 := of_decide_eq_false h12
  refine qh (qp ?_)
  refine sp (.bool false) ?_
  refine qo (t_n (xh (t_r ?_)))
  refine ret1 (.bool false) rfl rfl ⟨_, rfl, ?_, H.base⟩
  rw [decide_eq_false (fun e => by subst e; simp_all)]
 replace h12 := qN h12
 replace h12 := of_decide_eq_true h12
 refine xg (t_n (qh (qh (qp ?_))))
 refine sw (qH b1 (0) 4 Tryz.underlying110 rfl rfl Tryz.sizeOf22 rfl ?_)
 refine sw (qC (.slice jU x.qX.length jP) Tryz.isAgg22 rfl (H.cell 1 rfl rfl) ?_)
 refine sw (qH b3 (0) 4 Tryz.underlying110 rfl rfl Tryz.sizeOf22 rfl ?_)
 refine sw (qC (.slice ayLack y.qX.length cyLack) Tryz.isAgg22 rfl (H.cell 0 rfl rfl) ?_)
 refine sw (xm #[.slice jU x.qX.length jP, .slice ayLack y.qX.length cyLack] rfl rfl Tryz.call27 (y9 w10 x.qX y.qX jU jP FxLack ayLack cyLack FyLack (H.get 2 rfl).1 (H.get 8 rfl).1) ?_)
 rintro _ w13 rfl x14
 replace H := H.ext x14
 refine sp (.bool (!(decide (x.qX = y.qX)))) ?_
 refine qo (t_n ?_)
 refine qP (!(decide (x.qX = y.qX))) rfl (fun h15 => ?_) (fun h15 => ?_)
 ·skip
  replace h15 := qQ h15
  replace h15 := of_decide_eq_false h15
  refine qh (qp ?_)
  refine sp (.bool false) ?_
  refine qo (t_n (xh (t_r ?_)))
  refine ret1 (.bool false) rfl rfl ⟨_, rfl, ?_, H.base⟩
  rw [decide_eq_false (fun e => by subst e; simp_all)]
 replace h15 := qN h15
 replace h15 := of_decide_eq_true h15
 refine xg (t_n (qh (qh (qp ?_))))
 refine sw (qH b1 (0) 5 Tryz.underlying110 rfl rfl Tryz.sizeOf22 rfl ?_)
 refine sw (qC (.slice jW x.xe.length jR) Tryz.isAgg22 rfl (H.cell 1 rfl rfl) ?_)
 refine sw (qH b3 (0) 5 Tryz.underlying110 rfl rfl Tryz.sizeOf22 rfl ?_)
 refine sw (qC (.slice ayHere y.xe.length cyHere) Tryz.isAgg22 rfl (H.cell 0 rfl rfl) ?_)
 refine sw (xm #[.slice jW x.xe.length jR, .slice ayHere y.xe.length cyHere] rfl rfl Tryz.call27 (y9 w13 x.xe y.xe jW jR FxHere ayHere cyHere FyHere (H.get 3 rfl).1 (H.get 9 rfl).1) ?_)
 rintro _ w16 rfl x17
 replace H := H.ext x17
 refine sp (.bool (!(decide (x.xe = y.xe)))) ?_
 refine qo (t_n ?_)
 refine qP (!(decide (x.xe = y.xe))) rfl (fun h18 => ?_) (fun h18 => ?_)
 ·skip
  replace h18 := qQ h18
  replace h18 := of_decide_eq_false h18
  refine qh (qp ?_)
  refine sp (.bool false) ?_
  refine qo (t_n (xh (t_r ?_)))
  refine ret1 (.bool false) rfl rfl ⟨_, rfl, ?_, H.base⟩
  rw [decide_eq_false (fun e => by subst e; simp_all)]
 replace h18 := qN h18
 replace h18 := of_decide_eq_true h18
 refine xg (t_n (qh (qh (qp ?_))))
 refine sw (qH b1 (0) 6 Tryz.underlying110 rfl rfl Tryz.sizeOf22 rfl ?_)
 refine sw (qC (.slice QG x.xO.length QF) Tryz.isAgg22 rfl (H.cell 1 rfl rfl) ?_)
 refine sw (qH b3 (0) 6 Tryz.underlying110 rfl rfl Tryz.sizeOf22 rfl ?_)
 refine sw (qC (.slice ayOut y.xO.length cyOut) Tryz.isAgg22 rfl (H.cell 0 rfl rfl) ?_)
 refine sw (xm #[.slice QG x.xO.length QF, .slice ayOut y.xO.length cyOut] rfl rfl Tryz.call27 (y9 w16 x.xO y.xO QG QF FxOut ayOut cyOut FyOut (H.get 4 rfl).1 (H.get 10 rfl).1) ?_)
 rintro _ w19 rfl x20
 replace H := H.ext x20
 refine sp (.bool (!(decide (x.xO = y.xO)))) ?_
 refine qo (t_n ?_)
 refine qP (!(decide (x.xO = y.xO))) rfl (fun h21 => ?_) (fun h21 => ?_)
 ·skip
  replace h21 := qQ h21
  replace h21 := of_decide_eq_false h21
  refine qh (qp ?_)
  refine sp (.bool false) ?_
  refine qo (t_n (xh (t_r ?_)))
  refine ret1 (.bool false) rfl rfl ⟨_, rfl, ?_, H.base⟩
  rw [decide_eq_false (fun e => by subst e; simp_all)]
 replace h21 := qN h21
 replace h21 := of_decide_eq_true h21
 refine xg (t_n (qh (qh (qp ?_))))
 refine sw (qH b1 (0) 7 Tryz.underlying110 rfl rfl Tryz.sizeOf108 rfl ?_)
 refine sw (qC (.slice jV x.qx.length jQ) Tryz.isAgg108 rfl (H.cell 1 rfl rfl) ?_)
 refine sw (qH b3 (0) 7 Tryz.underlying110 rfl rfl Tryz.sizeOf108 rfl ?_)
 refine sw (qC (.slice ayInto y.qx.length cyInto) Tryz.isAgg108 rfl (H.cell 0 rfl rfl) ?_)
 refine sw (xm #[.slice jV x.qx.length jQ, .slice ayInto y.qx.length cyInto] rfl rfl Tryz.call148 (eqIntoS_ok w19 x.qx y.qx jV jQ FxInto ayInto cyInto FyInto (H.get 5 rfl).1 (H.get 11 rfl).1) ?_)
 rintro _ w22 rfl x23
 replace H := H.ext x23
 refine sp (.bool (!(decide (x.qx = y.qx)))) ?_
 refine qo (t_n ?_)
 refine qP (!(decide (x.qx = y.qx))) rfl (fun h24 => ?_) (fun h24 => ?_)
 ·skip
  replace h24 := qQ h24
  replace h24 := of_decide_eq_false h24
  refine qh (qp ?_)
  refine sp (.bool false) ?_
  refine qo (t_n (xh (t_r ?_)))
  refine ret1 (.bool false) rfl rfl ⟨_, rfl, ?_, H.base⟩
  rw [decide_eq_false (fun e => by subst e; simp_all)]
 replace h24 := qN h24
 replace h24 := of_decide_eq_true h24
 refine xg (t_n (qh (qh (qp ?_))))
 refine sw (qH b1 (0) 8 Tryz.underlying110 rfl rfl Tryz.sizeOf4 rfl ?_)
 refine sw (qC (.bool x.xG) Tryz.isAgg4 rfl (H.cell 1 rfl rfl) ?_)
 refine sw (qH b3 (0) 8 Tryz.underlying110 rfl rfl Tryz.sizeOf4 rfl ?_)
 refine sw (qC (.bool y.xG) Tryz.isAgg4 rfl (H.cell 0 rfl rfl) ?_)
 refine sw (o_neB Tryz.underlying4 x.xG y.xG rfl rfl ?_)
 refine qo (t_n ?_)
 refine qP (x.xG != y.xG) rfl (fun h25 => ?_) (fun h25 => ?_)
 ·skip
  replace h25 := bne_iff_ne.1 h25
  refine qh (qp ?_)
  refine sp (.bool false) ?_
  refine qo (t_n (xh (t_r ?_)))
  refine ret1 (.bool false) rfl rfl ⟨_, rfl, ?_, H.base⟩
  rw [decide_eq_false (fun e => by subst e; simp_all)]
 replace h25 := xI h25
 refine xg (t_n (qh (qp ?_)))
 refine sp (.bool true) ?_
 refine qo (t_n (xh ?_))
 refine ret1 (.bool true) rfl rfl ⟨_, rfl, ?_, H.base⟩
 rw [decide_eq_true (by cases x; cases y; simp_all)]

theorem eqRuleS_ok (w : World) (x : List yB) (y : List yB) (ax : Option Addr) (cx : Nat) (Fx : List Nat) (ay : Option Addr) (cy : Nat) (Fy : List Nat) (hx : qM.rep w Fx [.slice ax x.length cx] x) (hy : qM.rep w Fy [.slice ay y.length cy] y) : Calls Tryz.prog 55 #[.slice ax x.length cx, .slice ay y.length cy] w (Ret (fun v w' => v = .bool (decide (x = y))) w) := by
 refine enter (n := 27) Tryz.func55 rfl Tryz.ntmps55 (Nat.le_of_ble_eq_true rfl) ?_
 have H := ((St.start w).arg hy).arg hx
 have nhx := qJ hx
 have nhy := qJ hy
 clear hx hy
 refine qh (qp ?_)
 refine sp (.bool false) ?_
 refine qo (t_n (qh (qh (qp ?_))))
 refine sp (.slice ax x.length cx) ?_
 refine sw (zK Tryz.underlying34 ax x.length cx rfl ?_)
 refine sp (.slice ay y.length cy) ?_
 refine sw (zK Tryz.underlying34 ay y.length cy rfl ?_)
 refine sp (.bool ((x.length : Int) != y.length)) ?_
 refine qo (t_n ?_)
 refine qP ((x.length : Int) != y.length) rfl (fun h1 => ?_) (fun h1 => ?_)
 ·skip
  replace h1 := bne_iff_ne.1 h1
  refine qh (qp ?_)
  refine sp (.bool false) ?_
  refine qo (t_n (xh (t_r ?_)))
  refine ret1 (.bool false) rfl rfl ⟨_, rfl, ?_, H.base⟩
  first | rw [decide_eq_false (fun e => by subst e; omega)] | rw [decide_eq_false (jF (k := k) ‹_›)] | rw [decide_eq_true (jc (k := k) (by omega) (by omega) ‹_›)]
 replace h1 := xI h1
 refine xg (t_n (qh (qh (qp ?_))))
 refine sp (.int .i64 0) ?_
 refine qo (t_n (xn ?_))
 refine zC (fun m' ρ w2 => ∃ (junk : Env) (k : Nat), ρ = upd (upd (upd junk 0 (.slice ax x.length cx)) 1 (.slice ay y.length cy)) 5 (.int .i64 k) ∧ (k ≤ x.length) ∧ (x.take k = y.take k) ∧ m' = x.length - k ∧ St w w2 [] [isF false Fx (.slice ax x.length cx) x, isF false Fy (.slice ay y.length cy) y]) (x.length - 0) ⟨_, 0, (by exact qj (qj (qj (rfl) rfl) rfl) rfl), (by omega), (by rfl), rfl, H⟩ ?_
 clear H
 rintro m' ρ w3 ⟨junk, k, rfl, i0, i1, rfl, H⟩
 refine qh (qh (qp ?_))
 refine sps [.int .i64 k, .slice ax x.length cx] ?_
 refine sw (zK Tryz.underlying34 ax x.length cx rfl ?_)
 refine sp (.bool (decide ((k : Int) < x.length))) ?_
 refine qo (t_n ?_)
 refine qP (decide ((k : Int) < x.length)) rfl (fun h4 => ?_) (fun h4 => ?_)
 ·skip
  replace h4 := of_decide_eq_true h4
  refine xg (t_n (qh (xn (qh ?_))))
  refine jf rfl H fun H => ?_
  refine rtp 0 (.slice ax x.length cx) H ?_
  refine rtp 1 (.int .i64 k) H ?_
  obtain ⟨b6, o7, rfl⟩ := H.addr 0 rfl (by omega)
  obtain ⟨ae8Need, ce8Need, Fe8Need, ae8Have, ce8Have, Fe8Have, ae8Lack, ce8Lack, Fe8Lack, ae8Here, ce8Here, Fe8Here, ae8Out, ce8Out, Fe8Out, ae8Into, ce8Into, Fe8Into, H⟩ := H.jv 0 rfl k k (by omega) (by omega) (by omega)
  refine rt 2 (pp b6 (o7 + (k : Int).toNat * 9)) (xQ b6 (o7) x.length cx k Tryz.underlying34 ti110 rfl rfl (by omega) (by omega)) (H.sel _ (.refl _) _ (fun _ h => List.mem_cons_of_mem _ (List.mem_cons_of_mem _ (List.mem_cons_of_mem _ (List.mem_cons_of_mem _ (List.mem_cons_of_mem _ (List.mem_cons_of_mem _ (List.mem_cons_of_mem _ (h))))))))) ?_
  refine rtp 4 (.slice ay y.length cy) (H.sel _ (.refl _) _ (fun _ h => List.mem_cons_of_mem _ (List.mem_cons_of_mem _ (List.mem_cons_of_mem _ (List.mem_cons_of_mem _ (List.mem_cons_of_mem _ (List.mem_cons_of_mem _ (List.mem_cons_of_mem _ (h))))))))) ?_
  refine rtp 5 (.int .i64 k) (H.sel _ (.refl _) _ (fun _ h => List.mem_cons_of_mem _ (List.mem_cons_of_mem _ (List.mem_cons_of_mem _ (List.mem_cons_of_mem _ (List.mem_cons_of_mem _ (List.mem_cons_of_mem _ (List.mem_cons_of_mem _ (h))))))))) ?_
  obtain ⟨b9, o10, rfl⟩ := H.addr 8 rfl (by omega)
  obtain ⟨ae11Need, ce11Need, Fe11Need, ae11Have, ce11Have, Fe11Have, ae11Lack, ce11Lack, Fe11Lack, ae11Here, ce11Here, Fe11Here, ae11Out, ce11Out, Fe11Out, ae11Into, ce11Into, Fe11Into, H⟩ := H.jv 8 rfl k k (by omega) (by omega) (by omega)
  refine rt 6 (pp b9 (o10 + (k : Int).toNat * 9)) (xQ b9 (o10) y.length cy k Tryz.underlying34 ti110 rfl rfl (by omega) (by omega)) (H.sel _ (.refl _) _ (fun _ h => List.mem_cons_of_mem _ (List.mem_cons_of_mem _ (List.mem_cons_of_mem _ (List.mem_cons_of_mem _ (List.mem_cons_of_mem _ (List.mem_cons_of_mem _ (List.mem_cons_of_mem _ (List.mem_cons_of_mem _ (List.mem_cons_of_mem _ (List.mem_cons_of_mem _ (List.mem_cons_of_mem _ (List.mem_cons_of_mem _ (List.mem_cons_of_mem _ (List.mem_cons_of_mem _ (h)))))))))))))))) ?_
  refine zt [3, 7] (by kernel_rfl) (by simp) (yF rfl ?_ (yF rfl ?_ zu))
  ·skip
   refine zn [.int .i64 ((x[k]!).qw), .int .i64 ((x[k]!).xM), .slice ae8Need (((x[k]!).qI).length) ce8Need, .slice ae8Have (((x[k]!).qW).length) ce8Have, .slice ae8Lack (((x[k]!).qX).length) ce8Lack, .slice ae8Here (((x[k]!).xe).length) ce8Here, .slice ae8Out (((x[k]!).xO).length) ce8Out, .slice ae8Into (((x[k]!).qx).length) ce8Into, .bool ((x[k]!).xG)] Tryz.isAgg110 Tryz.sizeOf110 rfl (qK (H.get 13 rfl) 0 9) ?_
   refine ⟨H.sel _ (.refl _) _ (fun _ h => List.mem_cons_of_mem _ (List.mem_cons_of_mem _ (List.mem_cons_of_mem _ (List.mem_cons_of_mem _ (List.mem_cons_of_mem _ (List.mem_cons_of_mem _ (List.mem_cons_of_mem _ (List.mem_cons_of_mem _ (List.mem_cons_of_mem _ (List.mem_cons_of_mem _ (List.mem_cons_of_mem _ (List.mem_cons_of_mem _ (List.mem_cons_of_mem _ (List.mem_cons_of_mem _ (h))))))))))))))), ?_⟩
   refine zt [7] (by kernel_rfl) (by simp) (yF rfl ?_ zu)
   refine zn [.int .i64 ((y[k]!).qw), .int .i64 ((y[k]!).xM), .slice ae11Need (((y[k]!).qI).length) ce11Need, .slice ae11Have (((y[k]!).qW).length) ce11Have, .slice ae11Lack (((y[k]!).qX).length) ce11Lack, .slice ae11Here (((y[k]!).xe).length) ce11Here, .slice ae11Out (((y[k]!).xO).length) ce11Out, .slice ae11Into (((y[k]!).qx).length) ce11Into, .bool ((y[k]!).xG)] Tryz.isAgg110 Tryz.sizeOf110 rfl (qK (H.get 6 rfl) 0 9) ?_
   refine ⟨H.sel _ (.refl _) _ (fun _ h => List.mem_cons_of_mem _ (List.mem_cons_of_mem _ (List.mem_cons_of_mem _ (List.mem_cons_of_mem _ (List.mem_cons_of_mem _ (List.mem_cons_of_mem _ (List.mem_cons_of_mem _ (List.mem_cons_of_mem _ (List.mem_cons_of_mem _ (List.mem_cons_of_mem _ (List.mem_cons_of_mem _ (List.mem_cons_of_mem _ (List.mem_cons_of_mem _ (List.mem_cons_of_mem _ (h))))))))))))))), ?_⟩
   refine zt [8] (by kernel_rfl) (by simp) (yF rfl ?_ zu)
   refine xm #[.agg #[.int .i64 ((x[k]!).qw), .int .i64 ((x[k]!).xM), .slice ae8Need (((x[k]!).qI).length) ce8Need, .slice ae8Have (((x[k]!).qW).length) ce8Have, .slice ae8Lack (((x[k]!).qX).length) ce8Lack, .slice ae8Here (((x[k]!).xe).length) ce8Here, .slice ae8Out (((x[k]!).xO).length) ce8Out, .slice ae8Into (((x[k]!).qx).length) ce8Into, .bool ((x[k]!).xG)], .agg #[.int .i64 ((y[k]!).qw), .int .i64 ((y[k]!).xM), .slice ae11Need (((y[k]!).qI).length) ce11Need, .slice ae11Have (((y[k]!).qW).length) ce11Have, .slice ae11Lack (((y[k]!).qX).length) ce11Lack, .slice ae11Here (((y[k]!).xe).length) ce11Here, .slice ae11Out (((y[k]!).xO).length) ce11Out, .slice ae11Into (((y[k]!).qx).length) ce11Into, .bool ((y[k]!).xG)]] rfl rfl Tryz.call104 (eqRule_ok w3.drew (x[k]!) (y[k]!) ae8Need ce8Need Fe8Need ae8Have ce8Have Fe8Have ae8Lack ce8Lack Fe8Lack ae8Here ce8Here Fe8Here ae8Out ce8Out Fe8Out ae8Into ce8Into Fe8Into ae11Need ce11Need Fe11Need ae11Have ce11Have Fe11Have ae11Lack ce11Lack Fe11Lack ae11Here ce11Here Fe11Here ae11Out ce11Out Fe11Out ae11Into ce11Into Fe11Into (H.get 7 rfl).1 (H.get 8 rfl).1 (H.get 9 rfl).1 (H.get 10 rfl).1 (H.get 11 rfl).1 (H.get 12 rfl).1 (H.get 0 rfl).1 (H.get 1 rfl).1 (H.get 2 rfl).1 (H.get 3 rfl).1 (H.get 4 rfl).1 (H.get 5 rfl).1) ?_
   rintro _ w12 rfl x13
   replace H := H.ext x13
   refine ⟨H.sel _ (.refl _) _ (fun _ h => List.mem_cons_of_mem _ (List.mem_cons_of_mem _ (List.mem_cons_of_mem _ (List.mem_cons_of_mem _ (List.mem_cons_of_mem _ (List.mem_cons_of_mem _ (List.mem_cons_of_mem _ (List.mem_cons_of_mem _ (List.mem_cons_of_mem _ (List.mem_cons_of_mem _ (List.mem_cons_of_mem _ (List.mem_cons_of_mem _ (List.mem_cons_of_mem _ (List.mem_cons_of_mem _ (h))))))))))))))), ?_⟩
   refine rtp 9 (.bool (!(decide ((x[k]!) = (y[k]!))))) (H.sel _ (.refl _) _ (fun _ h => List.mem_cons_of_mem _ (List.mem_cons_of_mem _ (List.mem_cons_of_mem _ (List.mem_cons_of_mem _ (List.mem_cons_of_mem _ (List.mem_cons_of_mem _ (List.mem_cons_of_mem _ (List.mem_cons_of_mem _ (List.mem_cons_of_mem _ (List.mem_cons_of_mem _ (List.mem_cons_of_mem _ (List.mem_cons_of_mem _ (List.mem_cons_of_mem _ (List.mem_cons_of_mem _ (h)))))))))))))))) ?_
   refine xZ (by kernel_rfl) (t_n ?_)
   refine qP (!(decide ((x[k]!) = (y[k]!)))) rfl (fun h14 => ?_) (fun h14 => ?_)
   ·skip
    replace h14 := qQ h14
    replace h14 := of_decide_eq_false h14
    refine qh (qp ?_)
    refine sp (.bool false) ?_
    refine qo (t_n (xh (b_r (t_r (t_r (b_r (t_r ?_)))))))
    refine ret1 (.bool false) rfl rfl ⟨_, rfl, ?_, H.base⟩
    first | rw [decide_eq_false (fun e => by subst e; omega)] | rw [decide_eq_false (jF (k := k) ‹_›)] | rw [decide_eq_true (jc (k := k) (by omega) (by omega) ‹_›)]
   replace h14 := qN h14
   replace h14 := of_decide_eq_true h14
   refine xg (b_n (t_n (qp ?_)))
   refine sp (.int .i64 k) ?_
   refine sw (zD k 1 rfl rfl (by omega) ?_)
   refine sp (.int .i64 (k + 1)) ?_
   refine qo ?_
   refine xy (m' := x.length - (k + 1)) (by omega) ⟨_, k + 1, (by exact qj (qj (qj (rfl) rfl) rfl) rfl), ?_, ?_, rfl, H.sel _ (.refl _) _ (by simp)⟩
   · omega
   · exact eqTo_succ (by omega) (by omega) ‹_› (by first | assumption | omega)
  refine zn [.int .i64 ((y[k]!).qw), .int .i64 ((y[k]!).xM), .slice ae11Need (((y[k]!).qI).length) ce11Need, .slice ae11Have (((y[k]!).qW).length) ce11Have, .slice ae11Lack (((y[k]!).qX).length) ce11Lack, .slice ae11Here (((y[k]!).xe).length) ce11Here, .slice ae11Out (((y[k]!).xO).length) ce11Out, .slice ae11Into (((y[k]!).qx).length) ce11Into, .bool ((y[k]!).xG)] Tryz.isAgg110 Tryz.sizeOf110 rfl (qK (H.get 6 rfl) 0 9) ?_
  refine ⟨H.sel _ (.refl _) _ (fun _ h => List.mem_cons_of_mem _ (List.mem_cons_of_mem _ (List.mem_cons_of_mem _ (List.mem_cons_of_mem _ (List.mem_cons_of_mem _ (List.mem_cons_of_mem _ (List.mem_cons_of_mem _ (List.mem_cons_of_mem _ (List.mem_cons_of_mem _ (List.mem_cons_of_mem _ (List.mem_cons_of_mem _ (List.mem_cons_of_mem _ (List.mem_cons_of_mem _ (List.mem_cons_of_mem _ (h))))))))))))))), ?_⟩
  refine zt [3] (by kernel_rfl) (by simp) (yF rfl ?_ zu)
  refine zn [.int .i64 ((x[k]!).qw), .int .i64 ((x[k]!).xM), .slice ae8Need (((x[k]!).qI).length) ce8Need, .slice ae8Have (((x[k]!).qW).length) ce8Have, .slice ae8Lack (((x[k]!).qX).length) ce8Lack, .slice ae8Here (((x[k]!).xe).length) ce8Here, .slice ae8Out (((x[k]!).xO).length) ce8Out, .slice ae8Into (((x[k]!).qx).length) ce8Into, .bool ((x[k]!).xG)] Tryz.isAgg110 Tryz.sizeOf110 rfl (qK (H.get 13 rfl) 0 9) ?_
  refine ⟨H.sel _ (.refl _) _ (fun _ h => List.mem_cons_of_mem _ (List.mem_cons_of_mem _ (List.mem_cons_of_mem _ (List.mem_cons_of_mem _ (List.mem_cons_of_mem _ (List.mem_cons_of_mem _ (List.mem_cons_of_mem _ (List.mem_cons_of_mem _ (List.mem_cons_of_mem _ (List.mem_cons_of_mem _ (List.mem_cons_of_mem _ (List.mem_cons_of_mem _ (List.mem_cons_of_mem _ (List.mem_cons_of_mem _ (h))))))))))))))), ?_⟩
  refine zt [8] (by kernel_rfl) (by simp) (yF rfl ?_ zu)
  refine xm #[.agg #[.int .i64 ((x[k]!).qw), .int .i64 ((x[k]!).xM), .slice ae8Need (((x[k]!).qI).length) ce8Need, .slice ae8Have (((x[k]!).qW).length) ce8Have, .slice ae8Lack (((x[k]!).qX).length) ce8Lack, .slice ae8Here (((x[k]!).xe).length) ce8Here, .slice ae8Out (((x[k]!).xO).length) ce8Out, .slice ae8Into (((x[k]!).qx).length) ce8Into, .bool ((x[k]!).xG)], .agg #[.int .i64 ((y[k]!).qw), .int .i64 ((y[k]!).xM), .slice ae11Need (((y[k]!).qI).length) ce11Need, .slice ae11Have (((y[k]!).qW).length) ce11Have, .slice ae11Lack (((y[k]!).qX).length) ce11Lack, .slice ae11Here (((y[k]!).xe).length) ce11Here, .slice ae11Out (((y[k]!).xO).length) ce11Out, .slice ae11Into (((y[k]!).qx).length) ce11Into, .bool ((y[k]!).xG)]] rfl rfl Tryz.call104 (eqRule_ok w3.drew (x[k]!) (y[k]!) ae8Need ce8Need Fe8Need ae8Have ce8Have Fe8Have ae8Lack ce8Lack Fe8Lack ae8Here ce8Here Fe8Here ae8Out ce8Out Fe8Out ae8Into ce8Into Fe8Into ae11Need ce11Need Fe11Need ae11Have ce11Have Fe11Have ae11Lack ce11Lack Fe11Lack ae11Here ce11Here Fe11Here ae11Out ce11Out Fe11Out ae11Into ce11Into Fe11Into (H.get 7 rfl).1 (H.get 8 rfl).1 (H.get 9 rfl).1 (H.get 10 rfl).1 (H.get 11 rfl).1 (H.get 12 rfl).1 (H.get 0 rfl).1 (H.get 1 rfl).1 (H.get 2 rfl).1 (H.get 3 rfl).1 (H.get 4 rfl).1 (H.get 5 rfl).1) ?_
  rintro _ w15 rfl x16
  replace H := H.ext x16
  refine ⟨H.sel _ (.refl _) _ (fun _ h => List.mem_cons_of_mem _ (List.mem_cons_of_mem _ (List.mem_cons_of_mem _ (List.mem_cons_of_mem _ (List.mem_cons_of_mem _ (List.mem_cons_of_mem _ (List.mem_cons_of_mem _ (List.mem_cons_of_mem _ (List.mem_cons_of_mem _ (List.mem_cons_of_mem _ (List.mem_cons_of_mem _ (List.mem_cons_of_mem _ (List.mem_cons_of_mem _ (List.mem_cons_of_mem _ (h))))))))))))))), ?_⟩
  refine rtp 9 (.bool (!(decide ((x[k]!) = (y[k]!))))) (H.sel _ (.refl _) _ (fun _ h => List.mem_cons_of_mem _ (List.mem_cons_of_mem _ (List.mem_cons_of_mem _ (List.mem_cons_of_mem _ (List.mem_cons_of_mem _ (List.mem_cons_of_mem _ (List.mem_cons_of_mem _ (List.mem_cons_of_mem _ (List.mem_cons_of_mem _ (List.mem_cons_of_mem _ (List.mem_cons_of_mem _ (List.mem_cons_of_mem _ (List.mem_cons_of_mem _ (List.mem_cons_of_mem _ (h)))))))))))))))) ?_
  refine xZ (by kernel_rfl) (t_n ?_)
  refine qP (!(decide ((x[k]!) = (y[k]!)))) rfl (fun h17 => ?_) (fun h17 => ?_)
  ·skip
   replace h17 := qQ h17
   replace h17 := of_decide_eq_false h17
   refine qh (qp ?_)
   refine sp (.bool false) ?_
   refine qo (t_n (xh (b_r (t_r (t_r (b_r (t_r ?_)))))))
   refine ret1 (.bool false) rfl rfl ⟨_, rfl, ?_, H.base⟩
   first | rw [decide_eq_false (fun e => by subst e; omega)] | rw [decide_eq_false (jF (k := k) ‹_›)] | rw [decide_eq_true (jc (k := k) (by omega) (by omega) ‹_›)]
  replace h17 := qN h17
  replace h17 := of_decide_eq_true h17
  refine xg (b_n (t_n (qp ?_)))
  refine sp (.int .i64 k) ?_
  refine sw (zD k 1 rfl rfl (by omega) ?_)
  refine sp (.int .i64 (k + 1)) ?_
  refine qo ?_
  refine xy (m' := x.length - (k + 1)) (by omega) ⟨_, k + 1, (by exact qj (qj (qj (rfl) rfl) rfl) rfl), ?_, ?_, rfl, H.sel _ (.refl _) _ (by simp)⟩
  · omega
  · exact eqTo_succ (by omega) (by omega) ‹_› (by first | assumption | omega)
 replace h4 := of_decide_eq_false h4
 refine zx (t_x (t_x (b_x (t_n (qh (qp ?_))))))
 refine sp (.bool true) ?_
 refine qo (t_n (xh ?_))
 refine ret1 (.bool true) rfl rfl ⟨_, rfl, ?_, H.base⟩
 first | rw [decide_eq_false (fun e => by subst e; omega)] | rw [decide_eq_false (jF (k := k) ‹_›)] | rw [decide_eq_true (jc (k := k) (by omega) (by omega) ‹_›)]

theorem eqSystem_ok (w : World) (x : qR) (y : qR) (zg : Option Addr) (zf : Nat) (vY : List Nat) (zX : Option Addr) (zW : Nat) (yR : List Nat) (ayParents : Option Addr) (cyParents : Nat) (FyParents : List Nat) (ayRules : Option Addr) (cyRules : Nat) (FyRules : List Nat) (yt : qM.rep w vY [.slice zg x.qg.length zf] x.qg) (Xg : qM.rep w yR [.slice zX x.qf.length zW] x.qf) (hyParents : qM.rep w FyParents [.slice ayParents y.qg.length cyParents] y.qg) (hyRules : qM.rep w FyRules [.slice ayRules y.qf.length cyRules] y.qf) : Calls Tryz.prog 15 #[.agg #[.int .i64 x.qF, .slice zg x.qg.length zf, .slice zX x.qf.length zW], .agg #[.int .i64 y.qF, .slice ayParents y.qg.length cyParents, .slice ayRules y.qf.length cyRules]] w (Ret (fun v w' => v = .bool (decide (x = y))) w) := by
 refine enter (n := 22) Tryz.func15 rfl Tryz.ntmps15 (Nat.le_of_ble_eq_true rfl) ?_
 have H := ((((St.start w).arg hyRules).arg hyParents).arg Xg).arg yt
 have nhxParents := qJ yt
 have nhxRules := qJ Xg
 have nhyParents := qJ hyParents
 have nhyRules := qJ hyRules
 clear yt Xg hyParents hyRules
 refine qh (qp ?_)
 refine sw (o_box H (.agg #[.int .i64 x.qF, .slice zg x.qg.length zf, .slice zX x.qf.length zW]) rfl fun b1 w2 H => ?_)
 replace H : St _ _ [.box b1 [.int .i64 x.qF, .slice zg x.qg.length zf, .slice zX x.qf.length zW] 36] _ := H
 refine sw (o_box H (.agg #[.int .i64 y.qF, .slice ayParents y.qg.length cyParents, .slice ayRules y.qf.length cyRules]) rfl fun b3 w4 H => ?_)
 replace H : St _ _ [.box b3 [.int .i64 y.qF, .slice ayParents y.qg.length cyParents, .slice ayRules y.qf.length cyRules] 36, .box b1 [.int .i64 x.qF, .slice zg x.qg.length zf, .slice zX x.qf.length zW] 36] _ := H
 refine sp (.bool false) ?_
 refine qo (t_n (qh (qh (qp ?_))))
 refine sw (qH b1 (0) 0 Tryz.underlying36 rfl rfl Tryz.sizeOf2 rfl ?_)
 refine sw (qC (.int .i64 x.qF) Tryz.isAgg2 rfl (H.cell 1 rfl rfl) ?_)
 refine sw (qH b3 (0) 0 Tryz.underlying36 rfl rfl Tryz.sizeOf2 rfl ?_)
 refine sw (qC (.int .i64 y.qF) Tryz.isAgg2 rfl (H.cell 0 rfl rfl) ?_)
 refine sp (.bool ((x.qF : Int) != y.qF)) ?_
 refine qo (t_n ?_)
 refine qP ((x.qF : Int) != y.qF) rfl (fun h5 => ?_) (fun h5 => ?_)
 ·skip
  replace h5 := bne_iff_ne.1 h5
  refine qh (qp ?_)
  refine sp (.bool false) ?_
  refine qo (t_n (xh (t_r ?_)))
  refine ret1 (.bool false) rfl rfl ⟨_, rfl, ?_, H.base⟩
  rw [decide_eq_false (fun e => by subst e; simp_all)]
 replace h5 := xI h5
 refine xg (t_n (qh (qh (qp ?_))))
 refine sw (qH b1 (0) 1 Tryz.underlying36 rfl rfl Tryz.sizeOf22 rfl ?_)
 refine sw (qC (.slice zg x.qg.length zf) Tryz.isAgg22 rfl (H.cell 1 rfl rfl) ?_)
 refine sw (qH b3 (0) 1 Tryz.underlying36 rfl rfl Tryz.sizeOf22 rfl ?_)
 refine sw (qC (.slice ayParents y.qg.length cyParents) Tryz.isAgg22 rfl (H.cell 0 rfl rfl) ?_)
 refine sw (xm #[.slice zg x.qg.length zf, .slice ayParents y.qg.length cyParents] rfl rfl Tryz.call27 (y9 w4 x.qg y.qg zg zf vY ayParents cyParents FyParents (H.get 0 rfl).1 (H.get 2 rfl).1) ?_)
 rintro _ w6 rfl x7
 replace H := H.ext x7
 refine sp (.bool (!(decide (x.qg = y.qg)))) ?_
 refine qo (t_n ?_)
 refine qP (!(decide (x.qg = y.qg))) rfl (fun h8 => ?_) (fun h8 => ?_)
 ·skip
  replace h8 := qQ h8
  replace h8 := of_decide_eq_false h8
  refine qh (qp ?_)
  refine sp (.bool false) ?_
  refine qo (t_n (xh (t_r ?_)))
  refine ret1 (.bool false) rfl rfl ⟨_, rfl, ?_, H.base⟩
  rw [decide_eq_false (fun e => by subst e; simp_all)]
 replace h8 := qN h8
 replace h8 := of_decide_eq_true h8
 refine xg (t_n (qh (qh (qp ?_))))
 refine sw (qH b1 (0) 2 Tryz.underlying36 rfl rfl Tryz.sizeOf34 rfl ?_)
 refine sw (qC (.slice zX x.qf.length zW) Tryz.isAgg34 rfl (H.cell 1 rfl rfl) ?_)
 refine sw (qH b3 (0) 2 Tryz.underlying36 rfl rfl Tryz.sizeOf34 rfl ?_)
 refine sw (qC (.slice ayRules y.qf.length cyRules) Tryz.isAgg34 rfl (H.cell 0 rfl rfl) ?_)
 refine sw (xm #[.slice zX x.qf.length zW, .slice ayRules y.qf.length cyRules] rfl rfl Tryz.call55 (eqRuleS_ok w6 x.qf y.qf zX zW yR ayRules cyRules FyRules (H.get 1 rfl).1 (H.get 3 rfl).1) ?_)
 rintro _ w9 rfl x10
 replace H := H.ext x10
 refine sp (.bool (!(decide (x.qf = y.qf)))) ?_
 refine qo (t_n ?_)
 refine qP (!(decide (x.qf = y.qf))) rfl (fun h11 => ?_) (fun h11 => ?_)
 ·skip
  replace h11 := qQ h11
  replace h11 := of_decide_eq_false h11
  refine qh (qp ?_)
  refine sp (.bool false) ?_
  refine qo (t_n (xh (t_r ?_)))
  refine ret1 (.bool false) rfl rfl ⟨_, rfl, ?_, H.base⟩
  rw [decide_eq_false (fun e => by subst e; simp_all)]
 replace h11 := qN h11
 replace h11 := of_decide_eq_true h11
 refine xg (t_n (qh (qp ?_)))
 refine sp (.bool true) ?_
 refine qo (t_n (xh ?_))
 refine ret1 (.bool true) rfl rfl ⟨_, rfl, ?_, H.base⟩
 rw [decide_eq_true (by cases x; cases y; simp_all)]

theorem eqState_ok (w : World) (x : xF) (y : xF) (zV : Option Addr) (zU : Nat) (yI : List Nat) (jb : Option Addr) (ja : Nat) (QJ : List Nat) (zB : Option Addr) (zA : Nat) (jr : List Nat) (ayAlive : Option Addr) (cyAlive : Nat) (FyAlive : List Nat) (ayBags : Option Addr) (cyBags : Nat) (FyBags : List Nat) (ayAround : Option Addr) (cyAround : Nat) (FyAround : List Nat) (Xh : qM.rep w yI [.slice zV x.qy.length zU] x.qy) (hxBags : qM.rep w QJ [.slice jb x.qG.length ja] x.qG) (Qc : qM.rep w jr [.slice zB x.qB.length zA] x.qB) (hyAlive : qM.rep w FyAlive [.slice ayAlive y.qy.length cyAlive] y.qy) (hyBags : qM.rep w FyBags [.slice ayBags y.qG.length cyBags] y.qG) (hyAround : qM.rep w FyAround [.slice ayAround y.qB.length cyAround] y.qB) : Calls Tryz.prog 16 #[.agg #[.slice zV x.qy.length zU, .slice jb x.qG.length ja, .slice zB x.qB.length zA], .agg #[.slice ayAlive y.qy.length cyAlive, .slice ayBags y.qG.length cyBags, .slice ayAround y.qB.length cyAround]] w (Ret (fun v w' => v = .bool (decide (x = y))) w) := by
 refine enter (n := 23) Tryz.func16 rfl Tryz.ntmps16 (Nat.le_of_ble_eq_true rfl) ?_
 have H := ((((((St.start w).arg hyAround).arg hyBags).arg hyAlive).arg Qc).arg hxBags).arg Xh
 have nhxAlive := qJ Xh
 have nhxBags := qJ hxBags
 have nhxAround := qJ Qc
 have nhyAlive := qJ hyAlive
 have nhyBags := qJ hyBags
 have nhyAround := qJ hyAround
 clear Xh hxBags Qc hyAlive hyBags hyAround
 refine qh (qp ?_)
 refine sw (o_box H (.agg #[.slice zV x.qy.length zU, .slice jb x.qG.length ja, .slice zB x.qB.length zA]) rfl fun b1 w2 H => ?_)
 replace H : St _ _ [.box b1 [.slice zV x.qy.length zU, .slice jb x.qG.length ja, .slice zB x.qB.length zA] 38] _ := H
 refine sw (o_box H (.agg #[.slice ayAlive y.qy.length cyAlive, .slice ayBags y.qG.length cyBags, .slice ayAround y.qB.length cyAround]) rfl fun b3 w4 H => ?_)
 replace H : St _ _ [.box b3 [.slice ayAlive y.qy.length cyAlive, .slice ayBags y.qG.length cyBags, .slice ayAround y.qB.length cyAround] 38, .box b1 [.slice zV x.qy.length zU, .slice jb x.qG.length ja, .slice zB x.qB.length zA] 38] _ := H
 refine sp (.bool false) ?_
 refine qo (t_n (qh (qh (qp ?_))))
 refine sw (qH b1 (0) 0 Tryz.underlying38 rfl rfl Tryz.sizeOf26 rfl ?_)
 refine sw (qC (.slice zV x.qy.length zU) Tryz.isAgg26 rfl (H.cell 1 rfl rfl) ?_)
 refine sw (qH b3 (0) 0 Tryz.underlying38 rfl rfl Tryz.sizeOf26 rfl ?_)
 refine sw (qC (.slice ayAlive y.qy.length cyAlive) Tryz.isAgg26 rfl (H.cell 0 rfl rfl) ?_)
 refine sw (xm #[.slice zV x.qy.length zU, .slice ayAlive y.qy.length cyAlive] rfl rfl Tryz.call56 (eqBoolS_ok w4 x.qy y.qy zV zU yI ayAlive cyAlive FyAlive (H.get 0 rfl).1 (H.get 3 rfl).1) ?_)
 rintro _ w5 rfl x6
 replace H := H.ext x6
 refine sp (.bool (!(decide (x.qy = y.qy)))) ?_
 refine qo (t_n ?_)
 refine qP (!(decide (x.qy = y.qy))) rfl (fun h7 => ?_) (fun h7 => ?_)
 ·skip
  replace h7 := qQ h7
  replace h7 := of_decide_eq_false h7
  refine qh (qp ?_)
  refine sp (.bool false) ?_
  refine qo (t_n (xh (t_r ?_)))
  refine ret1 (.bool false) rfl rfl ⟨_, rfl, ?_, H.base⟩
  rw [decide_eq_false (fun e => by subst e; simp_all)]
 replace h7 := qN h7
 replace h7 := of_decide_eq_true h7
 refine xg (t_n (qh (qh (qp ?_))))
 refine sw (qH b1 (0) 1 Tryz.underlying38 rfl rfl Tryz.sizeOf27 rfl ?_)
 refine sw (qC (.slice jb x.qG.length ja) Tryz.isAgg27 rfl (H.cell 1 rfl rfl) ?_)
 refine sw (qH b3 (0) 1 Tryz.underlying38 rfl rfl Tryz.sizeOf27 rfl ?_)
 refine sw (qC (.slice ayBags y.qG.length cyBags) Tryz.isAgg27 rfl (H.cell 0 rfl rfl) ?_)
 refine sw (xm #[.slice jb x.qG.length ja, .slice ayBags y.qG.length cyBags] rfl rfl Tryz.call14 (eqInt64SS_ok w5 x.qG y.qG jb ja QJ ayBags cyBags FyBags (H.get 1 rfl).1 (H.get 4 rfl).1) ?_)
 rintro _ w8 rfl x9
 replace H := H.ext x9
 refine sp (.bool (!(decide (x.qG = y.qG)))) ?_
 refine qo (t_n ?_)
 refine qP (!(decide (x.qG = y.qG))) rfl (fun h10 => ?_) (fun h10 => ?_)
 ·skip
  replace h10 := qQ h10
  replace h10 := of_decide_eq_false h10
  refine qh (qp ?_)
  refine sp (.bool false) ?_
  refine qo (t_n (xh (t_r ?_)))
  refine ret1 (.bool false) rfl rfl ⟨_, rfl, ?_, H.base⟩
  rw [decide_eq_false (fun e => by subst e; simp_all)]
 replace h10 := qN h10
 replace h10 := of_decide_eq_true h10
 refine xg (t_n (qh (qh (qp ?_))))
 refine sw (qH b1 (0) 2 Tryz.underlying38 rfl rfl Tryz.sizeOf22 rfl ?_)
 refine sw (qC (.slice zB x.qB.length zA) Tryz.isAgg22 rfl (H.cell 1 rfl rfl) ?_)
 refine sw (qH b3 (0) 2 Tryz.underlying38 rfl rfl Tryz.sizeOf22 rfl ?_)
 refine sw (qC (.slice ayAround y.qB.length cyAround) Tryz.isAgg22 rfl (H.cell 0 rfl rfl) ?_)
 refine sw (xm #[.slice zB x.qB.length zA, .slice ayAround y.qB.length cyAround] rfl rfl Tryz.call27 (y9 w8 x.qB y.qB zB zA jr ayAround cyAround FyAround (H.get 2 rfl).1 (H.get 5 rfl).1) ?_)
 rintro _ w11 rfl x12
 replace H := H.ext x12
 refine sp (.bool (!(decide (x.qB = y.qB)))) ?_
 refine qo (t_n ?_)
 refine qP (!(decide (x.qB = y.qB))) rfl (fun h13 => ?_) (fun h13 => ?_)
 ·skip
  replace h13 := qQ h13
  replace h13 := of_decide_eq_false h13
  refine qh (qp ?_)
  refine sp (.bool false) ?_
  refine qo (t_n (xh (t_r ?_)))
  refine ret1 (.bool false) rfl rfl ⟨_, rfl, ?_, H.base⟩
  rw [decide_eq_false (fun e => by subst e; simp_all)]
 replace h13 := qN h13
 replace h13 := of_decide_eq_true h13
 refine xg (t_n (qh (qp ?_)))
 refine sp (.bool true) ?_
 refine qo (t_n (xh ?_))
 refine ret1 (.bool true) rfl rfl ⟨_, rfl, ?_, H.base⟩
 rw [decide_eq_true (by cases x; cases y; simp_all)]

end Go.Proofs.YtkmlihdacnfhdaaGreat
