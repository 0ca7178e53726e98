/- Walks, printed by program (wip/tools/gv.py): what each function comes to, for all arguments. -/
import Derived.Test.YtkmlihdacnfhdaaGreatG1
namespace Go.Proofs.YtkmlihdacnfhdaaGreat
open Go.Proofs.YtkmlihdacnfhdaaGreat.Tot (tot)
open Go.Proofs.YtkmlihdacnfhdaaGreat.Mark (cnt mrk mkd mkd_mark cnt_mark)
open Go.RowKit
set_option linter.unusedVariables false
set_option linter.unusedSimpArgs false
set_option maxRecDepth 100000
set_option maxHeartbeats 4000000

theorem ti4 : TI Tryz.prog 4 (.bool false) 1 1 := by unfold TI; kernel_rfl
theorem ti22 : TI Tryz.prog 22 (.slice none 0 0) 1 24 := by unfold TI; kernel_rfl
theorem ti36 : TI Tryz.prog 36 (.agg #[.int .i64 0, .slice none 0 0, .slice none 0 0]) 3 56 := by unfold TI; kernel_rfl
theorem ti38 : TI Tryz.prog 38 (.agg #[.slice none 0 0, .slice none 0 0, .slice none 0 0]) 3 72 := by unfold TI; kernel_rfl
theorem ti105 : TI Tryz.prog 105 (.agg #[.int .i64 0, .int .i64 0, .slice none 0 0, .slice none 0 0, .slice none 0 0, .slice none 0 0, .slice none 0 0, .slice none 0 0, .bool false]) 9 168 := by unfold TI; kernel_rfl
theorem ti110 : TI Tryz.prog 110 (.agg #[.int .i64 0, .int .i64 0, .slice none 0 0, .slice none 0 0, .slice none 0 0, .slice none 0 0, .slice none 0 0, .slice none 0 0, .bool false]) 9 168 := by unfold TI; kernel_rfl
theorem ti115 : TI Tryz.prog 115 (.agg #[.int .i64 0, .slice none 0 0]) 2 32 := by unfold TI; kernel_rfl
theorem ti167 : TI Tryz.prog 167 (.agg #[.int .i64 0, .slice none 0 0]) 2 32 := by unfold TI; kernel_rfl


theorem Xn (w : World) (x : List Int) (left : Int) (ax : Option Addr) (cx : Nat) (Fx : List Nat) (hx : qQ.rep w Fx [.slice ax x.length cx] x) (p0 : 0 ≤ left ∧ left ≤ 2000000) : Calls Tryz.prog 38 #[.slice ax x.length cx, .int .i64 left] w (Ret (fun v w' => v = .int .i64 (szR (tot x) left)) w) := by
 refine enter (n := 12) Tryz.func38 rfl Tryz.ntmps38 (Nat.le_of_ble_eq_true rfl) ?_
 have H := (St.start w).arg hx
 have nhx := qJ hx
 clear hx
 refine qm (qy ?_)
 refine sp (.int .i64 0) ?_
 refine qw (t_n (qm (qy ?_)))
 refine sps [.int .i64 left, .slice ax x.length cx] ?_
 refine sw (zD Tryz.underlying22 ax x.length cx rfl ?_)
 refine sw (o_sub left x.length rfl rfl (by omega) ?_)
 refine sp (.int .i64 (left - x.length)) ?_
 refine qw (t_n (qm (qm (qy ?_))))
 refine sps [.int .i64 (left - x.length), .bool (decide ((left - x.length : Int) < 0))] ?_
 refine qw (t_n ?_)
 refine qV (decide ((left - x.length : Int) < 0)) rfl (fun h1 => ?_) (fun h1 => ?_)
 ·skip
  replace h1 := of_decide_eq_true h1
  refine qm (qy ?_)
  refine sp (.int .i64 (-1)) ?_
  refine qw (t_n (xx (t_r ?_)))
  refine ret1 (.int .i64 (-1)) rfl rfl ⟨_, rfl, ?_, H.base⟩
  refine congrArg (Value.int .i64) ?_
  have := zo (tot x) left
  rw [tot_ints] at *
  try omega
 replace h1 := of_decide_eq_false h1
 refine xh (t_n (qm (qy ?_)))
 refine sps [.int .i64 (left - x.length), .int .i64 (left - x.length)] ?_
 refine qw (t_n (xx ?_))
 refine ret1 (.int .i64 (left - x.length)) rfl rfl ⟨_, rfl, ?_, H.base⟩
 refine congrArg (Value.int .i64) ?_
 have := zo (tot x) left
 rw [tot_ints] at *
 try omega

theorem szBoolS_ok (w : World) (x : List Bool) (left : Int) (ax : Option Addr) (cx : Nat) (Fx : List Nat) (hx : qQ.rep w Fx [.slice ax x.length cx] x) (p0 : 0 ≤ left ∧ left ≤ 2000000) : Calls Tryz.prog 40 #[.slice ax x.length cx, .int .i64 left] w (Ret (fun v w' => v = .int .i64 (szR (tot x) left)) w) := by
 refine enter (n := 12) Tryz.func40 rfl Tryz.ntmps40 (Nat.le_of_ble_eq_true rfl) ?_
 have H := (St.start w).arg hx
 have nhx := qJ hx
 clear hx
 refine qm (qy ?_)
 refine sp (.int .i64 0) ?_
 refine qw (t_n (qm (qy ?_)))
 refine sps [.int .i64 left, .slice ax x.length cx] ?_
 refine sw (zD Tryz.underlying26 ax x.length cx rfl ?_)
 refine sw (o_sub left x.length rfl rfl (by omega) ?_)
 refine sp (.int .i64 (left - x.length)) ?_
 refine qw (t_n (qm (qm (qy ?_))))
 refine sps [.int .i64 (left - x.length), .bool (decide ((left - x.length : Int) < 0))] ?_
 refine qw (t_n ?_)
 refine qV (decide ((left - x.length : Int) < 0)) rfl (fun h1 => ?_) (fun h1 => ?_)
 ·skip
  replace h1 := of_decide_eq_true h1
  refine qm (qy ?_)
  refine sp (.int .i64 (-1)) ?_
  refine qw (t_n (xx (t_r ?_)))
  refine ret1 (.int .i64 (-1)) rfl rfl ⟨_, rfl, ?_, H.base⟩
  refine congrArg (Value.int .i64) ?_
  have := zo (tot x) left
  rw [tot_bools] at *
  try omega
 replace h1 := of_decide_eq_false h1
 refine xh (t_n (qm (qy ?_)))
 refine sps [.int .i64 (left - x.length), .int .i64 (left - x.length)] ?_
 refine qw (t_n (xx ?_))
 refine ret1 (.int .i64 (left - x.length)) rfl rfl ⟨_, rfl, ?_, H.base⟩
 refine congrArg (Value.int .i64) ?_
 have := zo (tot x) left
 rw [tot_bools] at *
 try omega

theorem szInt64SS_ok (w : World) (x : List (List Int)) (left : Int) (ax : Option Addr) (cx : Nat) (Fx : List Nat) (hx : qQ.rep w Fx [.slice ax x.length cx] x) (p0 : 0 ≤ left ∧ left ≤ 2000000) : Calls Tryz.prog 29 #[.slice ax x.length cx, .int .i64 left] w (Ret (fun v w' => v = .int .i64 (szR (tot x) left)) w) := by
 refine enter (n := 27) Tryz.func29 rfl Tryz.ntmps29 (Nat.le_of_ble_eq_true rfl) ?_
 have H := (St.start w).arg hx
 have nhx := qJ hx
 clear hx
 refine qm (qy ?_)
 refine sp (.int .i64 0) ?_
 refine qw (t_n (qm (qy ?_)))
 refine sps [.int .i64 left, .slice ax x.length cx] ?_
 refine sw (zD Tryz.underlying27 ax x.length cx rfl ?_)
 refine sw (o_sub left x.length rfl rfl (by omega) ?_)
 refine sp (.int .i64 (left - x.length)) ?_
 refine qw (t_n (qm (qm (qy ?_))))
 refine sps [.int .i64 (left - x.length), .bool (decide ((left - x.length : Int) < 0))] ?_
 refine qw (t_n ?_)
 refine qV (decide ((left - x.length : Int) < 0)) rfl (fun h1 => ?_) (fun h1 => ?_)
 ·skip
  replace h1 := of_decide_eq_true h1
  refine qm (qy ?_)
  refine sp (.int .i64 (-1)) ?_
  refine qw (t_n (xx (t_r ?_)))
  refine ret1 (.int .i64 (-1)) rfl rfl ⟨_, rfl, ?_, H.base⟩
  refine congrArg (Value.int .i64) ?_
  have := zo (tot x) left
  have := len_tot x
  omega
 replace h1 := of_decide_eq_false h1
 refine xh (t_n (qm (qm (qy ?_))))
 refine sp (.int .i64 0) ?_
 refine qw (t_n (xu ?_))
 refine zG (fun m' ρ w2 => ∃ (junk : Env) (k : Nat) (r : Int), ρ = upd (upd (upd junk 0 (.slice ax x.length cx)) 1 (.int .i64 r)) 5 (.int .i64 k) ∧ (k ≤ x.length) ∧ (r = left - (x.length : Int) - (totTo x k : Nat)) ∧ (0 ≤ r) ∧ m' = x.length - k ∧ St w w2 [] [isF false Fx (.slice ax x.length cx) x]) (x.length - 0) ⟨_, 0, left - (x.length : Int), (by exact qj (qj (qj (rfl) rfl) rfl) rfl), (by omega), (by rw [totTo_zero]; omega), (by omega), rfl, H⟩ ?_
 clear H
 rintro m' ρ w3 ⟨junk, k, r, rfl, i0, i1, i2, rfl, H⟩
 refine qm (qm (qy ?_))
 refine sps [.int .i64 k, .slice ax x.length cx] ?_
 refine sw (zD Tryz.underlying27 ax x.length cx rfl ?_)
 refine sp (.bool (decide ((k : Int) < x.length))) ?_
 refine qw (t_n ?_)
 refine qV (decide ((k : Int) < x.length)) rfl (fun h4 => ?_) (fun h4 => ?_)
 ·skip
  replace h4 := of_decide_eq_true h4
  refine xh (t_n (qm (xu (qm (qy ?_)))))
  refine sps [.slice ax x.length cx, .int .i64 k] ?_
  obtain ⟨b5, o6, rfl⟩ := H.addr 0 rfl (by omega)
  obtain ⟨ae7, ce7, Fe7, H⟩ := H.jC 0 rfl k k (by omega) (by omega) (by omega)
  refine sw (xJ k Tryz.underlying27 ti22 rfl rfl (by omega) (by omega) ?_)
  refine sw (qE (.slice ae7 ((x[k]!).length) ce7) Tryz.isAgg22 rfl (H.xR 1 rfl 0 rfl) ?_)
  refine sp (.int .i64 r) ?_
  refine sw (xf #[.slice ae7 ((x[k]!).length) ce7, .int .i64 r] rfl rfl Tryz.call38 (Xn w3 (x[k]!) r ae7 ce7 Fe7 (H.get 0 rfl).1 (by omega)) ?_)
  rintro _ w8 rfl x9
  replace H := H.ext x9
  have := zo (tot (x[k]!)) r
  refine sp (.int .i64 (szR (tot (x[k]!)) r)) ?_
  refine qw (t_n (qm (qy ?_)))
  refine sps [.int .i64 (szR (tot (x[k]!)) r), .bool (decide ((szR (tot (x[k]!)) r : Int) < 0))] ?_
  refine qw (t_n ?_)
  refine qV (decide ((szR (tot (x[k]!)) r : Int) < 0)) rfl (fun h10 => ?_) (fun h10 => ?_)
  ·skip
   replace h10 := of_decide_eq_true h10
   refine qm (qy ?_)
   refine sp (.int .i64 (-1)) ?_
   refine qw (t_n (xx (b_r (t_r (t_r (b_r (t_r ?_)))))))
   refine ret1 (.int .i64 (-1)) rfl rfl ⟨_, rfl, ?_, H.base⟩
   refine congrArg (Value.int .i64) ?_
   have := zo (tot x) left
   have := tot_get (l := x) (k := k) (by omega)
   omega
  replace h10 := of_decide_eq_false h10
  refine xh (b_n (t_n (qy ?_)))
  refine sp (.int .i64 k) ?_
  refine sw (zJ k 1 rfl rfl (by omega) ?_)
  refine sp (.int .i64 (k + 1)) ?_
  refine qw ?_
  refine xF (m' := x.length - (k + 1)) (by omega) ⟨_, k + 1, szR (tot (x[k]!)) r, (by exact qj (qj (qj (rfl) rfl) rfl) rfl), ?_, ?_, ?_, rfl, H.sel _ (.refl _) _ (by simp)⟩
  · omega
  · rw [totTo_succ]; omega
  · omega
 replace h4 := of_decide_eq_false h4
 refine zy (t_x (t_x (b_x (t_n (qm (qy ?_))))))
 refine sps [.int .i64 r, .int .i64 r] ?_
 refine qw (t_n (xx ?_))
 refine ret1 (.int .i64 r) rfl rfl ⟨_, rfl, ?_, H.base⟩
 refine congrArg (Value.int .i64) ?_
 obtain rfl : k = x.length := by omega
 have := zo (tot x) left
 rw [tot_list] at *
 omega

theorem szInto_ok (w : World) (x : IntoD) (left : Int) (axBag : Option Addr) (cxBag : Nat) (FxBag : List Nat) (hxBag : qQ.rep w FxBag [.slice axBag x.zW.length cxBag] x.zW) (p0 : 0 ≤ left ∧ left ≤ 2000000) : Calls Tryz.prog 160 #[.agg #[.int .i64 x.qA, .slice axBag x.zW.length cxBag], .int .i64 left] w (Ret (fun v w' => v = .int .i64 (szR (tot x) left)) w) := by
 refine enter (n := 12) Tryz.func160 rfl Tryz.ntmps160 (Nat.le_of_ble_eq_true rfl) ?_
 have H := (St.start w).arg hxBag
 have nhxBag := qJ hxBag
 clear hxBag
 refine qm (qy ?_)
 refine sw (o_box H (.agg #[.int .i64 x.qA, .slice axBag x.zW.length cxBag]) rfl fun b1 w2 H => ?_)
 replace H : St _ _ [.box b1 [.int .i64 x.qA, .slice axBag x.zW.length cxBag] 167] _ := H
 refine sp (.int .i64 0) ?_
 refine qw (t_n (qm (qy ?_)))
 refine sw (qM b1 (0) 1 Tryz.underlying167 rfl rfl Tryz.sizeOf22 rfl ?_)
 refine sw (qE (.slice axBag x.zW.length cxBag) Tryz.isAgg22 rfl (H.cell 0 rfl rfl) ?_)
 refine sp (.int .i64 left) ?_
 refine sw (xf #[.slice axBag x.zW.length cxBag, .int .i64 left] rfl rfl Tryz.call38 (Xn w2 x.zW left axBag cxBag FxBag (H.get 0 rfl).1 (by omega)) ?_)
 rintro _ w3 rfl x4
 replace H := H.ext x4
 have := zo (tot x.zW) left
 refine sp (.int .i64 (szR (tot x.zW) left)) ?_
 refine qw (t_n (qm (qm (qy ?_))))
 refine sps [.int .i64 (szR (tot x.zW) left), .bool (decide ((szR (tot x.zW) left : Int) < 0))] ?_
 refine qw (t_n ?_)
 refine qV (decide ((szR (tot x.zW) left : Int) < 0)) rfl (fun h5 => ?_) (fun h5 => ?_)
 ·skip
  replace h5 := of_decide_eq_true h5
  refine qm (qy ?_)
  refine sp (.int .i64 (-1)) ?_
  refine qw (t_n (xx (t_r ?_)))
  refine ret1 (.int .i64 (-1)) rfl rfl ⟨_, rfl, ?_, H.base⟩
  refine congrArg (Value.int .i64) ?_
  have := zo (tot x) left
  rw [tot_IntoD] at *
  try omega
 replace h5 := of_decide_eq_false h5
 refine xh (t_n (qm (qy ?_)))
 refine sps [.int .i64 (szR (tot x.zW) left), .int .i64 (szR (tot x.zW) left)] ?_
 refine qw (t_n (xx ?_))
 refine ret1 (.int .i64 (szR (tot x.zW) left)) rfl rfl ⟨_, rfl, ?_, H.base⟩
 refine congrArg (Value.int .i64) ?_
 have := zo (tot x) left
 rw [tot_IntoD] at *
 try omega

theorem szIntoS_ok (w : World) (x : List IntoD) (left : Int) (ax : Option Addr) (cx : Nat) (Fx : List Nat) (hx : qQ.rep w Fx [.slice ax x.length cx] x) (p0 : 0 ≤ left ∧ left ≤ 2000000) : Calls Tryz.prog 135 #[.slice ax x.length cx, .int .i64 left] w (Ret (fun v w' => v = .int .i64 (szR (tot x) left)) w) := by
 refine enter (n := 27) Tryz.func135 rfl Tryz.ntmps135 (Nat.le_of_ble_eq_true rfl) ?_
 have H := (St.start w).arg hx
 have nhx := qJ hx
 clear hx
 refine qm (qy ?_)
 refine sp (.int .i64 0) ?_
 refine qw (t_n (qm (qy ?_)))
 refine sps [.int .i64 left, .slice ax x.length cx] ?_
 refine sw (zD Tryz.underlying103 ax x.length cx rfl ?_)
 refine sw (o_sub left x.length rfl rfl (by omega) ?_)
 refine sp (.int .i64 (left - x.length)) ?_
 refine qw (t_n (qm (qm (qy ?_))))
 refine sps [.int .i64 (left - x.length), .bool (decide ((left - x.length : Int) < 0))] ?_
 refine qw (t_n ?_)
 refine qV (decide ((left - x.length : Int) < 0)) rfl (fun h1 => ?_) (fun h1 => ?_)
 ·skip
  replace h1 := of_decide_eq_true h1
  refine qm (qy ?_)
  refine sp (.int .i64 (-1)) ?_
  refine qw (t_n (xx (t_r ?_)))
  refine ret1 (.int .i64 (-1)) rfl rfl ⟨_, rfl, ?_, H.base⟩
  refine congrArg (Value.int .i64) ?_
  have := zo (tot x) left
  have := len_tot x
  omega
 replace h1 := of_decide_eq_false h1
 refine xh (t_n (qm (qm (qy ?_))))
 refine sp (.int .i64 0) ?_
 refine qw (t_n (xu ?_))
 refine zG (fun m' ρ w2 => ∃ (junk : Env) (k : Nat) (r : Int), ρ = upd (upd (upd junk 0 (.slice ax x.length cx)) 1 (.int .i64 r)) 5 (.int .i64 k) ∧ (k ≤ x.length) ∧ (r = left - (x.length : Int) - (totTo x k : Nat)) ∧ (0 ≤ r) ∧ m' = x.length - k ∧ St w w2 [] [isF false Fx (.slice ax x.length cx) x]) (x.length - 0) ⟨_, 0, left - (x.length : Int), (by exact qj (qj (qj (rfl) rfl) rfl) rfl), (by omega), (by rw [totTo_zero]; omega), (by omega), rfl, H⟩ ?_
 clear H
 rintro m' ρ w3 ⟨junk, k, r, rfl, i0, i1, i2, rfl, H⟩
 refine qm (qm (qy ?_))
 refine sps [.int .i64 k, .slice ax x.length cx] ?_
 refine sw (zD Tryz.underlying103 ax x.length cx rfl ?_)
 refine sp (.bool (decide ((k : Int) < x.length))) ?_
 refine qw (t_n ?_)
 refine qV (decide ((k : Int) < x.length)) rfl (fun h4 => ?_) (fun h4 => ?_)
 ·skip
  replace h4 := of_decide_eq_true h4
  refine xh (t_n (qm (xu (qm (qy ?_)))))
  refine sps [.slice ax x.length cx, .int .i64 k] ?_
  obtain ⟨b5, o6, rfl⟩ := H.addr 0 rfl (by omega)
  obtain ⟨ae7Bag, ce7Bag, Fe7Bag, H⟩ := H.jl 0 rfl k k (by omega) (by omega) (by omega)
  refine sw (xJ k Tryz.underlying103 ti167 rfl rfl (by omega) (by omega) ?_)
  refine sw (zi [.int .i64 ((x[k]!).qA), .slice ae7Bag (((x[k]!).zW).length) ce7Bag] Tryz.isAgg167 Tryz.sizeOf167 rfl (qG (H.get 1 rfl) 0 2) ?_)
  refine sp (.int .i64 r) ?_
  refine sw (xf #[.agg #[.int .i64 ((x[k]!).qA), .slice ae7Bag (((x[k]!).zW).length) ce7Bag], .int .i64 r] rfl rfl Tryz.call160 (szInto_ok w3 (x[k]!) r ae7Bag ce7Bag Fe7Bag (H.get 0 rfl).1 (by omega)) ?_)
  rintro _ w8 rfl x9
  replace H := H.ext x9
  have := zo (tot (x[k]!)) r
  refine sp (.int .i64 (szR (tot (x[k]!)) r)) ?_
  refine qw (t_n (qm (qy ?_)))
  refine sps [.int .i64 (szR (tot (x[k]!)) r), .bool (decide ((szR (tot (x[k]!)) r : Int) < 0))] ?_
  refine qw (t_n ?_)
  refine qV (decide ((szR (tot (x[k]!)) r : Int) < 0)) rfl (fun h10 => ?_) (fun h10 => ?_)
  ·skip
   replace h10 := of_decide_eq_true h10
   refine qm (qy ?_)
   refine sp (.int .i64 (-1)) ?_
   refine qw (t_n (xx (b_r (t_r (t_r (b_r (t_r ?_)))))))
   refine ret1 (.int .i64 (-1)) rfl rfl ⟨_, rfl, ?_, H.base⟩
   refine congrArg (Value.int .i64) ?_
   have := zo (tot x) left
   have := tot_get (l := x) (k := k) (by omega)
   omega
  replace h10 := of_decide_eq_false h10
  refine xh (b_n (t_n (qy ?_)))
  refine sp (.int .i64 k) ?_
  refine sw (zJ k 1 rfl rfl (by omega) ?_)
  refine sp (.int .i64 (k + 1)) ?_
  refine qw ?_
  refine xF (m' := x.length - (k + 1)) (by omega) ⟨_, k + 1, szR (tot (x[k]!)) r, (by exact qj (qj (qj (rfl) rfl) rfl) rfl), ?_, ?_, ?_, rfl, H.sel _ (.refl _) _ (by simp)⟩
  · omega
  · rw [totTo_succ]; omega
  · omega
 replace h4 := of_decide_eq_false h4
 refine zy (t_x (t_x (b_x (t_n (qm (qy ?_))))))
 refine sps [.int .i64 r, .int .i64 r] ?_
 refine qw (t_n (xx ?_))
 refine ret1 (.int .i64 r) rfl rfl ⟨_, rfl, ?_, H.base⟩
 refine congrArg (Value.int .i64) ?_
 obtain rfl : k = x.length := by omega
 have := zo (tot x) left
 rw [tot_list] at *
 omega

theorem szRule_ok (w : World) (x : QB) (left : Int) (yO : Option Addr) (yJ : Nat) (FxNeed : List Nat) (yS : Option Addr) (yN : Nat) (FxHave : List Nat) (yP : Option Addr) (yK : Nat) (FxLack : List Nat) (yR : Option Addr) (yM : Nat) (FxHere : List Nat) (XE : Option Addr) (XD : Nat) (FxOut : List Nat) (yQ : Option Addr) (yL : Nat) (FxInto : List Nat) (hxNeed : qQ.rep w FxNeed [.slice yO x.qW.length yJ] x.qW) (hxHave : qQ.rep w FxHave [.slice yS x.xg.length yN] x.xg) (hxLack : qQ.rep w FxLack [.slice yP x.xk.length yK] x.xk) (hxHere : qQ.rep w FxHere [.slice yR x.xw.length yM] x.xw) (hxOut : qQ.rep w FxOut [.slice XE x.zf.length XD] x.zf) (hxInto : qQ.rep w FxInto [.slice yQ x.qB.length yL] x.qB) (p0 : 0 ≤ left ∧ left ≤ 2000000) : Calls Tryz.prog 82 #[.agg #[.int .i64 x.qA, .int .i64 x.xZ, .slice yO x.qW.length yJ, .slice yS x.xg.length yN, .slice yP x.xk.length yK, .slice yR x.xw.length yM, .slice XE x.zf.length XD, .slice yQ x.qB.length yL, .bool x.xP], .int .i64 left] w (Ret (fun v w' => v = .int .i64 (szR (tot x) left)) w) := by
 refine enter (n := 42) Tryz.func82 rfl Tryz.ntmps82 (Nat.le_of_ble_eq_true rfl) ?_
 have H := ((((((St.start w).arg hxInto).arg hxOut).arg hxHere).arg hxLack).arg hxHave).arg hxNeed
 have nhxNeed := qJ hxNeed
 have nhxHave := qJ hxHave
 have nhxLack := qJ hxLack
 have nhxHere := qJ hxHere
 have nhxOut := qJ hxOut
 have nhxInto := qJ hxInto
 clear hxNeed hxHave hxLack hxHere hxOut hxInto
 refine qm (qy ?_)
 refine sw (o_box H (.agg #[.int .i64 x.qA, .int .i64 x.xZ, .slice yO x.qW.length yJ, .slice yS x.xg.length yN, .slice yP x.xk.length yK, .slice yR x.xw.length yM, .slice XE x.zf.length XD, .slice yQ x.qB.length yL, .bool x.xP]) rfl fun b1 w2 H => ?_)
 replace H : St _ _ [.box b1 [.int .i64 x.qA, .int .i64 x.xZ, .slice yO x.qW.length yJ, .slice yS x.xg.length yN, .slice yP x.xk.length yK, .slice yR x.xw.length yM, .slice XE x.zf.length XD, .slice yQ x.qB.length yL, .bool x.xP] 105] _ := H
 refine sp (.int .i64 0) ?_
 refine qw (t_n (qm (qy ?_)))
 refine sw (qM b1 (0) 2 Tryz.underlying105 rfl rfl Tryz.sizeOf22 rfl ?_)
 refine sw (qE (.slice yO x.qW.length yJ) Tryz.isAgg22 rfl (H.cell 0 rfl rfl) ?_)
 refine sp (.int .i64 left) ?_
 refine sw (xf #[.slice yO x.qW.length yJ, .int .i64 left] rfl rfl Tryz.call38 (Xn w2 x.qW left yO yJ FxNeed (H.get 0 rfl).1 (by omega)) ?_)
 rintro _ w3 rfl x4
 replace H := H.ext x4
 have := zo (tot x.qW) left
 refine sp (.int .i64 (szR (tot x.qW) left)) ?_
 refine qw (t_n (qm (qm (qy ?_))))
 refine sps [.int .i64 (szR (tot x.qW) left), .bool (decide ((szR (tot x.qW) left : Int) < 0))] ?_
 refine qw (t_n ?_)
 refine qV (decide ((szR (tot x.qW) left : Int) < 0)) rfl (fun h5 => ?_) (fun h5 => ?_)
 ·skip
  replace h5 := of_decide_eq_true h5
  refine qm (qy ?_)
  refine sp (.int .i64 (-1)) ?_
  refine qw (t_n (xx (t_r ?_)))
  refine ret1 (.int .i64 (-1)) rfl rfl ⟨_, rfl, ?_, H.base⟩
  refine congrArg (Value.int .i64) ?_
  have := zo (tot x) left
  rw [tot_RuleD] at *
  try omega
 replace h5 := of_decide_eq_false h5
 refine xh (t_n (qm (qy ?_)))
 refine sw (qM b1 (0) 3 Tryz.underlying105 rfl rfl Tryz.sizeOf22 rfl ?_)
 refine sw (qE (.slice yS x.xg.length yN) Tryz.isAgg22 rfl (H.cell 0 rfl rfl) ?_)
 refine sp (.int .i64 (szR (tot x.qW) left)) ?_
 refine sw (xf #[.slice yS x.xg.length yN, .int .i64 (szR (tot x.qW) left)] rfl rfl Tryz.call38 (Xn w3 x.xg (szR (tot x.qW) left) yS yN FxHave (H.get 1 rfl).1 (by omega)) ?_)
 rintro _ w6 rfl x7
 replace H := H.ext x7
 have := zo (tot x.xg) (szR (tot x.qW) left)
 refine sp (.int .i64 (szR (tot x.xg) (szR (tot x.qW) left))) ?_
 refine qw (t_n (qm (qm (qy ?_))))
 refine sps [.int .i64 (szR (tot x.xg) (szR (tot x.qW) left)), .bool (decide ((szR (tot x.xg) (szR (tot x.qW) left) : Int) < 0))] ?_
 refine qw (t_n ?_)
 refine qV (decide ((szR (tot x.xg) (szR (tot x.qW) left) : Int) < 0)) rfl (fun h8 => ?_) (fun h8 => ?_)
 ·skip
  replace h8 := of_decide_eq_true h8
  refine qm (qy ?_)
  refine sp (.int .i64 (-1)) ?_
  refine qw (t_n (xx (t_r ?_)))
  refine ret1 (.int .i64 (-1)) rfl rfl ⟨_, rfl, ?_, H.base⟩
  refine congrArg (Value.int .i64) ?_
  have := zo (tot x) left
  rw [tot_RuleD] at *
  try omega
 replace h8 := of_decide_eq_false h8
 refine xh (t_n (qm (qy ?_)))
 refine sw (qM b1 (0) 4 Tryz.underlying105 rfl rfl Tryz.sizeOf22 rfl ?_)
 refine sw (qE (.slice yP x.xk.length yK) Tryz.isAgg22 rfl (H.cell 0 rfl rfl) ?_)
 refine sp (.int .i64 (szR (tot x.xg) (szR (tot x.qW) left))) ?_
 refine sw (xf #[.slice yP x.xk.length yK, .int .i64 (szR (tot x.xg) (szR (tot x.qW) left))] rfl rfl Tryz.call38 (Xn w6 x.xk (szR (tot x.xg) (szR (tot x.qW) left)) yP yK FxLack (H.get 2 rfl).1 (by omega)) ?_)
 rintro _ w9 rfl x10
 replace H := H.ext x10
 have := zo (tot x.xk) (szR (tot x.xg) (szR (tot x.qW) left))
 refine sp (.int .i64 (szR (tot x.xk) (szR (tot x.xg) (szR (tot x.qW) left)))) ?_
 refine qw (t_n (qm (qm (qy ?_))))
 refine sps [.int .i64 (szR (tot x.xk) (szR (tot x.xg) (szR (tot x.qW) left))), .bool (decide ((szR (tot x.xk) (szR (tot x.xg) (szR (tot x.qW) left)) : Int) < 0))] ?_
 refine qw (t_n ?_)
 refine qV (decide ((szR (tot x.xk) (szR (tot x.xg) (szR (tot x.qW) left)) : Int) < 0)) rfl (fun h11 => ?_) (fun h11 => ?_)
 ·skip
  replace h11 := of_decide_eq_true h11
  refine qm (qy ?_)
  refine sp (.int .i64 (-1)) ?_
  refine qw (t_n (xx (t_r ?_)))
  refine ret1 (.int .i64 (-1)) rfl rfl ⟨_, rfl, ?_, H.base⟩
  refine congrArg (Value.int .i64) ?_
  have := zo (tot x) left
  rw [tot_RuleD] at *
  try omega
 replace h11 := of_decide_eq_false h11
 refine xh (t_n (qm (qy ?_)))
 refine sw (qM b1 (0) 5 Tryz.underlying105 rfl rfl Tryz.sizeOf22 rfl ?_)
 refine sw (qE (.slice yR x.xw.length yM) Tryz.isAgg22 rfl (H.cell 0 rfl rfl) ?_)
 refine sp (.int .i64 (szR (tot x.xk) (szR (tot x.xg) (szR (tot x.qW) left)))) ?_
 refine sw (xf #[.slice yR x.xw.length yM, .int .i64 (szR (tot x.xk) (szR (tot x.xg) (szR (tot x.qW) left)))] rfl rfl Tryz.call38 (Xn w9 x.xw (szR (tot x.xk) (szR (tot x.xg) (szR (tot x.qW) left))) yR yM FxHere (H.get 3 rfl).1 (by omega)) ?_)
 rintro _ w12 rfl x13
 replace H := H.ext x13
 have := zo (tot x.xw) (szR (tot x.xk) (szR (tot x.xg) (szR (tot x.qW) left)))
 refine sp (.int .i64 (szR (tot x.xw) (szR (tot x.xk) (szR (tot x.xg) (szR (tot x.qW) left))))) ?_
 refine qw (t_n (qm (qm (qy ?_))))
 refine sps [.int .i64 (szR (tot x.xw) (szR (tot x.xk) (szR (tot x.xg) (szR (tot x.qW) left)))), .bool (decide ((szR (tot x.xw) (szR (tot x.xk) (szR (tot x.xg) (szR (tot x.qW) left))) : Int) < 0))] ?_
 refine qw (t_n ?_)
 refine qV (decide ((szR (tot x.xw) (szR (tot x.xk) (szR (tot x.xg) (szR (tot x.qW) left))) : Int) < 0)) rfl (fun h14 => ?_) (fun h14 => ?_)
 ·skip
  replace h14 := of_decide_eq_true h14
  refine qm (qy ?_)
  refine sp (.int .i64 (-1)) ?_
  refine qw (t_n (xx (t_r ?_)))
  refine ret1 (.int .i64 (-1)) rfl rfl ⟨_, rfl, ?_, H.base⟩
  refine congrArg (Value.int .i64) ?_
  have := zo (tot x) left
  rw [tot_RuleD] at *
  try omega
 replace h14 := of_decide_eq_false h14
 refine xh (t_n (qm (qy ?_)))
 refine sw (qM b1 (0) 6 Tryz.underlying105 rfl rfl Tryz.sizeOf22 rfl ?_)
 refine sw (qE (.slice XE x.zf.length XD) Tryz.isAgg22 rfl (H.cell 0 rfl rfl) ?_)
 refine sp (.int .i64 (szR (tot x.xw) (szR (tot x.xk) (szR (tot x.xg) (szR (tot x.qW) left))))) ?_
 refine sw (xf #[.slice XE x.zf.length XD, .int .i64 (szR (tot x.xw) (szR (tot x.xk) (szR (tot x.xg) (szR (tot x.qW) left))))] rfl rfl Tryz.call38 (Xn w12 x.zf (szR (tot x.xw) (szR (tot x.xk) (szR (tot x.xg) (szR (tot x.qW) left)))) XE XD FxOut (H.get 4 rfl).1 (by omega)) ?_)
 rintro _ w15 rfl x16
 replace H := H.ext x16
 have := zo (tot x.zf) (szR (tot x.xw) (szR (tot x.xk) (szR (tot x.xg) (szR (tot x.qW) left))))
 refine sp (.int .i64 (szR (tot x.zf) (szR (tot x.xw) (szR (tot x.xk) (szR (tot x.xg) (szR (tot x.qW) left)))))) ?_
 refine qw (t_n (qm (qm (qy ?_))))
 refine sps [.int .i64 (szR (tot x.zf) (szR (tot x.xw) (szR (tot x.xk) (szR (tot x.xg) (szR (tot x.qW) left))))), .bool (decide ((szR (tot x.zf) (szR (tot x.xw) (szR (tot x.xk) (szR (tot x.xg) (szR (tot x.qW) left)))) : Int) < 0))] ?_
 refine qw (t_n ?_)
 refine qV (decide ((szR (tot x.zf) (szR (tot x.xw) (szR (tot x.xk) (szR (tot x.xg) (szR (tot x.qW) left)))) : Int) < 0)) rfl (fun h17 => ?_) (fun h17 => ?_)
 ·skip
  replace h17 := of_decide_eq_true h17
  refine qm (qy ?_)
  refine sp (.int .i64 (-1)) ?_
  refine qw (t_n (xx (t_r ?_)))
  refine ret1 (.int .i64 (-1)) rfl rfl ⟨_, rfl, ?_, H.base⟩
  refine congrArg (Value.int .i64) ?_
  have := zo (tot x) left
  rw [tot_RuleD] at *
  try omega
 replace h17 := of_decide_eq_false h17
 refine xh (t_n (qm (qy ?_)))
 refine sw (qM b1 (0) 7 Tryz.underlying105 rfl rfl Tryz.sizeOf103 rfl ?_)
 refine sw (qE (.slice yQ x.qB.length yL) Tryz.isAgg103 rfl (H.cell 0 rfl rfl) ?_)
 refine sp (.int .i64 (szR (tot x.zf) (szR (tot x.xw) (szR (tot x.xk) (szR (tot x.xg) (szR (tot x.qW) left)))))) ?_
 refine sw (xf #[.slice yQ x.qB.length yL, .int .i64 (szR (tot x.zf) (szR (tot x.xw) (szR (tot x.xk) (szR (tot x.xg) (szR (tot x.qW) left)))))] rfl rfl Tryz.call135 (szIntoS_ok w15 x.qB (szR (tot x.zf) (szR (tot x.xw) (szR (tot x.xk) (szR (tot x.xg) (szR (tot x.qW) left))))) yQ yL FxInto (H.get 5 rfl).1 (by omega)) ?_)
 rintro _ w18 rfl x19
 replace H := H.ext x19
 have := zo (tot x.qB) (szR (tot x.zf) (szR (tot x.xw) (szR (tot x.xk) (szR (tot x.xg) (szR (tot x.qW) left)))))
 refine sp (.int .i64 (szR (tot x.qB) (szR (tot x.zf) (szR (tot x.xw) (szR (tot x.xk) (szR (tot x.xg) (szR (tot x.qW) left))))))) ?_
 refine qw (t_n (qm (qm (qy ?_))))
 refine sps [.int .i64 (szR (tot x.qB) (szR (tot x.zf) (szR (tot x.xw) (szR (tot x.xk) (szR (tot x.xg) (szR (tot x.qW) left)))))), .bool (decide ((szR (tot x.qB) (szR (tot x.zf) (szR (tot x.xw) (szR (tot x.xk) (szR (tot x.xg) (szR (tot x.qW) left))))) : Int) < 0))] ?_
 refine qw (t_n ?_)
 refine qV (decide ((szR (tot x.qB) (szR (tot x.zf) (szR (tot x.xw) (szR (tot x.xk) (szR (tot x.xg) (szR (tot x.qW) left))))) : Int) < 0)) rfl (fun h20 => ?_) (fun h20 => ?_)
 ·skip
  replace h20 := of_decide_eq_true h20
  refine qm (qy ?_)
  refine sp (.int .i64 (-1)) ?_
  refine qw (t_n (xx (t_r ?_)))
  refine ret1 (.int .i64 (-1)) rfl rfl ⟨_, rfl, ?_, H.base⟩
  refine congrArg (Value.int .i64) ?_
  have := zo (tot x) left
  rw [tot_RuleD] at *
  try omega
 replace h20 := of_decide_eq_false h20
 refine xh (t_n (qm (qy ?_)))
 refine sps [.int .i64 (szR (tot x.qB) (szR (tot x.zf) (szR (tot x.xw) (szR (tot x.xk) (szR (tot x.xg) (szR (tot x.qW) left)))))), .int .i64 (szR (tot x.qB) (szR (tot x.zf) (szR (tot x.xw) (szR (tot x.xk) (szR (tot x.xg) (szR (tot x.qW) left))))))] ?_
 refine qw (t_n (xx ?_))
 refine ret1 (.int .i64 (szR (tot x.qB) (szR (tot x.zf) (szR (tot x.xw) (szR (tot x.xk) (szR (tot x.xg) (szR (tot x.qW) left))))))) rfl rfl ⟨_, rfl, ?_, H.base⟩
 refine congrArg (Value.int .i64) ?_
 have := zo (tot x) left
 rw [tot_RuleD] at *
 try omega

theorem szRuleS_ok (w : World) (x : List QB) (left : Int) (ax : Option Addr) (cx : Nat) (Fx : List Nat) (hx : qQ.rep w Fx [.slice ax x.length cx] x) (p0 : 0 ≤ left ∧ left ≤ 2000000) : Calls Tryz.prog 39 #[.slice ax x.length cx, .int .i64 left] w (Ret (fun v w' => v = .int .i64 (szR (tot x) left)) w) := by
 refine enter (n := 27) Tryz.func39 rfl Tryz.ntmps39 (Nat.le_of_ble_eq_true rfl) ?_
 have H := (St.start w).arg hx
 have nhx := qJ hx
 clear hx
 refine qm (qy ?_)
 refine sp (.int .i64 0) ?_
 refine qw (t_n (qm (qy ?_)))
 refine sps [.int .i64 left, .slice ax x.length cx] ?_
 refine sw (zD Tryz.underlying23 ax x.length cx rfl ?_)
 refine sw (o_sub left x.length rfl rfl (by omega) ?_)
 refine sp (.int .i64 (left - x.length)) ?_
 refine qw (t_n (qm (qm (qy ?_))))
 refine sps [.int .i64 (left - x.length), .bool (decide ((left - x.length : Int) < 0))] ?_
 refine qw (t_n ?_)
 refine qV (decide ((left - x.length : Int) < 0)) rfl (fun h1 => ?_) (fun h1 => ?_)
 ·skip
  replace h1 := of_decide_eq_true h1
  refine qm (qy ?_)
  refine sp (.int .i64 (-1)) ?_
  refine qw (t_n (xx (t_r ?_)))
  refine ret1 (.int .i64 (-1)) rfl rfl ⟨_, rfl, ?_, H.base⟩
  refine congrArg (Value.int .i64) ?_
  have := zo (tot x) left
  have := len_tot x
  omega
 replace h1 := of_decide_eq_false h1
 refine xh (t_n (qm (qm (qy ?_))))
 refine sp (.int .i64 0) ?_
 refine qw (t_n (xu ?_))
 refine zG (fun m' ρ w2 => ∃ (junk : Env) (k : Nat) (r : Int), ρ = upd (upd (upd junk 0 (.slice ax x.length cx)) 1 (.int .i64 r)) 5 (.int .i64 k) ∧ (k ≤ x.length) ∧ (r = left - (x.length : Int) - (totTo x k : Nat)) ∧ (0 ≤ r) ∧ m' = x.length - k ∧ St w w2 [] [isF false Fx (.slice ax x.length cx) x]) (x.length - 0) ⟨_, 0, left - (x.length : Int), (by exact qj (qj (qj (rfl) rfl) rfl) rfl), (by omega), (by rw [totTo_zero]; omega), (by omega), rfl, H⟩ ?_
 clear H
 rintro m' ρ w3 ⟨junk, k, r, rfl, i0, i1, i2, rfl, H⟩
 refine qm (qm (qy ?_))
 refine sps [.int .i64 k, .slice ax x.length cx] ?_
 refine sw (zD Tryz.underlying23 ax x.length cx rfl ?_)
 refine sp (.bool (decide ((k : Int) < x.length))) ?_
 refine qw (t_n ?_)
 refine qV (decide ((k : Int) < x.length)) rfl (fun h4 => ?_) (fun h4 => ?_)
 ·skip
  replace h4 := of_decide_eq_true h4
  refine xh (t_n (qm (xu (qm (qy ?_)))))
  refine sps [.slice ax x.length cx, .int .i64 k] ?_
  obtain ⟨b5, o6, rfl⟩ := H.addr 0 rfl (by omega)
  obtain ⟨ae7Need, ce7Need, Fe7Need, ae7Have, ce7Have, Fe7Have, ae7Lack, ce7Lack, Fe7Lack, ae7Here, ce7Here, Fe7Here, ae7Out, ce7Out, Fe7Out, ae7Into, ce7Into, Fe7Into, H⟩ := H.yE 0 rfl k k (by omega) (by omega) (by omega)
  refine sw (xJ k Tryz.underlying23 ti105 rfl rfl (by omega) (by omega) ?_)
  refine sw (zi [.int .i64 ((x[k]!).qA), .int .i64 ((x[k]!).xZ), .slice ae7Need (((x[k]!).qW).length) ce7Need, .slice ae7Have (((x[k]!).xg).length) ce7Have, .slice ae7Lack (((x[k]!).xk).length) ce7Lack, .slice ae7Here (((x[k]!).xw).length) ce7Here, .slice ae7Out (((x[k]!).zf).length) ce7Out, .slice ae7Into (((x[k]!).qB).length) ce7Into, .bool ((x[k]!).xP)] Tryz.isAgg105 Tryz.sizeOf105 rfl (qG (H.get 6 rfl) 0 9) ?_)
  refine sp (.int .i64 r) ?_
  refine sw (xf #[.agg #[.int .i64 ((x[k]!).qA), .int .i64 ((x[k]!).xZ), .slice ae7Need (((x[k]!).qW).length) ce7Need, .slice ae7Have (((x[k]!).xg).length) ce7Have, .slice ae7Lack (((x[k]!).xk).length) ce7Lack, .slice ae7Here (((x[k]!).xw).length) ce7Here, .slice ae7Out (((x[k]!).zf).length) ce7Out, .slice ae7Into (((x[k]!).qB).length) ce7Into, .bool ((x[k]!).xP)], .int .i64 r] rfl rfl Tryz.call82 (szRule_ok w3 (x[k]!) r ae7Need ce7Need Fe7Need ae7Have ce7Have Fe7Have ae7Lack ce7Lack Fe7Lack ae7Here ce7Here Fe7Here ae7Out ce7Out Fe7Out ae7Into ce7Into Fe7Into (H.get 0 rfl).1 (H.get 1 rfl).1 (H.get 2 rfl).1 (H.get 3 rfl).1 (H.get 4 rfl).1 (H.get 5 rfl).1 (by omega)) ?_)
  rintro _ w8 rfl x9
  replace H := H.ext x9
  have := zo (tot (x[k]!)) r
  refine sp (.int .i64 (szR (tot (x[k]!)) r)) ?_
  refine qw (t_n (qm (qy ?_)))
  refine sps [.int .i64 (szR (tot (x[k]!)) r), .bool (decide ((szR (tot (x[k]!)) r : Int) < 0))] ?_
  refine qw (t_n ?_)
  refine qV (decide ((szR (tot (x[k]!)) r : Int) < 0)) rfl (fun h10 => ?_) (fun h10 => ?_)
  ·skip
   replace h10 := of_decide_eq_true h10
   refine qm (qy ?_)
   refine sp (.int .i64 (-1)) ?_
   refine qw (t_n (xx (b_r (t_r (t_r (b_r (t_r ?_)))))))
   refine ret1 (.int .i64 (-1)) rfl rfl ⟨_, rfl, ?_, H.base⟩
   refine congrArg (Value.int .i64) ?_
   have := zo (tot x) left
   have := tot_get (l := x) (k := k) (by omega)
   omega
  replace h10 := of_decide_eq_false h10
  refine xh (b_n (t_n (qy ?_)))
  refine sp (.int .i64 k) ?_
  refine sw (zJ k 1 rfl rfl (by omega) ?_)
  refine sp (.int .i64 (k + 1)) ?_
  refine qw ?_
  refine xF (m' := x.length - (k + 1)) (by omega) ⟨_, k + 1, szR (tot (x[k]!)) r, (by exact qj (qj (qj (rfl) rfl) rfl) rfl), ?_, ?_, ?_, rfl, H.sel _ (.refl _) _ (by simp)⟩
  · omega
  · rw [totTo_succ]; omega
  · omega
 replace h4 := of_decide_eq_false h4
 refine zy (t_x (t_x (b_x (t_n (qm (qy ?_))))))
 refine sps [.int .i64 r, .int .i64 r] ?_
 refine qw (t_n (xx ?_))
 refine ret1 (.int .i64 r) rfl rfl ⟨_, rfl, ?_, H.base⟩
 refine congrArg (Value.int .i64) ?_
 obtain rfl : k = x.length := by omega
 have := zo (tot x) left
 rw [tot_list] at *
 omega

theorem szSystem_ok (w : World) (x : qU) (left : Int) (zA : Option Addr) (zx : Nat) (jI : List Nat) (vT : Option Addr) (vS : Nat) (QV : List Nat) (Qs : qQ.rep w jI [.slice zA x.qf.length zx] x.qf) (Ve : qQ.rep w QV [.slice vT x.qg.length vS] x.qg) (p0 : 0 ≤ left ∧ left ≤ 2000000) : Calls Tryz.prog 8 #[.agg #[.int .i64 x.qI, .slice zA x.qf.length zx, .slice vT x.qg.length vS], .int .i64 left] w (Ret (fun v w' => v = .int .i64 (szR (tot x) left)) w) := by
 refine enter (n := 18) Tryz.func8 rfl Tryz.ntmps8 (Nat.le_of_ble_eq_true rfl) ?_
 have H := ((St.start w).arg Ve).arg Qs
 have nhxParents := qJ Qs
 have nhxRules := qJ Ve
 clear Qs Ve
 refine qm (qy ?_)
 refine sw (o_box H (.agg #[.int .i64 x.qI, .slice zA x.qf.length zx, .slice vT x.qg.length vS]) rfl fun b1 w2 H => ?_)
 replace H : St _ _ [.box b1 [.int .i64 x.qI, .slice zA x.qf.length zx, .slice vT x.qg.length vS] 25] _ := H
 refine sp (.int .i64 0) ?_
 refine qw (t_n (qm (qy ?_)))
 refine sw (qM b1 (0) 1 Tryz.underlying25 rfl rfl Tryz.sizeOf22 rfl ?_)
 refine sw (qE (.slice zA x.qf.length zx) Tryz.isAgg22 rfl (H.cell 0 rfl rfl) ?_)
 refine sp (.int .i64 left) ?_
 refine sw (xf #[.slice zA x.qf.length zx, .int .i64 left] rfl rfl Tryz.call38 (Xn w2 x.qf left zA zx jI (H.get 0 rfl).1 (by omega)) ?_)
 rintro _ w3 rfl x4
 replace H := H.ext x4
 have := zo (tot x.qf) left
 refine sp (.int .i64 (szR (tot x.qf) left)) ?_
 refine qw (t_n (qm (qm (qy ?_))))
 refine sps [.int .i64 (szR (tot x.qf) left), .bool (decide ((szR (tot x.qf) left : Int) < 0))] ?_
 refine qw (t_n ?_)
 refine qV (decide ((szR (tot x.qf) left : Int) < 0)) rfl (fun h5 => ?_) (fun h5 => ?_)
 ·skip
  replace h5 := of_decide_eq_true h5
  refine qm (qy ?_)
  refine sp (.int .i64 (-1)) ?_
  refine qw (t_n (xx (t_r ?_)))
  refine ret1 (.int .i64 (-1)) rfl rfl ⟨_, rfl, ?_, H.base⟩
  refine congrArg (Value.int .i64) ?_
  have := zo (tot x) left
  rw [tot_SystemD] at *
  try omega
 replace h5 := of_decide_eq_false h5
 refine xh (t_n (qm (qy ?_)))
 refine sw (qM b1 (0) 2 Tryz.underlying25 rfl rfl Tryz.sizeOf23 rfl ?_)
 refine sw (qE (.slice vT x.qg.length vS) Tryz.isAgg23 rfl (H.cell 0 rfl rfl) ?_)
 refine sp (.int .i64 (szR (tot x.qf) left)) ?_
 refine sw (xf #[.slice vT x.qg.length vS, .int .i64 (szR (tot x.qf) left)] rfl rfl Tryz.call39 (szRuleS_ok w3 x.qg (szR (tot x.qf) left) vT vS QV (H.get 1 rfl).1 (by omega)) ?_)
 rintro _ w6 rfl x7
 replace H := H.ext x7
 have := zo (tot x.qg) (szR (tot x.qf) left)
 refine sp (.int .i64 (szR (tot x.qg) (szR (tot x.qf) left))) ?_
 refine qw (t_n (qm (qm (qy ?_))))
 refine sps [.int .i64 (szR (tot x.qg) (szR (tot x.qf) left)), .bool (decide ((szR (tot x.qg) (szR (tot x.qf) left) : Int) < 0))] ?_
 refine qw (t_n ?_)
 refine qV (decide ((szR (tot x.qg) (szR (tot x.qf) left) : Int) < 0)) rfl (fun h8 => ?_) (fun h8 => ?_)
 ·skip
  replace h8 := of_decide_eq_true h8
  refine qm (qy ?_)
  refine sp (.int .i64 (-1)) ?_
  refine qw (t_n (xx (t_r ?_)))
  refine ret1 (.int .i64 (-1)) rfl rfl ⟨_, rfl, ?_, H.base⟩
  refine congrArg (Value.int .i64) ?_
  have := zo (tot x) left
  rw [tot_SystemD] at *
  try omega
 replace h8 := of_decide_eq_false h8
 refine xh (t_n (qm (qy ?_)))
 refine sps [.int .i64 (szR (tot x.qg) (szR (tot x.qf) left)), .int .i64 (szR (tot x.qg) (szR (tot x.qf) left))] ?_
 refine qw (t_n (xx ?_))
 refine ret1 (.int .i64 (szR (tot x.qg) (szR (tot x.qf) left))) rfl rfl ⟨_, rfl, ?_, H.base⟩
 refine congrArg (Value.int .i64) ?_
 have := zo (tot x) left
 rw [tot_SystemD] at *
 try omega

theorem szState_ok (w : World) (x : qP) (left : Int) (vN : Option Addr) (vM : Nat) (QJ : List Nat) (jL : Option Addr) (jK : Nat) (XK : List Nat) (zS : Option Addr) (zO : Nat) (yx : List Nat) (Vf : qQ.rep w QJ [.slice vN x.qh.length vM] x.qh) (hxBags : qQ.rep w XK [.slice jL x.qx.length jK] x.qx) (Xa : qQ.rep w yx [.slice zS x.ql.length zO] x.ql) (p0 : 0 ≤ left ∧ left ≤ 2000000) : Calls Tryz.prog 9 #[.agg #[.slice vN x.qh.length vM, .slice jL x.qx.length jK, .slice zS x.ql.length zO], .int .i64 left] w (Ret (fun v w' => v = .int .i64 (szR (tot x) left)) w) := by
 refine enter (n := 24) Tryz.func9 rfl Tryz.ntmps9 (Nat.le_of_ble_eq_true rfl) ?_
 have H := (((St.start w).arg Xa).arg hxBags).arg Vf
 have nhxAlive := qJ Vf
 have nhxBags := qJ hxBags
 have nhxAround := qJ Xa
 clear Vf hxBags Xa
 refine qm (qy ?_)
 refine sw (o_box H (.agg #[.slice vN x.qh.length vM, .slice jL x.qx.length jK, .slice zS x.ql.length zO]) rfl fun b1 w2 H => ?_)
 replace H : St _ _ [.box b1 [.slice vN x.qh.length vM, .slice jL x.qx.length jK, .slice zS x.ql.length zO] 29] _ := H
 refine sp (.int .i64 0) ?_
 refine qw (t_n (qm (qy ?_)))
 refine sw (qM b1 (0) 0 Tryz.underlying29 rfl rfl Tryz.sizeOf26 rfl ?_)
 refine sw (qE (.slice vN x.qh.length vM) Tryz.isAgg26 rfl (H.cell 0 rfl rfl) ?_)
 refine sp (.int .i64 left) ?_
 refine sw (xf #[.slice vN x.qh.length vM, .int .i64 left] rfl rfl Tryz.call40 (szBoolS_ok w2 x.qh left vN vM QJ (H.get 0 rfl).1 (by omega)) ?_)
 rintro _ w3 rfl x4
 replace H := H.ext x4
 have := zo (tot x.qh) left
 refine sp (.int .i64 (szR (tot x.qh) left)) ?_
 refine qw (t_n (qm (qm (qy ?_))))
 refine sps [.int .i64 (szR (tot x.qh) left), .bool (decide ((szR (tot x.qh) left : Int) < 0))] ?_
 refine qw (t_n ?_)
 refine qV (decide ((szR (tot x.qh) left : Int) < 0)) rfl (fun h5 => ?_) (fun h5 => ?_)
 ·skip
  replace h5 := of_decide_eq_true h5
  refine qm (qy ?_)
  refine sp (.int .i64 (-1)) ?_
  refine qw (t_n (xx (t_r ?_)))
  refine ret1 (.int .i64 (-1)) rfl rfl ⟨_, rfl, ?_, H.base⟩
  refine congrArg (Value.int .i64) ?_
  have := zo (tot x) left
  rw [tot_StateD] at *
  try omega
 replace h5 := of_decide_eq_false h5
 refine xh (t_n (qm (qy ?_)))
 refine sw (qM b1 (0) 1 Tryz.underlying29 rfl rfl Tryz.sizeOf27 rfl ?_)
 refine sw (qE (.slice jL x.qx.length jK) Tryz.isAgg27 rfl (H.cell 0 rfl rfl) ?_)
 refine sp (.int .i64 (szR (tot x.qh) left)) ?_
 refine sw (xf #[.slice jL x.qx.length jK, .int .i64 (szR (tot x.qh) left)] rfl rfl Tryz.call29 (szInt64SS_ok w3 x.qx (szR (tot x.qh) left) jL jK XK (H.get 1 rfl).1 (by omega)) ?_)
 rintro _ w6 rfl x7
 replace H := H.ext x7
 have := zo (tot x.qx) (szR (tot x.qh) left)
 refine sp (.int .i64 (szR (tot x.qx) (szR (tot x.qh) left))) ?_
 refine qw (t_n (qm (qm (qy ?_))))
 refine sps [.int .i64 (szR (tot x.qx) (szR (tot x.qh) left)), .bool (decide ((szR (tot x.qx) (szR (tot x.qh) left) : Int) < 0))] ?_
 refine qw (t_n ?_)
 refine qV (decide ((szR (tot x.qx) (szR (tot x.qh) left) : Int) < 0)) rfl (fun h8 => ?_) (fun h8 => ?_)
 ·skip
  replace h8 := of_decide_eq_true h8
  refine qm (qy ?_)
  refine sp (.int .i64 (-1)) ?_
  refine qw (t_n (xx (t_r ?_)))
  refine ret1 (.int .i64 (-1)) rfl rfl ⟨_, rfl, ?_, H.base⟩
  refine congrArg (Value.int .i64) ?_
  have := zo (tot x) left
  rw [tot_StateD] at *
  try omega
 replace h8 := of_decide_eq_false h8
 refine xh (t_n (qm (qy ?_)))
 refine sw (qM b1 (0) 2 Tryz.underlying29 rfl rfl Tryz.sizeOf22 rfl ?_)
 refine sw (qE (.slice zS x.ql.length zO) Tryz.isAgg22 rfl (H.cell 0 rfl rfl) ?_)
 refine sp (.int .i64 (szR (tot x.qx) (szR (tot x.qh) left))) ?_
 refine sw (xf #[.slice zS x.ql.length zO, .int .i64 (szR (tot x.qx) (szR (tot x.qh) left))] rfl rfl Tryz.call38 (Xn w6 x.ql (szR (tot x.qx) (szR (tot x.qh) left)) zS zO yx (H.get 2 rfl).1 (by omega)) ?_)
 rintro _ w9 rfl x10
 replace H := H.ext x10
 have := zo (tot x.ql) (szR (tot x.qx) (szR (tot x.qh) left))
 refine sp (.int .i64 (szR (tot x.ql) (szR (tot x.qx) (szR (tot x.qh) left)))) ?_
 refine qw (t_n (qm (qm (qy ?_))))
 refine sps [.int .i64 (szR (tot x.ql) (szR (tot x.qx) (szR (tot x.qh) left))), .bool (decide ((szR (tot x.ql) (szR (tot x.qx) (szR (tot x.qh) left)) : Int) < 0))] ?_
 refine qw (t_n ?_)
 refine qV (decide ((szR (tot x.ql) (szR (tot x.qx) (szR (tot x.qh) left)) : Int) < 0)) rfl (fun h11 => ?_) (fun h11 => ?_)
 ·skip
  replace h11 := of_decide_eq_true h11
  refine qm (qy ?_)
  refine sp (.int .i64 (-1)) ?_
  refine qw (t_n (xx (t_r ?_)))
  refine ret1 (.int .i64 (-1)) rfl rfl ⟨_, rfl, ?_, H.base⟩
  refine congrArg (Value.int .i64) ?_
  have := zo (tot x) left
  rw [tot_StateD] at *
  try omega
 replace h11 := of_decide_eq_false h11
 refine xh (t_n (qm (qy ?_)))
 refine sps [.int .i64 (szR (tot x.ql) (szR (tot x.qx) (szR (tot x.qh) left))), .int .i64 (szR (tot x.ql) (szR (tot x.qx) (szR (tot x.qh) left)))] ?_
 refine qw (t_n (xx ?_))
 refine ret1 (.int .i64 (szR (tot x.ql) (szR (tot x.qx) (szR (tot x.qh) left)))) rfl rfl ⟨_, rfl, ?_, H.base⟩
 refine congrArg (Value.int .i64) ?_
 have := zo (tot x) left
 rw [tot_StateD] at *
 try omega

theorem Xm (w : World) (x : List Int) (ax : Option Addr) (cx : Nat) (Fx : List Nat) (hx : qQ.rep w Fx [.slice ax x.length cx] x) (p0 : tot x ≤ 2000000) : Calls Tryz.prog 25 #[.slice ax x.length cx] w (Ret (fun v w' => OwnNew w w' 2 v x) w) := by
 refine enter (n := 22) Tryz.func25 rfl Tryz.ntmps25 (Nat.le_of_ble_eq_true rfl) ?_
 have H := (St.start w).arg hx
 have nhx := qJ hx
 clear hx
 have p1 := len_tot x
 refine qm (qy ?_)
 refine sp (.slice none 0 0) ?_
 refine qw (t_n (qm (qy ?_)))
 refine sp (.slice ax x.length cx) ?_
 refine sw (zD Tryz.underlying22 ax x.length cx rfl ?_)
 refine sw (o_make1 H Tryz.underlying22 ti2 rfl x.length rfl rfl (by omega) (by omega) fun b1 w2 H => ?_)
 replace H : St _ _ [.box b1 (List.replicate x.length (.int .i64 0)) 2] _ := H
 refine sp (.slice (aa b1 0) x.length x.length) ?_
 refine qw (t_n (qm (qm (qy ?_))))
 refine sp (.int .i64 0) ?_
 refine qw (t_n (xu ?_))
 refine zG (fun m' ρ w3 => ∃ (junk : Env) (k : Nat), ρ = upd (upd (upd (upd junk 0 (.slice ax x.length cx)) 2 (.slice none 0 0)) 3 (.slice (aa b1 0) x.length x.length)) 4 (.int .i64 k) ∧ (k ≤ x.length) ∧ m' = x.length - k ∧ St w w3 [.box b1 ((x.take k).map (Value.int .i64) ++ List.replicate (x.length - (k)) (.int .i64 0)) 2] [isF false Fx (.slice ax x.length cx) x]) (x.length - 0) ⟨_, 0, (by exact qj (qj (qj (qj (rfl) rfl) rfl) rfl) rfl), (by omega), rfl, H⟩ ?_
 clear H
 rintro m' ρ w4 ⟨junk, k, rfl, i0, rfl, H⟩
 refine qm (qm (qy ?_))
 refine sps [.int .i64 k, .slice ax x.length cx] ?_
 refine sw (zD Tryz.underlying22 ax x.length cx rfl ?_)
 refine sp (.bool (decide ((k : Int) < x.length))) ?_
 refine qw (t_n ?_)
 refine qV (decide ((k : Int) < x.length)) rfl (fun h5 => ?_) (fun h5 => ?_)
 ·skip
  replace h5 := of_decide_eq_true h5
  refine xh (t_n (qm (xu (qy ?_))))
  refine sps [.slice (aa b1 0) x.length x.length, .int .i64 k, .slice ax x.length cx, .int .i64 k] ?_
  obtain ⟨b6, o7, rfl⟩ := H.addr 0 rfl (by omega)
  refine sw (xJ k Tryz.underlying22 ti2 rfl rfl (by omega) (by omega) ?_)
  refine sw (qE (.int .i64 (x[k]!)) Tryz.isAgg2 rfl (H.vP 0 rfl k (by omega) (by omega)) ?_)
  refine sw (xJ k Tryz.underlying22 ti2 rfl rfl (by omega) (by omega) ?_)
  refine sw (yw H 0 rfl (.int .i64 (x[k]!)) Tryz.sizeOf2 rfl rfl rfl (by simp only [List.length_append, List.length_replicate]; have : ((x.take k).map (Value.int .i64)).length = k := (by (simp; omega)); omega) fun w9 H => ?_)
  rw [fill_set (k := k) (by (simp; omega)) (by simp) (by omega)] at H
  replace H : St _ _ [.box b1 ((x.take k).map (Value.int .i64) ++ [.int .i64 (x[k]!)] ++ List.replicate (x.length - (k + 1)) (.int .i64 0)) 2] _ := H
  refine qw (b_n (t_n (qy ?_)))
  refine sp (.int .i64 k) ?_
  refine sw (zJ k 1 rfl rfl (by omega) ?_)
  refine sp (.int .i64 (k + 1)) ?_
  refine qw ?_
  rw [show (x.take k).map (Value.int .i64) ++ [.int .i64 (x[k]!)] = (x.take (k + 1)).map (Value.int .i64) from by exact map_take_snoc _ (by omega)] at H
  refine xF (m' := x.length - (k + 1)) (by omega) ⟨_, k + 1, (by exact qj (qj (qj (qj (rfl) rfl) rfl) rfl) rfl), ?_, rfl, H⟩
  · omega
 replace h5 := of_decide_eq_false h5
 refine zy (t_x (t_x (b_x (t_n (qm (qy ?_))))))
 refine sps [.slice (aa b1 0) x.length x.length, .slice (aa b1 0) x.length x.length] ?_
 refine qw (t_n (xx ?_))
 refine ret1 (.slice (aa b1 0) x.length x.length) rfl rfl ⟨_, rfl, ?_, H.base⟩
 rw [List.take_of_length_le (by omega : x.length ≤ k)] at H
 rw [fill_end1 (by omega)] at H
 replace H := H.boxRow 0 rfl 1 x.length (by (first | omega | (simp; done) | (simp; omega))) (by unfold maxLen; omega)
 exact H.newInts 0 rfl (by omega)

theorem toBoolS_ok (w : World) (x : List Bool) (ax : Option Addr) (cx : Nat) (Fx : List Nat) (hx : qQ.rep w Fx [.slice ax x.length cx] x) (p0 : tot x ≤ 2000000) : Calls Tryz.prog 48 #[.slice ax x.length cx] w (Ret (fun v w' => OwnNew w w' 4 v x) w) := by
 refine enter (n := 22) Tryz.func48 rfl Tryz.ntmps48 (Nat.le_of_ble_eq_true rfl) ?_
 have H := (St.start w).arg hx
 have nhx := qJ hx
 clear hx
 have p1 := len_tot x
 refine qm (qy ?_)
 refine sp (.slice none 0 0) ?_
 refine qw (t_n (qm (qy ?_)))
 refine sp (.slice ax x.length cx) ?_
 refine sw (zD Tryz.underlying26 ax x.length cx rfl ?_)
 refine sw (o_make1 H Tryz.underlying26 ti4 rfl x.length rfl rfl (by omega) (by omega) fun b1 w2 H => ?_)
 replace H : St _ _ [.box b1 (List.replicate x.length (.bool false)) 4] _ := H
 refine sp (.slice (aa b1 0) x.length x.length) ?_
 refine qw (t_n (qm (qm (qy ?_))))
 refine sp (.int .i64 0) ?_
 refine qw (t_n (xu ?_))
 refine zG (fun m' ρ w3 => ∃ (junk : Env) (k : Nat), ρ = upd (upd (upd (upd junk 0 (.slice ax x.length cx)) 2 (.slice none 0 0)) 3 (.slice (aa b1 0) x.length x.length)) 4 (.int .i64 k) ∧ (k ≤ x.length) ∧ m' = x.length - k ∧ St w w3 [.box b1 ((x.take k).map (Value.bool) ++ List.replicate (x.length - (k)) (.bool false)) 4] [isF false Fx (.slice ax x.length cx) x]) (x.length - 0) ⟨_, 0, (by exact qj (qj (qj (qj (rfl) rfl) rfl) rfl) rfl), (by omega), rfl, H⟩ ?_
 clear H
 rintro m' ρ w4 ⟨junk, k, rfl, i0, rfl, H⟩
 refine qm (qm (qy ?_))
 refine sps [.int .i64 k, .slice ax x.length cx] ?_
 refine sw (zD Tryz.underlying26 ax x.length cx rfl ?_)
 refine sp (.bool (decide ((k : Int) < x.length))) ?_
 refine qw (t_n ?_)
 refine qV (decide ((k : Int) < x.length)) rfl (fun h5 => ?_) (fun h5 => ?_)
 ·skip
  replace h5 := of_decide_eq_true h5
  refine xh (t_n (qm (xu (qy ?_))))
  refine sps [.slice (aa b1 0) x.length x.length, .int .i64 k, .slice ax x.length cx, .int .i64 k] ?_
  obtain ⟨b6, o7, rfl⟩ := H.addr 0 rfl (by omega)
  refine sw (xJ k Tryz.underlying26 ti4 rfl rfl (by omega) (by omega) ?_)
  refine sw (qE (.bool (x[k]!)) Tryz.isAgg4 rfl (H.Qg 0 rfl k (by omega) (by omega)) ?_)
  refine sw (xJ k Tryz.underlying26 ti4 rfl rfl (by omega) (by omega) ?_)
  refine sw (yw H 0 rfl (.bool (x[k]!)) Tryz.sizeOf4 rfl rfl rfl (by simp only [List.length_append, List.length_replicate]; have : ((x.take k).map (Value.bool)).length = k := (by (simp; omega)); omega) fun w9 H => ?_)
  rw [fill_set (k := k) (by (simp; omega)) (by simp) (by omega)] at H
  replace H : St _ _ [.box b1 ((x.take k).map (Value.bool) ++ [.bool (x[k]!)] ++ List.replicate (x.length - (k + 1)) (.bool false)) 4] _ := H
  refine qw (b_n (t_n (qy ?_)))
  refine sp (.int .i64 k) ?_
  refine sw (zJ k 1 rfl rfl (by omega) ?_)
  refine sp (.int .i64 (k + 1)) ?_
  refine qw ?_
  rw [show (x.take k).map (Value.bool) ++ [.bool (x[k]!)] = (x.take (k + 1)).map (Value.bool) from by exact map_take_snoc _ (by omega)] at H
  refine xF (m' := x.length - (k + 1)) (by omega) ⟨_, k + 1, (by exact qj (qj (qj (qj (rfl) rfl) rfl) rfl) rfl), ?_, rfl, H⟩
  · omega
 replace h5 := of_decide_eq_false h5
 refine zy (t_x (t_x (b_x (t_n (qm (qy ?_))))))
 refine sps [.slice (aa b1 0) x.length x.length, .slice (aa b1 0) x.length x.length] ?_
 refine qw (t_n (xx ?_))
 refine ret1 (.slice (aa b1 0) x.length x.length) rfl rfl ⟨_, rfl, ?_, H.base⟩
 rw [List.take_of_length_le (by omega : x.length ≤ k)] at H
 rw [fill_end1 (by omega)] at H
 replace H := H.boxRow 0 rfl 1 x.length (by (first | omega | (simp; done) | (simp; omega))) (by unfold maxLen; omega)
 exact H.newBools 0 rfl (by omega)

theorem toInt64SS_ok (w : World) (x : List (List Int)) (ax : Option Addr) (cx : Nat) (Fx : List Nat) (hx : qQ.rep w Fx [.slice ax x.length cx] x) (p0 : tot x ≤ 2000000) : Calls Tryz.prog 31 #[.slice ax x.length cx] w (Ret (fun v w' => OwnNew w w' 22 v x) w) := by
 refine enter (n := 23) Tryz.func31 rfl Tryz.ntmps31 (Nat.le_of_ble_eq_true rfl) ?_
 have H := (St.start w).arg hx
 have nhx := qJ hx
 clear hx
 have p1 := len_tot x
 refine qm (qy ?_)
 refine sp (.slice none 0 0) ?_
 refine qw (t_n (qm (qy ?_)))
 refine sp (.slice ax x.length cx) ?_
 refine sw (zD Tryz.underlying27 ax x.length cx rfl ?_)
 refine sw (o_make1 H Tryz.underlying27 ti22 rfl x.length rfl rfl (by omega) (by omega) fun b1 w2 H => ?_)
 replace H : St _ _ [.box b1 (List.replicate x.length (.slice none 0 0)) 22] _ := H
 refine sp (.slice (aa b1 0) x.length x.length) ?_
 refine qw (t_n (qm (qm (qy ?_))))
 refine sp (.int .i64 0) ?_
 refine qw (t_n (xu ?_))
 replace H := H.Q5 (α := List Int)
 refine zG (fun m' ρ w3 => ∃ (junk : Env) (k : Nat) (xs3 : List Value) (Fr3 : List Nat), ρ = upd (upd (upd (upd junk 0 (.slice ax x.length cx)) 2 (.slice none 0 0)) 3 (.slice (aa b1 0) x.length x.length)) 4 (.int .i64 k) ∧ (k ≤ x.length) ∧ (xs3.length = k * 1) ∧ (∀ b ∈ Fr3, w.heap.size ≤ b) ∧ (Fr3.Nodup) ∧ m' = x.length - k ∧ St w w3 [.box b1 (xs3 ++ List.replicate (x.length - (k)) (.slice none 0 0)) 22] [vK true Fr3 xs3 (x.take k), isF false Fx (.slice ax x.length cx) x]) (x.length - 0) ⟨_, 0, [], [], (by exact qj (qj (qj (qj (rfl) rfl) rfl) rfl) rfl), (by omega), (by rfl), (by simp), (by simp), rfl, H⟩ ?_
 clear H
 rintro m' ρ w4 ⟨junk, k, xs3, Fr3, rfl, i0, hl3, nf3, nd3, rfl, H⟩
 have p2 := fun h => tot_get (l := x) (k := k) h
 refine qm (qm (qy ?_))
 refine sps [.int .i64 k, .slice ax x.length cx] ?_
 refine sw (zD Tryz.underlying27 ax x.length cx rfl ?_)
 refine sp (.bool (decide ((k : Int) < x.length))) ?_
 refine qw (t_n ?_)
 refine qV (decide ((k : Int) < x.length)) rfl (fun h5 => ?_) (fun h5 => ?_)
 ·skip
  replace h5 := of_decide_eq_true h5
  refine xh (t_n (qm (xu (qy ?_))))
  refine sps [.slice (aa b1 0) x.length x.length, .int .i64 k, .slice ax x.length cx, .int .i64 k] ?_
  obtain ⟨b6, o7, rfl⟩ := H.addr 1 rfl (by omega)
  obtain ⟨ae8, ce8, Fe8, H⟩ := H.jC 1 rfl k k (by omega) (by omega) (by omega)
  refine sw (xJ k Tryz.underlying27 ti22 rfl rfl (by omega) (by omega) ?_)
  refine sw (qE (.slice ae8 ((x[k]!).length) ce8) Tryz.isAgg22 rfl (H.xR 1 rfl 0 rfl) ?_)
  have szx10 := H.base.size
  have lt11 := H.repsLt 2 rfl
  refine sw (xf #[.slice ae8 ((x[k]!).length) ce8] rfl rfl Tryz.call25 (Xm w4 (x[k]!) ae8 ce8 Fe8 (H.get 0 rfl).1 (by first | omega | (have := p2 (by omega); omega))) ?_)
  rintro v12 w9 r12 x10
  obtain ⟨a12, c12, F12, rfl, f12, H⟩ := H.add_is x10 r12.isNew
  have d12 := f12.2
  have q12 := f12.1
  replace f12 : ∀ b ∈ F12, w.heap.size ≤ b := fun b hb => Nat.le_trans szx10 (f12.1 b hb)
  refine sw (xJ k Tryz.underlying27 ti22 rfl rfl (by omega) (by omega) ?_)
  refine sw (yw H 0 rfl (.slice a12 ((x[k]!).length) c12) Tryz.sizeOf22 rfl rfl rfl (by simp only [List.length_append, List.length_replicate]; have : (xs3).length = k := (by (omega)); omega) fun w14 H => ?_)
  rw [fill_set (k := k) (by (omega)) (by simp) (by omega)] at H
  replace H : St _ _ [.box b1 (xs3 ++ [.slice a12 ((x[k]!).length) c12] ++ List.replicate (x.length - (k + 1)) (.slice none 0 0)) 22] _ := H
  refine qw (b_n (t_n (qy ?_)))
  refine sp (.int .i64 k) ?_
  refine sw (zJ k 1 rfl rfl (by omega) ?_)
  refine sp (.int .i64 (k + 1)) ?_
  refine qw ?_
  replace H := H.XO 3 rfl 0 rfl
  rw [show (x.take k) ++ [(x[k]!)] = x.take (k + 1) from by exact take_snoc (by omega)] at H
  refine xF (m' := x.length - (k + 1)) (by omega) ⟨_, k + 1, (xs3 ++ [.slice a12 ((x[k]!).length) c12]), (Fr3 ++ F12), (by exact qj (qj (qj (qj (rfl) rfl) rfl) rfl) rfl), ?_, ?_, ?_, ?_, rfl, H.sel _ (.refl _) _ (by simp)⟩
  · omega
  · first | (simp only [List.length_append, List.length_cons, List.length_nil]; omega) | (simp [hl3]; done) | (simp; omega)
  · exact Xf nf3 f12
  · exact Xe nd3 d12 lt11 q12
 replace h5 := of_decide_eq_false h5
 refine zy (t_x (t_x (b_x (t_n (qm (qy ?_))))))
 refine sps [.slice (aa b1 0) x.length x.length, .slice (aa b1 0) x.length x.length] ?_
 refine qw (t_n (xx ?_))
 refine ret1 (.slice (aa b1 0) x.length x.length) rfl rfl ⟨_, rfl, ?_, H.base⟩
 rw [List.take_of_length_le (by omega : x.length ≤ k)] at H
 rw [fill_end1 (by omega)] at H
 replace H := H.boxRow 0 rfl 1 x.length (by omega) (by unfold maxLen; omega)
 exact H.newRow 0 rfl 0 rfl (by omega) (by assumption) (by assumption)

theorem toInto_ok (w : World) (x : IntoD) (axBag : Option Addr) (cxBag : Nat) (FxBag : List Nat) (hxBag : qQ.rep w FxBag [.slice axBag x.zW.length cxBag] x.zW) (p0 : tot x ≤ 2000000) : Calls Tryz.prog 161 #[.agg #[.int .i64 x.qA, .slice axBag x.zW.length cxBag]] w (Ret (fun v w' => New_IntoD w w' v x) w) := by
 refine enter (n := 12) Tryz.func161 rfl Tryz.ntmps161 (Nat.le_of_ble_eq_true rfl) ?_
 have H := (St.start w).arg hxBag
 have nhxBag := qJ hxBag
 clear hxBag
 have p1 := tot_IntoD x
 refine qm (qy ?_)
 refine sw (o_box H (.agg #[.int .i64 x.qA, .slice axBag x.zW.length cxBag]) rfl fun b1 w2 H => ?_)
 replace H : St _ _ [.box b1 [.int .i64 x.qA, .slice axBag x.zW.length cxBag] 167] _ := H
 refine sw (o_alloc H ti115 fun b3 w4 H => ?_)
 replace H : St _ _ [.box b3 [.int .i64 0, .slice none 0 0] 115, .box b1 [.int .i64 x.qA, .slice axBag x.zW.length cxBag] 167] _ := H
 refine qw (t_n (qm (qy ?_)))
 refine sw (o_alloc H ti115 fun b5 w6 H => ?_)
 replace H : St _ _ [.box b5 [.int .i64 0, .slice none 0 0] 115, .box b3 [.int .i64 0, .slice none 0 0] 115, .box b1 [.int .i64 x.qA, .slice axBag x.zW.length cxBag] 167] _ := H
 refine qw (t_n (qm (qy ?_)))
 refine sw (qM b1 (0) 0 Tryz.underlying167 rfl rfl Tryz.sizeOf2 rfl ?_)
 refine sw (qE (.int .i64 x.qA) Tryz.isAgg2 rfl (H.cell 2 rfl rfl) ?_)
 refine sw (qM b5 (0) 0 Tryz.underlying115 rfl rfl Tryz.sizeOf2 rfl ?_)
 refine sw (yw H 0 rfl (.int .i64 x.qA) Tryz.sizeOf2 rfl rfl rfl (Nat.le_of_ble_eq_true rfl) fun w7 H => ?_)
 replace H : St _ _ [.box b5 [.int .i64 x.qA, .slice none 0 0] 115, .box b3 [.int .i64 0, .slice none 0 0] 115, .box b1 [.int .i64 x.qA, .slice axBag x.zW.length cxBag] 167] _ := H
 refine qw (t_n (qm (qy ?_)))
 refine sw (qM b1 (0) 1 Tryz.underlying167 rfl rfl Tryz.sizeOf22 rfl ?_)
 refine sw (qE (.slice axBag x.zW.length cxBag) Tryz.isAgg22 rfl (H.cell 2 rfl rfl) ?_)
 have szx9 := H.base.size
 refine sw (xf #[.slice axBag x.zW.length cxBag] rfl rfl Tryz.call25 (Xm w7 x.zW axBag cxBag FxBag (H.get 0 rfl).1 (by first | omega | (have := p2 (by omega); omega))) ?_)
 rintro v10 w8 r10 x9
 obtain ⟨a10, c10, F10, rfl, f10, H⟩ := H.add_is x9 r10.isNew
 have d10 := f10.2
 have q10 := f10.1
 replace f10 : ∀ b ∈ F10, w.heap.size ≤ b := fun b hb => Nat.le_trans szx9 (f10.1 b hb)
 refine sw (qM b5 (0) 1 Tryz.underlying115 rfl rfl Tryz.sizeOf22 rfl ?_)
 refine sw (yw H 0 rfl (.slice a10 x.zW.length c10) Tryz.sizeOf22 rfl rfl rfl (Nat.le_of_ble_eq_true rfl) fun w11 H => ?_)
 replace H : St _ _ [.box b5 [.int .i64 x.qA, .slice a10 x.zW.length c10] 115, .box b3 [.int .i64 0, .slice none 0 0] 115, .box b1 [.int .i64 x.qA, .slice axBag x.zW.length cxBag] 167] _ := H
 refine qw (t_n (qm (qy ?_)))
 refine sw (zi [.int .i64 x.qA, .slice a10 x.zW.length c10] Tryz.isAgg115 Tryz.sizeOf115 rfl (qG (H.cells 0 rfl) 0 2) ?_)
 refine sw (o_store H 1 rfl (.agg #[.int .i64 x.qA, .slice a10 x.zW.length c10]) Tryz.sizeOf115 rfl rfl (by simp [Value.oneCell', Value.cells]) (Nat.le_of_ble_eq_true rfl) fun w12 H => ?_)
 replace H : St _ _ [.box b5 [.int .i64 x.qA, .slice a10 x.zW.length c10] 115, .box b3 [.int .i64 x.qA, .slice a10 x.zW.length c10] 115, .box b1 [.int .i64 x.qA, .slice axBag x.zW.length cxBag] 167] _ := H
 refine qw (t_n (xx ?_))
 refine retC H 1 rfl rfl Tryz.isAgg115 Tryz.sizeOf115 rfl ⟨_, rfl, ?_, H.base⟩
 exact ⟨_, _, _, rfl, (H.get 0 rfl).1, f10, d10, ((H.get 0 rfl).2 rfl)⟩

theorem toIntoS_ok (w : World) (x : List IntoD) (ax : Option Addr) (cx : Nat) (Fx : List Nat) (hx : qQ.rep w Fx [.slice ax x.length cx] x) (p0 : tot x ≤ 2000000) : Calls Tryz.prog 140 #[.slice ax x.length cx] w (Ret (fun v w' => OwnNew w w' 115 v x) w) := by
 refine enter (n := 23) Tryz.func140 rfl Tryz.ntmps140 (Nat.le_of_ble_eq_true rfl) ?_
 have H := (St.start w).arg hx
 have nhx := qJ hx
 clear hx
 have p1 := len_tot x
 refine qm (qy ?_)
 refine sp (.slice none 0 0) ?_
 refine qw (t_n (qm (qy ?_)))
 refine sp (.slice ax x.length cx) ?_
 refine sw (zD Tryz.underlying103 ax x.length cx rfl ?_)
 refine sw (o_makeN H Tryz.underlying108 ti115 rfl (by decide) x.length rfl rfl (by omega) (by omega) fun b1 w2 H => ?_)
 replace H : St _ _ [.box b1 ((List.replicate x.length [.int .i64 0, .slice none 0 0]).flatten) 115] _ := H
 refine sp (.slice (aa b1 0) x.length x.length) ?_
 refine qw (t_n (qm (qm (qy ?_))))
 refine sp (.int .i64 0) ?_
 refine qw (t_n (xu ?_))
 replace H := H.Q5 (α := IntoD)
 refine zG (fun m' ρ w3 => ∃ (junk : Env) (k : Nat) (xs3 : List Value) (Fr3 : List Nat), ρ = upd (upd (upd (upd junk 0 (.slice ax x.length cx)) 2 (.slice none 0 0)) 3 (.slice (aa b1 0) x.length x.length)) 4 (.int .i64 k) ∧ (k ≤ x.length) ∧ (xs3.length = k * 2) ∧ (∀ b ∈ Fr3, w.heap.size ≤ b) ∧ (Fr3.Nodup) ∧ m' = x.length - k ∧ St w w3 [.box b1 (xs3 ++ (List.replicate (x.length - (k)) [.int .i64 0, .slice none 0 0]).flatten) 115] [vK true Fr3 xs3 (x.take k), isF false Fx (.slice ax x.length cx) x]) (x.length - 0) ⟨_, 0, [], [], (by exact qj (qj (qj (qj (rfl) rfl) rfl) rfl) rfl), (by omega), (by rfl), (by simp), (by simp), rfl, H⟩ ?_
 clear H
 rintro m' ρ w4 ⟨junk, k, xs3, Fr3, rfl, i0, hl3, nf3, nd3, rfl, H⟩
 have p2 := fun h => tot_get (l := x) (k := k) h
 refine qm (qm (qy ?_))
 refine sps [.int .i64 k, .slice ax x.length cx] ?_
 refine sw (zD Tryz.underlying103 ax x.length cx rfl ?_)
 refine sp (.bool (decide ((k : Int) < x.length))) ?_
 refine qw (t_n ?_)
 refine qV (decide ((k : Int) < x.length)) rfl (fun h5 => ?_) (fun h5 => ?_)
 ·skip
  replace h5 := of_decide_eq_true h5
  refine xh (t_n (qm (xu (qy ?_))))
  refine sps [.slice (aa b1 0) x.length x.length, .int .i64 k, .slice ax x.length cx, .int .i64 k] ?_
  obtain ⟨b6, o7, rfl⟩ := H.addr 1 rfl (by omega)
  obtain ⟨ae8Bag, ce8Bag, Fe8Bag, H⟩ := H.jl 1 rfl k k (by omega) (by omega) (by omega)
  refine sw (xJ k Tryz.underlying103 ti167 rfl rfl (by omega) (by omega) ?_)
  refine sw (zi [.int .i64 ((x[k]!).qA), .slice ae8Bag (((x[k]!).zW).length) ce8Bag] Tryz.isAgg167 Tryz.sizeOf167 rfl (qG (H.get 1 rfl) 0 2) ?_)
  have szx10 := H.base.size
  have lt11 := H.repsLt 2 rfl
  refine sw (xf #[.agg #[.int .i64 ((x[k]!).qA), .slice ae8Bag (((x[k]!).zW).length) ce8Bag]] rfl rfl Tryz.call161 (toInto_ok w4 (x[k]!) ae8Bag ce8Bag Fe8Bag (H.get 0 rfl).1 (by omega)) ?_)
  rintro v12 w9 r12 x10
  obtain ⟨a12Bag, c12Bag, F12Bag, rfl, f12, H⟩ := H.add_IntoD x10 r12
  have d12 := f12.2
  have q12 := f12.1
  replace f12 : ∀ b ∈ F12Bag, w.heap.size ≤ b := fun b hb => Nat.le_trans szx10 (f12.1 b hb)
  refine sw (xJ k Tryz.underlying108 ti115 rfl rfl (by omega) (by omega) ?_)
  refine sw (o_store H 0 rfl (.agg #[.int .i64 ((x[k]!).qA), .slice a12Bag (((x[k]!).zW).length) c12Bag]) Tryz.sizeOf115 rfl rfl (by simp [Value.oneCell', Value.cells]) (by have : (xs3).length = k * 2 := (by (exact hl3)); simp [Value.cells]; have := fill_room (n := x.length) (k := k) (s := 2) (by omega); simp at this; omega) fun w14 H => ?_)
  replace H : St _ _ [.box b1 (xs3 ++ [.int .i64 ((x[k]!).qA), .slice a12Bag (((x[k]!).zW).length) c12Bag] ++ (List.replicate (x.length - (k + 1)) [.int .i64 0, .slice none 0 0]).flatten) 115] _ := (fill_put (vs := [.int .i64 ((x[k]!).qA), .slice a12Bag (((x[k]!).zW).length) c12Bag]) (zs := [.int .i64 0, .slice none 0 0]) (off := 0 + (k : Int).toNat * 2) (xs := xs3) (k := k) (s := 2) (n := x.length) (by (exact hl3)) (by simp) rfl rfl (by omega)) ▸ H
  replace H : St _ _ [.box b1 (xs3 ++ [.int .i64 ((x[k]!).qA), .slice a12Bag (((x[k]!).zW).length) c12Bag] ++ (List.replicate (x.length - (k + 1)) [.int .i64 0, .slice none 0 0]).flatten) 115] _ := H
  refine qw (b_n (t_n (qy ?_)))
  refine sp (.int .i64 k) ?_
  refine sw (zJ k 1 rfl rfl (by omega) ?_)
  refine sp (.int .i64 (k + 1)) ?_
  refine qw ?_
  replace H := H.snoc_IntoD 3 rfl ((x[k]!).qA) 0 rfl
  rw [show (x.take k) ++ [⟨(x[k]!).qA, (x[k]!).zW⟩] = x.take (k + 1) from by exact take_snoc (by omega)] at H
  refine xF (m' := x.length - (k + 1)) (by omega) ⟨_, k + 1, (xs3 ++ [.int .i64 ((x[k]!).qA), .slice a12Bag (((x[k]!).zW).length) c12Bag]), (Fr3 ++ F12Bag), (by exact qj (qj (qj (qj (rfl) rfl) rfl) rfl) rfl), ?_, ?_, ?_, ?_, rfl, H.sel _ (.refl _) _ (by simp)⟩
  · omega
  · first | (simp only [List.length_append, List.length_cons, List.length_nil]; omega) | (simp [hl3]; done) | (simp; omega)
  · exact Xf nf3 f12
  · exact Xe nd3 d12 lt11 q12
 replace h5 := of_decide_eq_false h5
 refine zy (t_x (t_x (b_x (t_n (qm (qy ?_))))))
 refine sps [.slice (aa b1 0) x.length x.length, .slice (aa b1 0) x.length x.length] ?_
 refine qw (t_n (xx ?_))
 refine ret1 (.slice (aa b1 0) x.length x.length) rfl rfl ⟨_, rfl, ?_, H.base⟩
 rw [List.take_of_length_le (by omega : x.length ≤ k)] at H
 rw [fill_endN (by omega)] at H
 replace H := H.boxRow 0 rfl 2 x.length (by omega) (by unfold maxLen; omega)
 exact H.newRow 0 rfl 0 rfl (by omega) (by assumption) (by assumption)

theorem toRule_ok (w : World) (x : QB) (yO : Option Addr) (yJ : Nat) (FxNeed : List Nat) (yS : Option Addr) (yN : Nat) (FxHave : List Nat) (yP : Option Addr) (yK : Nat) (FxLack : List Nat) (yR : Option Addr) (yM : Nat) (FxHere : List Nat) (XE : Option Addr) (XD : Nat) (FxOut : List Nat) (yQ : Option Addr) (yL : Nat) (FxInto : List Nat) (hxNeed : qQ.rep w FxNeed [.slice yO x.qW.length yJ] x.qW) (hxHave : qQ.rep w FxHave [.slice yS x.xg.length yN] x.xg) (hxLack : qQ.rep w FxLack [.slice yP x.xk.length yK] x.xk) (hxHere : qQ.rep w FxHere [.slice yR x.xw.length yM] x.xw) (hxOut : qQ.rep w FxOut [.slice XE x.zf.length XD] x.zf) (hxInto : qQ.rep w FxInto [.slice yQ x.qB.length yL] x.qB) (p0 : tot x ≤ 2000000) : Calls Tryz.prog 90 #[.agg #[.int .i64 x.qA, .int .i64 x.xZ, .slice yO x.qW.length yJ, .slice yS x.xg.length yN, .slice yP x.xk.length yK, .slice yR x.xw.length yM, .slice XE x.zf.length XD, .slice yQ x.qB.length yL, .bool x.xP]] w (Ret (fun v w' => New_RuleD w w' v x) w) := by
 refine enter (n := 38) Tryz.func90 rfl Tryz.ntmps90 (Nat.le_of_ble_eq_true rfl) ?_
 have H := ((((((St.start w).arg hxInto).arg hxOut).arg hxHere).arg hxLack).arg hxHave).arg hxNeed
 have nhxNeed := qJ hxNeed
 have nhxHave := qJ hxHave
 have nhxLack := qJ hxLack
 have nhxHere := qJ hxHere
 have nhxOut := qJ hxOut
 have nhxInto := qJ hxInto
 clear hxNeed hxHave hxLack hxHere hxOut hxInto
 have p1 := tot_RuleD x
 refine qm (qy ?_)
 refine sw (o_box H (.agg #[.int .i64 x.qA, .int .i64 x.xZ, .slice yO x.qW.length yJ, .slice yS x.xg.length yN, .slice yP x.xk.length yK, .slice yR x.xw.length yM, .slice XE x.zf.length XD, .slice yQ x.qB.length yL, .bool x.xP]) rfl fun b1 w2 H => ?_)
 replace H : St _ _ [.box b1 [.int .i64 x.qA, .int .i64 x.xZ, .slice yO x.qW.length yJ, .slice yS x.xg.length yN, .slice yP x.xk.length yK, .slice yR x.xw.length yM, .slice XE x.zf.length XD, .slice yQ x.qB.length yL, .bool x.xP] 105] _ := H
 refine sw (o_alloc H ti110 fun b3 w4 H => ?_)
 replace H : St _ _ [.box b3 [.int .i64 0, .int .i64 0, .slice none 0 0, .slice none 0 0, .slice none 0 0, .slice none 0 0, .slice none 0 0, .slice none 0 0, .bool false] 110, .box b1 [.int .i64 x.qA, .int .i64 x.xZ, .slice yO x.qW.length yJ, .slice yS x.xg.length yN, .slice yP x.xk.length yK, .slice yR x.xw.length yM, .slice XE x.zf.length XD, .slice yQ x.qB.length yL, .bool x.xP] 105] _ := H
 refine qw (t_n (qm (qy ?_)))
 refine sw (o_alloc H ti110 fun b5 w6 H => ?_)
 replace H : St _ _ [.box b5 [.int .i64 0, .int .i64 0, .slice none 0 0, .slice none 0 0, .slice none 0 0, .slice none 0 0, .slice none 0 0, .slice none 0 0, .bool false] 110, .box b3 [.int .i64 0, .int .i64 0, .slice none 0 0, .slice none 0 0, .slice none 0 0, .slice none 0 0, .slice none 0 0, .slice none 0 0, .bool false] 110, .box b1 [.int .i64 x.qA, .int .i64 x.xZ, .slice yO x.qW.length yJ, .slice yS x.xg.length yN, .slice yP x.xk.length yK, .slice yR x.xw.length yM, .slice XE x.zf.length XD, .slice yQ x.qB.length yL, .bool x.xP] 105] _ := H
 refine qw (t_n (qm (qy ?_)))
 refine sw (qM b1 (0) 0 Tryz.underlying105 rfl rfl Tryz.sizeOf2 rfl ?_)
 refine sw (qE (.int .i64 x.qA) Tryz.isAgg2 rfl (H.cell 2 rfl rfl) ?_)
 refine sw (qM b5 (0) 0 Tryz.underlying110 rfl rfl Tryz.sizeOf2 rfl ?_)
 refine sw (yw H 0 rfl (.int .i64 x.qA) Tryz.sizeOf2 rfl rfl rfl (Nat.le_of_ble_eq_true rfl) fun w7 H => ?_)
 replace H : St _ _ [.box b5 [.int .i64 x.qA, .int .i64 0, .slice none 0 0, .slice none 0 0, .slice none 0 0, .slice none 0 0, .slice none 0 0, .slice none 0 0, .bool false] 110, .box b3 [.int .i64 0, .int .i64 0, .slice none 0 0, .slice none 0 0, .slice none 0 0, .slice none 0 0, .slice none 0 0, .slice none 0 0, .bool false] 110, .box b1 [.int .i64 x.qA, .int .i64 x.xZ, .slice yO x.qW.length yJ, .slice yS x.xg.length yN, .slice yP x.xk.length yK, .slice yR x.xw.length yM, .slice XE x.zf.length XD, .slice yQ x.qB.length yL, .bool x.xP] 105] _ := H
 refine qw (t_n (qm (qy ?_)))
 refine sw (qM b1 (0) 1 Tryz.underlying105 rfl rfl Tryz.sizeOf2 rfl ?_)
 refine sw (qE (.int .i64 x.xZ) Tryz.isAgg2 rfl (H.cell 2 rfl rfl) ?_)
 refine sw (qM b5 (0) 1 Tryz.underlying110 rfl rfl Tryz.sizeOf2 rfl ?_)
 refine sw (yw H 0 rfl (.int .i64 x.xZ) Tryz.sizeOf2 rfl rfl rfl (Nat.le_of_ble_eq_true rfl) fun w8 H => ?_)
 replace H : St _ _ [.box b5 [.int .i64 x.qA, .int .i64 x.xZ, .slice none 0 0, .slice none 0 0, .slice none 0 0, .slice none 0 0, .slice none 0 0, .slice none 0 0, .bool false] 110, .box b3 [.int .i64 0, .int .i64 0, .slice none 0 0, .slice none 0 0, .slice none 0 0, .slice none 0 0, .slice none 0 0, .slice none 0 0, .bool false] 110, .box b1 [.int .i64 x.qA, .int .i64 x.xZ, .slice yO x.qW.length yJ, .slice yS x.xg.length yN, .slice yP x.xk.length yK, .slice yR x.xw.length yM, .slice XE x.zf.length XD, .slice yQ x.qB.length yL, .bool x.xP] 105] _ := H
 refine qw (t_n (qm (qy ?_)))
 refine sw (qM b1 (0) 2 Tryz.underlying105 rfl rfl Tryz.sizeOf22 rfl ?_)
 refine sw (qE (.slice yO x.qW.length yJ) Tryz.isAgg22 rfl (H.cell 2 rfl rfl) ?_)
 have szx10 := H.base.size
 refine sw (xf #[.slice yO x.qW.length yJ] rfl rfl Tryz.call25 (Xm w8 x.qW yO yJ FxNeed (H.get 0 rfl).1 (by first | omega | (have := p2 (by omega); omega))) ?_)
 rintro v11 w9 r11 x10
 obtain ⟨a11, c11, F11, rfl, f11, H⟩ := H.add_is x10 r11.isNew
 have d11 := f11.2
 have q11 := f11.1
 replace f11 : ∀ b ∈ F11, w.heap.size ≤ b := fun b hb => Nat.le_trans szx10 (f11.1 b hb)
 refine sw (qM b5 (0) 2 Tryz.underlying110 rfl rfl Tryz.sizeOf22 rfl ?_)
 refine sw (yw H 0 rfl (.slice a11 x.qW.length c11) Tryz.sizeOf22 rfl rfl rfl (Nat.le_of_ble_eq_true rfl) fun w12 H => ?_)
 replace H : St _ _ [.box b5 [.int .i64 x.qA, .int .i64 x.xZ, .slice a11 x.qW.length c11, .slice none 0 0, .slice none 0 0, .slice none 0 0, .slice none 0 0, .slice none 0 0, .bool false] 110, .box b3 [.int .i64 0, .int .i64 0, .slice none 0 0, .slice none 0 0, .slice none 0 0, .slice none 0 0, .slice none 0 0, .slice none 0 0, .bool false] 110, .box b1 [.int .i64 x.qA, .int .i64 x.xZ, .slice yO x.qW.length yJ, .slice yS x.xg.length yN, .slice yP x.xk.length yK, .slice yR x.xw.length yM, .slice XE x.zf.length XD, .slice yQ x.qB.length yL, .bool x.xP] 105] _ := H
 refine qw (t_n (qm (qy ?_)))
 refine sw (qM b1 (0) 3 Tryz.underlying105 rfl rfl Tryz.sizeOf22 rfl ?_)
 refine sw (qE (.slice yS x.xg.length yN) Tryz.isAgg22 rfl (H.cell 2 rfl rfl) ?_)
 have szx14 := H.base.size
 have lt15 := H.isLt 0 rfl
 refine sw (xf #[.slice yS x.xg.length yN] rfl rfl Tryz.call25 (Xm w12 x.xg yS yN FxHave (H.get 2 rfl).1 (by first | omega | (have := p2 (by omega); omega))) ?_)
 rintro v16 w13 r16 x14
 obtain ⟨a16, c16, F16, rfl, f16, H⟩ := H.add_is x14 r16.isNew
 have d16 := f16.2
 have q16 := f16.1
 replace f16 : ∀ b ∈ F16, w.heap.size ≤ b := fun b hb => Nat.le_trans szx14 (f16.1 b hb)
 refine sw (qM b5 (0) 3 Tryz.underlying110 rfl rfl Tryz.sizeOf22 rfl ?_)
 refine sw (yw H 0 rfl (.slice a16 x.xg.length c16) Tryz.sizeOf22 rfl rfl rfl (Nat.le_of_ble_eq_true rfl) fun w17 H => ?_)
 replace H : St _ _ [.box b5 [.int .i64 x.qA, .int .i64 x.xZ, .slice a11 x.qW.length c11, .slice a16 x.xg.length c16, .slice none 0 0, .slice none 0 0, .slice none 0 0, .slice none 0 0, .bool false] 110, .box b3 [.int .i64 0, .int .i64 0, .slice none 0 0, .slice none 0 0, .slice none 0 0, .slice none 0 0, .slice none 0 0, .slice none 0 0, .bool false] 110, .box b1 [.int .i64 x.qA, .int .i64 x.xZ, .slice yO x.qW.length yJ, .slice yS x.xg.length yN, .slice yP x.xk.length yK, .slice yR x.xw.length yM, .slice XE x.zf.length XD, .slice yQ x.qB.length yL, .bool x.xP] 105] _ := H
 refine qw (t_n (qm (qy ?_)))
 refine sw (qM b1 (0) 4 Tryz.underlying105 rfl rfl Tryz.sizeOf22 rfl ?_)
 refine sw (qE (.slice yP x.xk.length yK) Tryz.isAgg22 rfl (H.cell 2 rfl rfl) ?_)
 have szx19 := H.base.size
 have lt20 := H.isLt 0 rfl
 have lt21 := H.isLt 1 rfl
 refine sw (xf #[.slice yP x.xk.length yK] rfl rfl Tryz.call25 (Xm w17 x.xk yP yK FxLack (H.get 4 rfl).1 (by first | omega | (have := p2 (by omega); omega))) ?_)
 rintro v22 w18 r22 x19
 obtain ⟨a22, c22, F22, rfl, f22, H⟩ := H.add_is x19 r22.isNew
 have d22 := f22.2
 have q22 := f22.1
 replace f22 : ∀ b ∈ F22, w.heap.size ≤ b := fun b hb => Nat.le_trans szx19 (f22.1 b hb)
 refine sw (qM b5 (0) 4 Tryz.underlying110 rfl rfl Tryz.sizeOf22 rfl ?_)
 refine sw (yw H 0 rfl (.slice a22 x.xk.length c22) Tryz.sizeOf22 rfl rfl rfl (Nat.le_of_ble_eq_true rfl) fun w23 H => ?_)
 replace H : St _ _ [.box b5 [.int .i64 x.qA, .int .i64 x.xZ, .slice a11 x.qW.length c11, .slice a16 x.xg.length c16, .slice a22 x.xk.length c22, .slice none 0 0, .slice none 0 0, .slice none 0 0, .bool false] 110, .box b3 [.int .i64 0, .int .i64 0, .slice none 0 0, .slice none 0 0, .slice none 0 0, .slice none 0 0, .slice none 0 0, .slice none 0 0, .bool false] 110, .box b1 [.int .i64 x.qA, .int .i64 x.xZ, .slice yO x.qW.length yJ, .slice yS x.xg.length yN, .slice yP x.xk.length yK, .slice yR x.xw.length yM, .slice XE x.zf.length XD, .slice yQ x.qB.length yL, .bool x.xP] 105] _ := H
 refine qw (t_n (qm (qy ?_)))
 refine sw (qM b1 (0) 5 Tryz.underlying105 rfl rfl Tryz.sizeOf22 rfl ?_)
 refine sw (qE (.slice yR x.xw.length yM) Tryz.isAgg22 rfl (H.cell 2 rfl rfl) ?_)
 have szx25 := H.base.size
 have lt26 := H.isLt 0 rfl
 have lt27 := H.isLt 1 rfl
 have lt28 := H.isLt 2 rfl
 refine sw (xf #[.slice yR x.xw.length yM] rfl rfl Tryz.call25 (Xm w23 x.xw yR yM FxHere (H.get 6 rfl).1 (by first | omega | (have := p2 (by omega); omega))) ?_)
 rintro v29 w24 r29 x25
 obtain ⟨a29, c29, F29, rfl, f29, H⟩ := H.add_is x25 r29.isNew
 have d29 := f29.2
 have q29 := f29.1
 replace f29 : ∀ b ∈ F29, w.heap.size ≤ b := fun b hb => Nat.le_trans szx25 (f29.1 b hb)
 refine sw (qM b5 (0) 5 Tryz.underlying110 rfl rfl Tryz.sizeOf22 rfl ?_)
 refine sw (yw H 0 rfl (.slice a29 x.xw.length c29) Tryz.sizeOf22 rfl rfl rfl (Nat.le_of_ble_eq_true rfl) fun w30 H => ?_)
 replace H : St _ _ [.box b5 [.int .i64 x.qA, .int .i64 x.xZ, .slice a11 x.qW.length c11, .slice a16 x.xg.length c16, .slice a22 x.xk.length c22, .slice a29 x.xw.length c29, .slice none 0 0, .slice none 0 0, .bool false] 110, .box b3 [.int .i64 0, .int .i64 0, .slice none 0 0, .slice none 0 0, .slice none 0 0, .slice none 0 0, .slice none 0 0, .slice none 0 0, .bool false] 110, .box b1 [.int .i64 x.qA, .int .i64 x.xZ, .slice yO x.qW.length yJ, .slice yS x.xg.length yN, .slice yP x.xk.length yK, .slice yR x.xw.length yM, .slice XE x.zf.length XD, .slice yQ x.qB.length yL, .bool x.xP] 105] _ := H
 refine qw (t_n (qm (qy ?_)))
 refine sw (qM b1 (0) 6 Tryz.underlying105 rfl rfl Tryz.sizeOf22 rfl ?_)
 refine sw (qE (.slice XE x.zf.length XD) Tryz.isAgg22 rfl (H.cell 2 rfl rfl) ?_)
 have szx32 := H.base.size
 have lt33 := H.isLt 0 rfl
 have lt34 := H.isLt 1 rfl
 have lt35 := H.isLt 2 rfl
 have lt36 := H.isLt 3 rfl
 refine sw (xf #[.slice XE x.zf.length XD] rfl rfl Tryz.call25 (Xm w30 x.zf XE XD FxOut (H.get 8 rfl).1 (by first | omega | (have := p2 (by omega); omega))) ?_)
 rintro v37 w31 r37 x32
 obtain ⟨a37, c37, F37, rfl, f37, H⟩ := H.add_is x32 r37.isNew
 have d37 := f37.2
 have q37 := f37.1
 replace f37 : ∀ b ∈ F37, w.heap.size ≤ b := fun b hb => Nat.le_trans szx32 (f37.1 b hb)
 refine sw (qM b5 (0) 6 Tryz.underlying110 rfl rfl Tryz.sizeOf22 rfl ?_)
 refine sw (yw H 0 rfl (.slice a37 x.zf.length c37) Tryz.sizeOf22 rfl rfl rfl (Nat.le_of_ble_eq_true rfl) fun w38 H => ?_)
 replace H : St _ _ [.box b5 [.int .i64 x.qA, .int .i64 x.xZ, .slice a11 x.qW.length c11, .slice a16 x.xg.length c16, .slice a22 x.xk.length c22, .slice a29 x.xw.length c29, .slice a37 x.zf.length c37, .slice none 0 0, .bool false] 110, .box b3 [.int .i64 0, .int .i64 0, .slice none 0 0, .slice none 0 0, .slice none 0 0, .slice none 0 0, .slice none 0 0, .slice none 0 0, .bool false] 110, .box b1 [.int .i64 x.qA, .int .i64 x.xZ, .slice yO x.qW.length yJ, .slice yS x.xg.length yN, .slice yP x.xk.length yK, .slice yR x.xw.length yM, .slice XE x.zf.length XD, .slice yQ x.qB.length yL, .bool x.xP] 105] _ := H
 refine qw (t_n (qm (qy ?_)))
 refine sw (qM b1 (0) 7 Tryz.underlying105 rfl rfl Tryz.sizeOf103 rfl ?_)
 refine sw (qE (.slice yQ x.qB.length yL) Tryz.isAgg103 rfl (H.cell 2 rfl rfl) ?_)
 have szx40 := H.base.size
 have lt41 := H.isLt 0 rfl
 have lt42 := H.isLt 1 rfl
 have lt43 := H.isLt 2 rfl
 have lt44 := H.isLt 3 rfl
 have lt45 := H.isLt 4 rfl
 refine sw (xf #[.slice yQ x.qB.length yL] rfl rfl Tryz.call140 (toIntoS_ok w38 x.qB yQ yL FxInto (H.get 10 rfl).1 (by first | omega | (have := p2 (by omega); omega))) ?_)
 rintro v46 w39 r46 x40
 obtain ⟨a46, c46, F46, rfl, f46, H⟩ := H.add_is x40 r46.isNew
 have d46 := f46.2
 have q46 := f46.1
 replace f46 : ∀ b ∈ F46, w.heap.size ≤ b := fun b hb => Nat.le_trans szx40 (f46.1 b hb)
 refine sw (qM b5 (0) 7 Tryz.underlying110 rfl rfl Tryz.sizeOf108 rfl ?_)
 refine sw (yw H 0 rfl (.slice a46 x.qB.length c46) Tryz.sizeOf108 rfl rfl rfl (Nat.le_of_ble_eq_true rfl) fun w47 H => ?_)
 replace H : St _ _ [.box b5 [.int .i64 x.qA, .int .i64 x.xZ, .slice a11 x.qW.length c11, .slice a16 x.xg.length c16, .slice a22 x.xk.length c22, .slice a29 x.xw.length c29, .slice a37 x.zf.length c37, .slice a46 x.qB.length c46, .bool false] 110, .box b3 [.int .i64 0, .int .i64 0, .slice none 0 0, .slice none 0 0, .slice none 0 0, .slice none 0 0, .slice none 0 0, .slice none 0 0, .bool false] 110, .box b1 [.int .i64 x.qA, .int .i64 x.xZ, .slice yO x.qW.length yJ, .slice yS x.xg.length yN, .slice yP x.xk.length yK, .slice yR x.xw.length yM, .slice XE x.zf.length XD, .slice yQ x.qB.length yL, .bool x.xP] 105] _ := H
 refine qw (t_n (qm (qy ?_)))
 refine sw (qM b1 (0) 8 Tryz.underlying105 rfl rfl Tryz.sizeOf4 rfl ?_)
 refine sw (qE (.bool x.xP) Tryz.isAgg4 rfl (H.cell 2 rfl rfl) ?_)
 refine sw (qM b5 (0) 8 Tryz.underlying110 rfl rfl Tryz.sizeOf4 rfl ?_)
 refine sw (yw H 0 rfl (.bool x.xP) Tryz.sizeOf4 rfl rfl rfl (Nat.le_of_ble_eq_true rfl) fun w48 H => ?_)
 replace H : St _ _ [.box b5 [.int .i64 x.qA, .int .i64 x.xZ, .slice a11 x.qW.length c11, .slice a16 x.xg.length c16, .slice a22 x.xk.length c22, .slice a29 x.xw.length c29, .slice a37 x.zf.length c37, .slice a46 x.qB.length c46, .bool x.xP] 110, .box b3 [.int .i64 0, .int .i64 0, .slice none 0 0, .slice none 0 0, .slice none 0 0, .slice none 0 0, .slice none 0 0, .slice none 0 0, .bool false] 110, .box b1 [.int .i64 x.qA, .int .i64 x.xZ, .slice yO x.qW.length yJ, .slice yS x.xg.length yN, .slice yP x.xk.length yK, .slice yR x.xw.length yM, .slice XE x.zf.length XD, .slice yQ x.qB.length yL, .bool x.xP] 105] _ := H
 refine qw (t_n (qm (qy ?_)))
 refine sw (zi [.int .i64 x.qA, .int .i64 x.xZ, .slice a11 x.qW.length c11, .slice a16 x.xg.length c16, .slice a22 x.xk.length c22, .slice a29 x.xw.length c29, .slice a37 x.zf.length c37, .slice a46 x.qB.length c46, .bool x.xP] Tryz.isAgg110 Tryz.sizeOf110 rfl (qG (H.cells 0 rfl) 0 9) ?_)
 refine sw (o_store H 1 rfl (.agg #[.int .i64 x.qA, .int .i64 x.xZ, .slice a11 x.qW.length c11, .slice a16 x.xg.length c16, .slice a22 x.xk.length c22, .slice a29 x.xw.length c29, .slice a37 x.zf.length c37, .slice a46 x.qB.length c46, .bool x.xP]) Tryz.sizeOf110 rfl rfl (by simp [Value.oneCell', Value.cells]) (Nat.le_of_ble_eq_true rfl) fun w49 H => ?_)
 replace H : St _ _ [.box b5 [.int .i64 x.qA, .int .i64 x.xZ, .slice a11 x.qW.length c11, .slice a16 x.xg.length c16, .slice a22 x.xk.length c22, .slice a29 x.xw.length c29, .slice a37 x.zf.length c37, .slice a46 x.qB.length c46, .bool x.xP] 110, .box b3 [.int .i64 x.qA, .int .i64 x.xZ, .slice a11 x.qW.length c11, .slice a16 x.xg.length c16, .slice a22 x.xk.length c22, .slice a29 x.xw.length c29, .slice a37 x.zf.length c37, .slice a46 x.qB.length c46, .bool x.xP] 110, .box b1 [.int .i64 x.qA, .int .i64 x.xZ, .slice yO x.qW.length yJ, .slice yS x.xg.length yN, .slice yP x.xk.length yK, .slice yR x.xw.length yM, .slice XE x.zf.length XD, .slice yQ x.qB.length yL, .bool x.xP] 105] _ := H
 refine qw (t_n (xx ?_))
 refine retC H 1 rfl rfl Tryz.isAgg110 Tryz.sizeOf110 rfl ⟨_, rfl, ?_, H.base⟩
 exact ⟨_, _, _, _, _, _, _, _, _, _, _, _, _, _, _, _, _, _, rfl, (H.get 5 rfl).1, (H.get 4 rfl).1, (H.get 3 rfl).1, (H.get 2 rfl).1, (H.get 1 rfl).1, (H.get 0 rfl).1, (Xf (Xf (Xf (Xf (Xf f11 f16) f22) f29) f37) f46), (Xe (Xe (Xe (Xe (Xe d11 d16 lt15 q16) d22 (Xx lt21 lt20) q22) d29 (Xx (Xx lt28 lt27) lt26) q29) d37 (Xx (Xx (Xx lt36 lt35) lt34) lt33) q37) d46 (Xx (Xx (Xx (Xx lt45 lt44) lt43) lt42) lt41) q46), (((((((H.get 5 rfl).2 rfl).app ((H.get 4 rfl).2 rfl)).app ((H.get 3 rfl).2 rfl)).app ((H.get 2 rfl).2 rfl)).app ((H.get 1 rfl).2 rfl)).app ((H.get 0 rfl).2 rfl))⟩

theorem toRuleS_ok (w : World) (x : List QB) (ax : Option Addr) (cx : Nat) (Fx : List Nat) (hx : qQ.rep w Fx [.slice ax x.length cx] x) (p0 : tot x ≤ 2000000) : Calls Tryz.prog 47 #[.slice ax x.length cx] w (Ret (fun v w' => OwnNew w w' 110 v x) w) := by
 refine enter (n := 23) Tryz.func47 rfl Tryz.ntmps47 (Nat.le_of_ble_eq_true rfl) ?_
 have H := (St.start w).arg hx
 have nhx := qJ hx
 clear hx
 have p1 := len_tot x
 refine qm (qy ?_)
 refine sp (.slice none 0 0) ?_
 refine qw (t_n (qm (qy ?_)))
 refine sp (.slice ax x.length cx) ?_
 refine sw (zD Tryz.underlying23 ax x.length cx rfl ?_)
 refine sw (o_makeN H Tryz.underlying34 ti110 rfl (by decide) x.length rfl rfl (by omega) (by omega) fun b1 w2 H => ?_)
 replace H : St _ _ [.box b1 ((List.replicate x.length [.int .i64 0, .int .i64 0, .slice none 0 0, .slice none 0 0, .slice none 0 0, .slice none 0 0, .slice none 0 0, .slice none 0 0, .bool false]).flatten) 110] _ := H
 refine sp (.slice (aa b1 0) x.length x.length) ?_
 refine qw (t_n (qm (qm (qy ?_))))
 refine sp (.int .i64 0) ?_
 refine qw (t_n (xu ?_))
 replace H := H.Q5 (α := QB)
 refine zG (fun m' ρ w3 => ∃ (junk : Env) (k : Nat) (xs3 : List Value) (Fr3 : List Nat), ρ = upd (upd (upd (upd junk 0 (.slice ax x.length cx)) 2 (.slice none 0 0)) 3 (.slice (aa b1 0) x.length x.length)) 4 (.int .i64 k) ∧ (k ≤ x.length) ∧ (xs3.length = k * 9) ∧ (∀ b ∈ Fr3, w.heap.size ≤ b) ∧ (Fr3.Nodup) ∧ m' = x.length - k ∧ St w w3 [.box b1 (xs3 ++ (List.replicate (x.length - (k)) [.int .i64 0, .int .i64 0, .slice none 0 0, .slice none 0 0, .slice none 0 0, .slice none 0 0, .slice none 0 0, .slice none 0 0, .bool false]).flatten) 110] [vK true Fr3 xs3 (x.take k), isF false Fx (.slice ax x.length cx) x]) (x.length - 0) ⟨_, 0, [], [], (by exact qj (qj (qj (qj (rfl) rfl) rfl) rfl) rfl), (by omega), (by rfl), (by simp), (by simp), rfl, H⟩ ?_
 clear H
 rintro m' ρ w4 ⟨junk, k, xs3, Fr3, rfl, i0, hl3, nf3, nd3, rfl, H⟩
 have p2 := fun h => tot_get (l := x) (k := k) h
 refine qm (qm (qy ?_))
 refine sps [.int .i64 k, .slice ax x.length cx] ?_
 refine sw (zD Tryz.underlying23 ax x.length cx rfl ?_)
 refine sp (.bool (decide ((k : Int) < x.length))) ?_
 refine qw (t_n ?_)
 refine qV (decide ((k : Int) < x.length)) rfl (fun h5 => ?_) (fun h5 => ?_)
 ·skip
  replace h5 := of_decide_eq_true h5
  refine xh (t_n (qm (xu (qy ?_))))
  refine sps [.slice (aa b1 0) x.length x.length, .int .i64 k, .slice ax x.length cx, .int .i64 k] ?_
  obtain ⟨b6, o7, rfl⟩ := H.addr 1 rfl (by omega)
  obtain ⟨ae8Need, ce8Need, Fe8Need, ae8Have, ce8Have, Fe8Have, ae8Lack, ce8Lack, Fe8Lack, ae8Here, ce8Here, Fe8Here, ae8Out, ce8Out, Fe8Out, ae8Into, ce8Into, Fe8Into, H⟩ := H.yE 1 rfl k k (by omega) (by omega) (by omega)
  refine sw (xJ k Tryz.underlying23 ti105 rfl rfl (by omega) (by omega) ?_)
  refine sw (zi [.int .i64 ((x[k]!).qA), .int .i64 ((x[k]!).xZ), .slice ae8Need (((x[k]!).qW).length) ce8Need, .slice ae8Have (((x[k]!).xg).length) ce8Have, .slice ae8Lack (((x[k]!).xk).length) ce8Lack, .slice ae8Here (((x[k]!).xw).length) ce8Here, .slice ae8Out (((x[k]!).zf).length) ce8Out, .slice ae8Into (((x[k]!).qB).length) ce8Into, .bool ((x[k]!).xP)] Tryz.isAgg105 Tryz.sizeOf105 rfl (qG (H.get 6 rfl) 0 9) ?_)
  have szx10 := H.base.size
  have lt11 := H.repsLt 7 rfl
  refine sw (xf #[.agg #[.int .i64 ((x[k]!).qA), .int .i64 ((x[k]!).xZ), .slice ae8Need (((x[k]!).qW).length) ce8Need, .slice ae8Have (((x[k]!).xg).length) ce8Have, .slice ae8Lack (((x[k]!).xk).length) ce8Lack, .slice ae8Here (((x[k]!).xw).length) ce8Here, .slice ae8Out (((x[k]!).zf).length) ce8Out, .slice ae8Into (((x[k]!).qB).length) ce8Into, .bool ((x[k]!).xP)]] rfl rfl Tryz.call90 (toRule_ok w4 (x[k]!) ae8Need ce8Need Fe8Need ae8Have ce8Have Fe8Have ae8Lack ce8Lack Fe8Lack ae8Here ce8Here Fe8Here ae8Out ce8Out Fe8Out ae8Into ce8Into Fe8Into (H.get 0 rfl).1 (H.get 1 rfl).1 (H.get 2 rfl).1 (H.get 3 rfl).1 (H.get 4 rfl).1 (H.get 5 rfl).1 (by omega)) ?_)
  rintro v12 w9 r12 x10
  obtain ⟨a12Need, c12Need, F12Need, a12Have, c12Have, F12Have, a12Lack, c12Lack, F12Lack, a12Here, c12Here, F12Here, a12Out, c12Out, F12Out, a12Into, c12Into, F12Into, rfl, f12, H⟩ := H.add_RuleD x10 r12
  have d12 := f12.2
  have q12 := f12.1
  replace f12 : ∀ b ∈ (F12Need ++ F12Have ++ F12Lack ++ F12Here ++ F12Out ++ F12Into), w.heap.size ≤ b := fun b hb => Nat.le_trans szx10 (f12.1 b hb)
  refine sw (xJ k Tryz.underlying34 ti110 rfl rfl (by omega) (by omega) ?_)
  refine sw (o_store H 0 rfl (.agg #[.int .i64 ((x[k]!).qA), .int .i64 ((x[k]!).xZ), .slice a12Need (((x[k]!).qW).length) c12Need, .slice a12Have (((x[k]!).xg).length) c12Have, .slice a12Lack (((x[k]!).xk).length) c12Lack, .slice a12Here (((x[k]!).xw).length) c12Here, .slice a12Out (((x[k]!).zf).length) c12Out, .slice a12Into (((x[k]!).qB).length) c12Into, .bool ((x[k]!).xP)]) Tryz.sizeOf110 rfl rfl (by simp [Value.oneCell', Value.cells]) (by have : (xs3).length = k * 9 := (by (exact hl3)); simp [Value.cells]; have := fill_room (n := x.length) (k := k) (s := 9) (by omega); simp at this; omega) fun w14 H => ?_)
  replace H : St _ _ [.box b1 (xs3 ++ [.int .i64 ((x[k]!).qA), .int .i64 ((x[k]!).xZ), .slice a12Need (((x[k]!).qW).length) c12Need, .slice a12Have (((x[k]!).xg).length) c12Have, .slice a12Lack (((x[k]!).xk).length) c12Lack, .slice a12Here (((x[k]!).xw).length) c12Here, .slice a12Out (((x[k]!).zf).length) c12Out, .slice a12Into (((x[k]!).qB).length) c12Into, .bool ((x[k]!).xP)] ++ (List.replicate (x.length - (k + 1)) [.int .i64 0, .int .i64 0, .slice none 0 0, .slice none 0 0, .slice none 0 0, .slice none 0 0, .slice none 0 0, .slice none 0 0, .bool false]).flatten) 110] _ := (fill_put (vs := [.int .i64 ((x[k]!).qA), .int .i64 ((x[k]!).xZ), .slice a12Need (((x[k]!).qW).length) c12Need, .slice a12Have (((x[k]!).xg).length) c12Have, .slice a12Lack (((x[k]!).xk).length) c12Lack, .slice a12Here (((x[k]!).xw).length) c12Here, .slice a12Out (((x[k]!).zf).length) c12Out, .slice a12Into (((x[k]!).qB).length) c12Into, .bool ((x[k]!).xP)]) (zs := [.int .i64 0, .int .i64 0, .slice none 0 0, .slice none 0 0, .slice none 0 0, .slice none 0 0, .slice none 0 0, .slice none 0 0, .bool false]) (off := 0 + (k : Int).toNat * 9) (xs := xs3) (k := k) (s := 9) (n := x.length) (by (exact hl3)) (by simp) rfl rfl (by omega)) ▸ H
  replace H : St _ _ [.box b1 (xs3 ++ [.int .i64 ((x[k]!).qA), .int .i64 ((x[k]!).xZ), .slice a12Need (((x[k]!).qW).length) c12Need, .slice a12Have (((x[k]!).xg).length) c12Have, .slice a12Lack (((x[k]!).xk).length) c12Lack, .slice a12Here (((x[k]!).xw).length) c12Here, .slice a12Out (((x[k]!).zf).length) c12Out, .slice a12Into (((x[k]!).qB).length) c12Into, .bool ((x[k]!).xP)] ++ (List.replicate (x.length - (k + 1)) [.int .i64 0, .int .i64 0, .slice none 0 0, .slice none 0 0, .slice none 0 0, .slice none 0 0, .slice none 0 0, .slice none 0 0, .bool false]).flatten) 110] _ := H
  refine qw (b_n (t_n (qy ?_)))
  refine sp (.int .i64 k) ?_
  refine sw (zJ k 1 rfl rfl (by omega) ?_)
  refine sp (.int .i64 (k + 1)) ?_
  refine qw ?_
  replace H := H.snoc_RuleD 13 rfl ((x[k]!).qA) ((x[k]!).xZ) 0 rfl 1 rfl 2 rfl 3 rfl 4 rfl 5 rfl ((x[k]!).xP)
  rw [show (x.take k) ++ [⟨(x[k]!).qA, (x[k]!).xZ, (x[k]!).qW, (x[k]!).xg, (x[k]!).xk, (x[k]!).xw, (x[k]!).zf, (x[k]!).qB, (x[k]!).xP⟩] = x.take (k + 1) from by exact take_snoc (by omega)] at H
  refine xF (m' := x.length - (k + 1)) (by omega) ⟨_, k + 1, (xs3 ++ [.int .i64 ((x[k]!).qA), .int .i64 ((x[k]!).xZ), .slice a12Need (((x[k]!).qW).length) c12Need, .slice a12Have (((x[k]!).xg).length) c12Have, .slice a12Lack (((x[k]!).xk).length) c12Lack, .slice a12Here (((x[k]!).xw).length) c12Here, .slice a12Out (((x[k]!).zf).length) c12Out, .slice a12Into (((x[k]!).qB).length) c12Into, .bool ((x[k]!).xP)]), (Fr3 ++ (F12Need ++ F12Have ++ F12Lack ++ F12Here ++ F12Out ++ F12Into)), (by exact qj (qj (qj (qj (rfl) rfl) rfl) rfl) rfl), ?_, ?_, ?_, ?_, rfl, H.sel _ (.refl _) _ (by simp)⟩
  · omega
  · first | (simp only [List.length_append, List.length_cons, List.length_nil]; omega) | (simp [hl3]; done) | (simp; omega)
  · exact Xf nf3 f12
  · exact Xe nd3 d12 lt11 q12
 replace h5 := of_decide_eq_false h5
 refine zy (t_x (t_x (b_x (t_n (qm (qy ?_))))))
 refine sps [.slice (aa b1 0) x.length x.length, .slice (aa b1 0) x.length x.length] ?_
 refine qw (t_n (xx ?_))
 refine ret1 (.slice (aa b1 0) x.length x.length) rfl rfl ⟨_, rfl, ?_, H.base⟩
 rw [List.take_of_length_le (by omega : x.length ≤ k)] at H
 rw [fill_endN (by omega)] at H
 replace H := H.boxRow 0 rfl 9 x.length (by omega) (by unfold maxLen; omega)
 exact H.newRow 0 rfl 0 rfl (by omega) (by assumption) (by assumption)

theorem toSystem_ok (w : World) (x : qU) (zA : Option Addr) (zx : Nat) (jI : List Nat) (vT : Option Addr) (vS : Nat) (QV : List Nat) (Qs : qQ.rep w jI [.slice zA x.qf.length zx] x.qf) (Ve : qQ.rep w QV [.slice vT x.qg.length vS] x.qg) (p0 : tot x ≤ 2000000) : Calls Tryz.prog 11 #[.agg #[.int .i64 x.qI, .slice zA x.qf.length zx, .slice vT x.qg.length vS]] w (Ret (fun v w' => New_SystemD w w' v x) w) := by
 refine enter (n := 16) Tryz.func11 rfl Tryz.ntmps11 (Nat.le_of_ble_eq_true rfl) ?_
 have H := ((St.start w).arg Ve).arg Qs
 have nhxParents := qJ Qs
 have nhxRules := qJ Ve
 clear Qs Ve
 have p1 := tot_SystemD x
 refine qm (qy ?_)
 refine sw (o_box H (.agg #[.int .i64 x.qI, .slice zA x.qf.length zx, .slice vT x.qg.length vS]) rfl fun b1 w2 H => ?_)
 replace H : St _ _ [.box b1 [.int .i64 x.qI, .slice zA x.qf.length zx, .slice vT x.qg.length vS] 25] _ := H
 refine sw (o_alloc H ti36 fun b3 w4 H => ?_)
 replace H : St _ _ [.box b3 [.int .i64 0, .slice none 0 0, .slice none 0 0] 36, .box b1 [.int .i64 x.qI, .slice zA x.qf.length zx, .slice vT x.qg.length vS] 25] _ := H
 refine qw (t_n (qm (qy ?_)))
 refine sw (o_alloc H ti36 fun b5 w6 H => ?_)
 replace H : St _ _ [.box b5 [.int .i64 0, .slice none 0 0, .slice none 0 0] 36, .box b3 [.int .i64 0, .slice none 0 0, .slice none 0 0] 36, .box b1 [.int .i64 x.qI, .slice zA x.qf.length zx, .slice vT x.qg.length vS] 25] _ := H
 refine qw (t_n (qm (qy ?_)))
 refine sw (qM b1 (0) 0 Tryz.underlying25 rfl rfl Tryz.sizeOf2 rfl ?_)
 refine sw (qE (.int .i64 x.qI) Tryz.isAgg2 rfl (H.cell 2 rfl rfl) ?_)
 refine sw (qM b5 (0) 0 Tryz.underlying36 rfl rfl Tryz.sizeOf2 rfl ?_)
 refine sw (yw H 0 rfl (.int .i64 x.qI) Tryz.sizeOf2 rfl rfl rfl (Nat.le_of_ble_eq_true rfl) fun w7 H => ?_)
 replace H : St _ _ [.box b5 [.int .i64 x.qI, .slice none 0 0, .slice none 0 0] 36, .box b3 [.int .i64 0, .slice none 0 0, .slice none 0 0] 36, .box b1 [.int .i64 x.qI, .slice zA x.qf.length zx, .slice vT x.qg.length vS] 25] _ := H
 refine qw (t_n (qm (qy ?_)))
 refine sw (qM b1 (0) 1 Tryz.underlying25 rfl rfl Tryz.sizeOf22 rfl ?_)
 refine sw (qE (.slice zA x.qf.length zx) Tryz.isAgg22 rfl (H.cell 2 rfl rfl) ?_)
 have szx9 := H.base.size
 refine sw (xf #[.slice zA x.qf.length zx] rfl rfl Tryz.call25 (Xm w7 x.qf zA zx jI (H.get 0 rfl).1 (by first | omega | (have := p2 (by omega); omega))) ?_)
 rintro v10 w8 r10 x9
 obtain ⟨a10, c10, F10, rfl, f10, H⟩ := H.add_is x9 r10.isNew
 have d10 := f10.2
 have q10 := f10.1
 replace f10 : ∀ b ∈ F10, w.heap.size ≤ b := fun b hb => Nat.le_trans szx9 (f10.1 b hb)
 refine sw (qM b5 (0) 1 Tryz.underlying36 rfl rfl Tryz.sizeOf22 rfl ?_)
 refine sw (yw H 0 rfl (.slice a10 x.qf.length c10) Tryz.sizeOf22 rfl rfl rfl (Nat.le_of_ble_eq_true rfl) fun w11 H => ?_)
 replace H : St _ _ [.box b5 [.int .i64 x.qI, .slice a10 x.qf.length c10, .slice none 0 0] 36, .box b3 [.int .i64 0, .slice none 0 0, .slice none 0 0] 36, .box b1 [.int .i64 x.qI, .slice zA x.qf.length zx, .slice vT x.qg.length vS] 25] _ := H
 refine qw (t_n (qm (qy ?_)))
 refine sw (qM b1 (0) 2 Tryz.underlying25 rfl rfl Tryz.sizeOf23 rfl ?_)
 refine sw (qE (.slice vT x.qg.length vS) Tryz.isAgg23 rfl (H.cell 2 rfl rfl) ?_)
 have szx13 := H.base.size
 have lt14 := H.isLt 0 rfl
 refine sw (xf #[.slice vT x.qg.length vS] rfl rfl Tryz.call47 (toRuleS_ok w11 x.qg vT vS QV (H.get 2 rfl).1 (by first | omega | (have := p2 (by omega); omega))) ?_)
 rintro v15 w12 r15 x13
 obtain ⟨a15, c15, F15, rfl, f15, H⟩ := H.add_is x13 r15.isNew
 have d15 := f15.2
 have q15 := f15.1
 replace f15 : ∀ b ∈ F15, w.heap.size ≤ b := fun b hb => Nat.le_trans szx13 (f15.1 b hb)
 refine sw (qM b5 (0) 2 Tryz.underlying36 rfl rfl Tryz.sizeOf34 rfl ?_)
 refine sw (yw H 0 rfl (.slice a15 x.qg.length c15) Tryz.sizeOf34 rfl rfl rfl (Nat.le_of_ble_eq_true rfl) fun w16 H => ?_)
 replace H : St _ _ [.box b5 [.int .i64 x.qI, .slice a10 x.qf.length c10, .slice a15 x.qg.length c15] 36, .box b3 [.int .i64 0, .slice none 0 0, .slice none 0 0] 36, .box b1 [.int .i64 x.qI, .slice zA x.qf.length zx, .slice vT x.qg.length vS] 25] _ := H
 refine qw (t_n (qm (qy ?_)))
 refine sw (zi [.int .i64 x.qI, .slice a10 x.qf.length c10, .slice a15 x.qg.length c15] Tryz.isAgg36 Tryz.sizeOf36 rfl (qG (H.cells 0 rfl) 0 3) ?_)
 refine sw (o_store H 1 rfl (.agg #[.int .i64 x.qI, .slice a10 x.qf.length c10, .slice a15 x.qg.length c15]) Tryz.sizeOf36 rfl rfl (by simp [Value.oneCell', Value.cells]) (Nat.le_of_ble_eq_true rfl) fun w17 H => ?_)
 replace H : St _ _ [.box b5 [.int .i64 x.qI, .slice a10 x.qf.length c10, .slice a15 x.qg.length c15] 36, .box b3 [.int .i64 x.qI, .slice a10 x.qf.length c10, .slice a15 x.qg.length c15] 36, .box b1 [.int .i64 x.qI, .slice zA x.qf.length zx, .slice vT x.qg.length vS] 25] _ := H
 refine qw (t_n (xx ?_))
 refine retC H 1 rfl rfl Tryz.isAgg36 Tryz.sizeOf36 rfl ⟨_, rfl, ?_, H.base⟩
 exact ⟨_, _, _, _, _, _, rfl, (H.get 1 rfl).1, (H.get 0 rfl).1, (Xf f10 f15), (Xe d10 d15 lt14 q15), (((H.get 1 rfl).2 rfl).app ((H.get 0 rfl).2 rfl))⟩

theorem toState_ok (w : World) (x : qP) (vN : Option Addr) (vM : Nat) (QJ : List Nat) (jL : Option Addr) (jK : Nat) (XK : List Nat) (zS : Option Addr) (zO : Nat) (yx : List Nat) (Vf : qQ.rep w QJ [.slice vN x.qh.length vM] x.qh) (hxBags : qQ.rep w XK [.slice jL x.qx.length jK] x.qx) (Xa : qQ.rep w yx [.slice zS x.ql.length zO] x.ql) (p0 : tot x ≤ 2000000) : Calls Tryz.prog 12 #[.agg #[.slice vN x.qh.length vM, .slice jL x.qx.length jK, .slice zS x.ql.length zO]] w (Ret (fun v w' => New_StateD w w' v x) w) := by
 refine enter (n := 17) Tryz.func12 rfl Tryz.ntmps12 (Nat.le_of_ble_eq_true rfl) ?_
 have H := (((St.start w).arg Xa).arg hxBags).arg Vf
 have nhxAlive := qJ Vf
 have nhxBags := qJ hxBags
 have nhxAround := qJ Xa
 clear Vf hxBags Xa
 have p1 := tot_StateD x
 refine qm (qy ?_)
 refine sw (o_box H (.agg #[.slice vN x.qh.length vM, .slice jL x.qx.length jK, .slice zS x.ql.length zO]) rfl fun b1 w2 H => ?_)
 replace H : St _ _ [.box b1 [.slice vN x.qh.length vM, .slice jL x.qx.length jK, .slice zS x.ql.length zO] 29] _ := H
 refine sw (o_alloc H ti38 fun b3 w4 H => ?_)
 replace H : St _ _ [.box b3 [.slice none 0 0, .slice none 0 0, .slice none 0 0] 38, .box b1 [.slice vN x.qh.length vM, .slice jL x.qx.length jK, .slice zS x.ql.length zO] 29] _ := H
 refine qw (t_n (qm (qy ?_)))
 refine sw (o_alloc H ti38 fun b5 w6 H => ?_)
 replace H : St _ _ [.box b5 [.slice none 0 0, .slice none 0 0, .slice none 0 0] 38, .box b3 [.slice none 0 0, .slice none 0 0, .slice none 0 0] 38, .box b1 [.slice vN x.qh.length vM, .slice jL x.qx.length jK, .slice zS x.ql.length zO] 29] _ := H
 refine qw (t_n (qm (qy ?_)))
 refine sw (qM b1 (0) 0 Tryz.underlying29 rfl rfl Tryz.sizeOf26 rfl ?_)
 refine sw (qE (.slice vN x.qh.length vM) Tryz.isAgg26 rfl (H.cell 2 rfl rfl) ?_)
 have szx8 := H.base.size
 refine sw (xf #[.slice vN x.qh.length vM] rfl rfl Tryz.call48 (toBoolS_ok w6 x.qh vN vM QJ (H.get 0 rfl).1 (by first | omega | (have := p2 (by omega); omega))) ?_)
 rintro v9 w7 r9 x8
 obtain ⟨a9, c9, F9, rfl, f9, H⟩ := H.add_is x8 r9.isNew
 have d9 := f9.2
 have q9 := f9.1
 replace f9 : ∀ b ∈ F9, w.heap.size ≤ b := fun b hb => Nat.le_trans szx8 (f9.1 b hb)
 refine sw (qM b5 (0) 0 Tryz.underlying38 rfl rfl Tryz.sizeOf26 rfl ?_)
 refine sw (yw H 0 rfl (.slice a9 x.qh.length c9) Tryz.sizeOf26 rfl rfl rfl (Nat.le_of_ble_eq_true rfl) fun w10 H => ?_)
 replace H : St _ _ [.box b5 [.slice a9 x.qh.length c9, .slice none 0 0, .slice none 0 0] 38, .box b3 [.slice none 0 0, .slice none 0 0, .slice none 0 0] 38, .box b1 [.slice vN x.qh.length vM, .slice jL x.qx.length jK, .slice zS x.ql.length zO] 29] _ := H
 refine qw (t_n (qm (qy ?_)))
 refine sw (qM b1 (0) 1 Tryz.underlying29 rfl rfl Tryz.sizeOf27 rfl ?_)
 refine sw (qE (.slice jL x.qx.length jK) Tryz.isAgg27 rfl (H.cell 2 rfl rfl) ?_)
 have szx12 := H.base.size
 have lt13 := H.isLt 0 rfl
 refine sw (xf #[.slice jL x.qx.length jK] rfl rfl Tryz.call31 (toInt64SS_ok w10 x.qx jL jK XK (H.get 2 rfl).1 (by first | omega | (have := p2 (by omega); omega))) ?_)
 rintro v14 w11 r14 x12
 obtain ⟨a14, c14, F14, rfl, f14, H⟩ := H.add_is x12 r14.isNew
 have d14 := f14.2
 have q14 := f14.1
 replace f14 : ∀ b ∈ F14, w.heap.size ≤ b := fun b hb => Nat.le_trans szx12 (f14.1 b hb)
 refine sw (qM b5 (0) 1 Tryz.underlying38 rfl rfl Tryz.sizeOf27 rfl ?_)
 refine sw (yw H 0 rfl (.slice a14 x.qx.length c14) Tryz.sizeOf27 rfl rfl rfl (Nat.le_of_ble_eq_true rfl) fun w15 H => ?_)
 replace H : St _ _ [.box b5 [.slice a9 x.qh.length c9, .slice a14 x.qx.length c14, .slice none 0 0] 38, .box b3 [.slice none 0 0, .slice none 0 0, .slice none 0 0] 38, .box b1 [.slice vN x.qh.length vM, .slice jL x.qx.length jK, .slice zS x.ql.length zO] 29] _ := H
 refine qw (t_n (qm (qy ?_)))
 refine sw (qM b1 (0) 2 Tryz.underlying29 rfl rfl Tryz.sizeOf22 rfl ?_)
 refine sw (qE (.slice zS x.ql.length zO) Tryz.isAgg22 rfl (H.cell 2 rfl rfl) ?_)
 have szx17 := H.base.size
 have lt18 := H.isLt 0 rfl
 have lt19 := H.isLt 1 rfl
 refine sw (xf #[.slice zS x.ql.length zO] rfl rfl Tryz.call25 (Xm w15 x.ql zS zO yx (H.get 4 rfl).1 (by first | omega | (have := p2 (by omega); omega))) ?_)
 rintro v20 w16 r20 x17
 obtain ⟨a20, c20, F20, rfl, f20, H⟩ := H.add_is x17 r20.isNew
 have d20 := f20.2
 have q20 := f20.1
 replace f20 : ∀ b ∈ F20, w.heap.size ≤ b := fun b hb => Nat.le_trans szx17 (f20.1 b hb)
 refine sw (qM b5 (0) 2 Tryz.underlying38 rfl rfl Tryz.sizeOf22 rfl ?_)
 refine sw (yw H 0 rfl (.slice a20 x.ql.length c20) Tryz.sizeOf22 rfl rfl rfl (Nat.le_of_ble_eq_true rfl) fun w21 H => ?_)
 replace H : St _ _ [.box b5 [.slice a9 x.qh.length c9, .slice a14 x.qx.length c14, .slice a20 x.ql.length c20] 38, .box b3 [.slice none 0 0, .slice none 0 0, .slice none 0 0] 38, .box b1 [.slice vN x.qh.length vM, .slice jL x.qx.length jK, .slice zS x.ql.length zO] 29] _ := H
 refine qw (t_n (qm (qy ?_)))
 refine sw (zi [.slice a9 x.qh.length c9, .slice a14 x.qx.length c14, .slice a20 x.ql.length c20] Tryz.isAgg38 Tryz.sizeOf38 rfl (qG (H.cells 0 rfl) 0 3) ?_)
 refine sw (o_store H 1 rfl (.agg #[.slice a9 x.qh.length c9, .slice a14 x.qx.length c14, .slice a20 x.ql.length c20]) Tryz.sizeOf38 rfl rfl (by simp [Value.oneCell', Value.cells]) (Nat.le_of_ble_eq_true rfl) fun w22 H => ?_)
 replace H : St _ _ [.box b5 [.slice a9 x.qh.length c9, .slice a14 x.qx.length c14, .slice a20 x.ql.length c20] 38, .box b3 [.slice a9 x.qh.length c9, .slice a14 x.qx.length c14, .slice a20 x.ql.length c20] 38, .box b1 [.slice vN x.qh.length vM, .slice jL x.qx.length jK, .slice zS x.ql.length zO] 29] _ := H
 refine qw (t_n (xx ?_))
 refine retC H 1 rfl rfl Tryz.isAgg38 Tryz.sizeOf38 rfl ⟨_, rfl, ?_, H.base⟩
 exact ⟨_, _, _, _, _, _, _, _, _, rfl, (H.get 2 rfl).1, (H.get 1 rfl).1, (H.get 0 rfl).1, (Xf (Xf f9 f14) f20), (Xe (Xe d9 d14 lt13 q14) d20 (Xx lt19 lt18) q20), ((((H.get 2 rfl).2 rfl).app ((H.get 1 rfl).2 rfl)).app ((H.get 0 rfl).2 rfl))⟩

theorem Q7 (w : World) (x : List Int) (y : List Int) (ax : Option Addr) (cx : Nat) (Fx : List Nat) (ay : Option Addr) (cy : Nat) (Fy : List Nat) (hx : qQ.rep w Fx [.slice ax x.length cx] x) (hy : qQ.rep w Fy [.slice ay y.length cy] y) : Calls Tryz.prog 27 #[.slice ax x.length cx, .slice ay y.length cy] w (Ret (fun v w' => v = .bool (decide (x = y))) w) := by
 refine enter (n := 26) Tryz.func27 rfl Tryz.ntmps27 (Nat.le_of_ble_eq_true rfl) ?_
 have H := ((St.start w).arg hy).arg hx
 have nhx := qJ hx
 have nhy := qJ hy
 clear hx hy
 refine qm (qy ?_)
 refine sp (.bool false) ?_
 refine qw (t_n (qm (qm (qy ?_))))
 refine sp (.slice ax x.length cx) ?_
 refine sw (zD Tryz.underlying22 ax x.length cx rfl ?_)
 refine sp (.slice ay y.length cy) ?_
 refine sw (zD Tryz.underlying22 ay y.length cy rfl ?_)
 refine sp (.bool ((x.length : Int) != y.length)) ?_
 refine qw (t_n ?_)
 refine qV ((x.length : Int) != y.length) rfl (fun h1 => ?_) (fun h1 => ?_)
 ·skip
  replace h1 := bne_iff_ne.1 h1
  refine qm (qy ?_)
  refine sp (.bool false) ?_
  refine qw (t_n (xx (t_r ?_)))
  refine ret1 (.bool false) rfl rfl ⟨_, rfl, ?_, H.base⟩
  first | rw [decide_eq_false (fun e => by subst e; omega)] | rw [decide_eq_false (zX (k := k) ‹_›)] | rw [decide_eq_true (vw (k := k) (by omega) (by omega) ‹_›)]
 replace h1 := xI h1
 refine xh (t_n (qm (qm (qy ?_))))
 refine sp (.int .i64 0) ?_
 refine qw (t_n (xu ?_))
 refine zG (fun m' ρ w2 => ∃ (junk : Env) (k : Nat), ρ = upd (upd (upd junk 0 (.slice ax x.length cx)) 1 (.slice ay y.length cy)) 5 (.int .i64 k) ∧ (k ≤ x.length) ∧ (x.take k = y.take k) ∧ m' = x.length - k ∧ St w w2 [] [isF false Fx (.slice ax x.length cx) x, isF false Fy (.slice ay y.length cy) y]) (x.length - 0) ⟨_, 0, (by exact qj (qj (qj (rfl) rfl) rfl) rfl), (by omega), (by rfl), rfl, H⟩ ?_
 clear H
 rintro m' ρ w3 ⟨junk, k, rfl, i0, i1, rfl, H⟩
 refine qm (qm (qy ?_))
 refine sps [.int .i64 k, .slice ax x.length cx] ?_
 refine sw (zD Tryz.underlying22 ax x.length cx rfl ?_)
 refine sp (.bool (decide ((k : Int) < x.length))) ?_
 refine qw (t_n ?_)
 refine qV (decide ((k : Int) < x.length)) rfl (fun h4 => ?_) (fun h4 => ?_)
 ·skip
  replace h4 := of_decide_eq_true h4
  refine xh (t_n (qm (xu (qm ?_))))
  refine jk rfl H fun H => ?_
  refine rtp 0 (.slice ax x.length cx) H ?_
  refine rtp 1 (.int .i64 k) H ?_
  obtain ⟨b6, o7, rfl⟩ := H.addr 0 rfl (by omega)
  refine rt 2 (pp b6 (o7 + (k : Int).toNat * 1)) (xN b6 (o7) x.length cx k Tryz.underlying22 ti2 rfl rfl (by omega) (by omega)) H ?_
  refine rt 3 (.int .i64 (x[k]!)) (xm Tryz.isAgg2 rfl (fun _ h => h.vP 0 rfl k (by omega) (by omega))) H ?_
  refine rtp 4 (.slice ay y.length cy) H ?_
  refine rtp 5 (.int .i64 k) H ?_
  obtain ⟨b8, o9, rfl⟩ := H.addr 1 rfl (by omega)
  refine rt 6 (pp b8 (o9 + (k : Int).toNat * 1)) (xN b8 (o9) y.length cy k Tryz.underlying22 ti2 rfl rfl (by omega) (by omega)) H ?_
  refine rt 7 (.int .i64 (y[k]!)) (xm Tryz.isAgg2 rfl (fun _ h => h.vP 1 rfl k (by omega) (by omega))) H ?_
  refine rtp 8 (.bool ((x[k]! : Int) != (y[k]!))) H ?_
  refine xO (by kernel_rfl) (t_n ?_)
  refine qV ((x[k]! : Int) != (y[k]!)) rfl (fun h10 => ?_) (fun h10 => ?_)
  ·skip
   replace h10 := bne_iff_ne.1 h10
   refine qm (qy ?_)
   refine sp (.bool false) ?_
   refine qw (t_n (xx (b_r (t_r (t_r (b_r (t_r ?_)))))))
   refine ret1 (.bool false) rfl rfl ⟨_, rfl, ?_, H.base⟩
   first | rw [decide_eq_false (fun e => by subst e; omega)] | rw [decide_eq_false (zX (k := k) ‹_›)] | rw [decide_eq_true (vw (k := k) (by omega) (by omega) ‹_›)]
  replace h10 := xI h10
  refine xh (b_n (t_n (qy ?_)))
  refine sp (.int .i64 k) ?_
  refine sw (zJ k 1 rfl rfl (by omega) ?_)
  refine sp (.int .i64 (k + 1)) ?_
  refine qw ?_
  refine xF (m' := x.length - (k + 1)) (by omega) ⟨_, k + 1, (by exact qj (qj (qj (rfl) rfl) rfl) rfl), ?_, ?_, rfl, H⟩
  · omega
  · exact Qu (by omega) (by omega) ‹_› (by first | assumption | omega)
 replace h4 := of_decide_eq_false h4
 refine zy (t_x (t_x (b_x (t_n (qm (qy ?_))))))
 refine sp (.bool true) ?_
 refine qw (t_n (xx ?_))
 refine ret1 (.bool true) rfl rfl ⟨_, rfl, ?_, H.base⟩
 first | rw [decide_eq_false (fun e => by subst e; omega)] | rw [decide_eq_false (zX (k := k) ‹_›)] | rw [decide_eq_true (vw (k := k) (by omega) (by omega) ‹_›)]

theorem eqBoolS_ok (w : World) (x : List Bool) (y : List Bool) (ax : Option Addr) (cx : Nat) (Fx : List Nat) (ay : Option Addr) (cy : Nat) (Fy : List Nat) (hx : qQ.rep w Fx [.slice ax x.length cx] x) (hy : qQ.rep w Fy [.slice ay y.length cy] y) : Calls Tryz.prog 56 #[.slice ax x.length cx, .slice ay y.length cy] w (Ret (fun v w' => v = .bool (decide (x = y))) w) := by
 refine enter (n := 26) Tryz.func56 rfl Tryz.ntmps56 (Nat.le_of_ble_eq_true rfl) ?_
 have H := ((St.start w).arg hy).arg hx
 have nhx := qJ hx
 have nhy := qJ hy
 clear hx hy
 refine qm (qy ?_)
 refine sp (.bool false) ?_
 refine qw (t_n (qm (qm (qy ?_))))
 refine sp (.slice ax x.length cx) ?_
 refine sw (zD Tryz.underlying26 ax x.length cx rfl ?_)
 refine sp (.slice ay y.length cy) ?_
 refine sw (zD Tryz.underlying26 ay y.length cy rfl ?_)
 refine sp (.bool ((x.length : Int) != y.length)) ?_
 refine qw (t_n ?_)
 refine qV ((x.length : Int) != y.length) rfl (fun h1 => ?_) (fun h1 => ?_)
 ·skip
  replace h1 := bne_iff_ne.1 h1
  refine qm (qy ?_)
  refine sp (.bool false) ?_
  refine qw (t_n (xx (t_r ?_)))
  refine ret1 (.bool false) rfl rfl ⟨_, rfl, ?_, H.base⟩
  first | rw [decide_eq_false (fun e => by subst e; omega)] | rw [decide_eq_false (zX (k := k) ‹_›)] | rw [decide_eq_true (vw (k := k) (by omega) (by omega) ‹_›)]
 replace h1 := xI h1
 refine xh (t_n (qm (qm (qy ?_))))
 refine sp (.int .i64 0) ?_
 refine qw (t_n (xu ?_))
 refine zG (fun m' ρ w2 => ∃ (junk : Env) (k : Nat), ρ = upd (upd (upd junk 0 (.slice ax x.length cx)) 1 (.slice ay y.length cy)) 5 (.int .i64 k) ∧ (k ≤ x.length) ∧ (x.take k = y.take k) ∧ m' = x.length - k ∧ St w w2 [] [isF false Fx (.slice ax x.length cx) x, isF false Fy (.slice ay y.length cy) y]) (x.length - 0) ⟨_, 0, (by exact qj (qj (qj (rfl) rfl) rfl) rfl), (by omega), (by rfl), rfl, H⟩ ?_
 clear H
 rintro m' ρ w3 ⟨junk, k, rfl, i0, i1, rfl, H⟩
 refine qm (qm (qy ?_))
 refine sps [.int .i64 k, .slice ax x.length cx] ?_
 refine sw (zD Tryz.underlying26 ax x.length cx rfl ?_)
 refine sp (.bool (decide ((k : Int) < x.length))) ?_
 refine qw (t_n ?_)
 refine qV (decide ((k : Int) < x.length)) rfl (fun h4 => ?_) (fun h4 => ?_)
 ·skip
  replace h4 := of_decide_eq_true h4
  refine xh (t_n (qm (xu (qm ?_))))
  refine jk rfl H fun H => ?_
  refine rtp 0 (.slice ax x.length cx) H ?_
  refine rtp 1 (.int .i64 k) H ?_
  obtain ⟨b6, o7, rfl⟩ := H.addr 0 rfl (by omega)
  refine rt 2 (pp b6 (o7 + (k : Int).toNat * 1)) (xN b6 (o7) x.length cx k Tryz.underlying26 ti4 rfl rfl (by omega) (by omega)) H ?_
  refine rt 3 (.bool (x[k]!)) (xm Tryz.isAgg4 rfl (fun _ h => h.Qg 0 rfl k (by omega) (by omega))) H ?_
  refine rtp 4 (.slice ay y.length cy) H ?_
  refine rtp 5 (.int .i64 k) H ?_
  obtain ⟨b8, o9, rfl⟩ := H.addr 1 rfl (by omega)
  refine rt 6 (pp b8 (o9 + (k : Int).toNat * 1)) (xN b8 (o9) y.length cy k Tryz.underlying26 ti4 rfl rfl (by omega) (by omega)) H ?_
  refine rt 7 (.bool (y[k]!)) (xm Tryz.isAgg4 rfl (fun _ h => h.Qg 1 rfl k (by omega) (by omega))) H ?_
  refine rt 8 (.bool ((x[k]!) != (y[k]!))) (y_neB Tryz.underlying4 (x[k]!) (y[k]!) rfl rfl) H ?_
  refine xO (by kernel_rfl) (t_n ?_)
  refine qV ((x[k]!) != (y[k]!)) rfl (fun h10 => ?_) (fun h10 => ?_)
  ·skip
   replace h10 := bne_iff_ne.1 h10
   refine qm (qy ?_)
   refine sp (.bool false) ?_
   refine qw (t_n (xx (b_r (t_r (t_r (b_r (t_r ?_)))))))
   refine ret1 (.bool false) rfl rfl ⟨_, rfl, ?_, H.base⟩
   first | rw [decide_eq_false (fun e => by subst e; omega)] | rw [decide_eq_false (zX (k := k) ‹_›)] | rw [decide_eq_true (vw (k := k) (by omega) (by omega) ‹_›)]
  replace h10 := xI h10
  refine xh (b_n (t_n (qy ?_)))
  refine sp (.int .i64 k) ?_
  refine sw (zJ k 1 rfl rfl (by omega) ?_)
  refine sp (.int .i64 (k + 1)) ?_
  refine qw ?_
  refine xF (m' := x.length - (k + 1)) (by omega) ⟨_, k + 1, (by exact qj (qj (qj (rfl) rfl) rfl) rfl), ?_, ?_, rfl, H⟩
  · omega
  · exact Qu (by omega) (by omega) ‹_› (by first | assumption | omega)
 replace h4 := of_decide_eq_false h4
 refine zy (t_x (t_x (b_x (t_n (qm (qy ?_))))))
 refine sp (.bool true) ?_
 refine qw (t_n (xx ?_))
 refine ret1 (.bool true) rfl rfl ⟨_, rfl, ?_, H.base⟩
 first | rw [decide_eq_false (fun e => by subst e; omega)] | rw [decide_eq_false (zX (k := k) ‹_›)] | rw [decide_eq_true (vw (k := k) (by omega) (by omega) ‹_›)]

theorem eqInt64SS_ok (w : World) (x : List (List Int)) (y : List (List Int)) (ax : Option Addr) (cx : Nat) (Fx : List Nat) (ay : Option Addr) (cy : Nat) (Fy : List Nat) (hx : qQ.rep w Fx [.slice ax x.length cx] x) (hy : qQ.rep w Fy [.slice ay y.length cy] y) : Calls Tryz.prog 14 #[.slice ax x.length cx, .slice ay y.length cy] w (Ret (fun v w' => v = .bool (decide (x = y))) w) := by
 refine enter (n := 27) Tryz.func14 rfl Tryz.ntmps14 (Nat.le_of_ble_eq_true rfl) ?_
 have H := ((St.start w).arg hy).arg hx
 have nhx := qJ hx
 have nhy := qJ hy
 clear hx hy
 refine qm (qy ?_)
 refine sp (.bool false) ?_
 refine qw (t_n (qm (qm (qy ?_))))
 refine sp (.slice ax x.length cx) ?_
 refine sw (zD Tryz.underlying27 ax x.length cx rfl ?_)
 refine sp (.slice ay y.length cy) ?_
 refine sw (zD Tryz.underlying27 ay y.length cy rfl ?_)
 refine sp (.bool ((x.length : Int) != y.length)) ?_
 refine qw (t_n ?_)
 refine qV ((x.length : Int) != y.length) rfl (fun h1 => ?_) (fun h1 => ?_)
 ·skip
  replace h1 := bne_iff_ne.1 h1
  refine qm (qy ?_)
  refine sp (.bool false) ?_
  refine qw (t_n (xx (t_r ?_)))
  refine ret1 (.bool false) rfl rfl ⟨_, rfl, ?_, H.base⟩
  first | rw [decide_eq_false (fun e => by subst e; omega)] | rw [decide_eq_false (zX (k := k) ‹_›)] | rw [decide_eq_true (vw (k := k) (by omega) (by omega) ‹_›)]
 replace h1 := xI h1
 refine xh (t_n (qm (qm (qy ?_))))
 refine sp (.int .i64 0) ?_
 refine qw (t_n (xu ?_))
 refine zG (fun m' ρ w2 => ∃ (junk : Env) (k : Nat), ρ = upd (upd (upd junk 0 (.slice ax x.length cx)) 1 (.slice ay y.length cy)) 5 (.int .i64 k) ∧ (k ≤ x.length) ∧ (x.take k = y.take k) ∧ m' = x.length - k ∧ St w w2 [] [isF false Fx (.slice ax x.length cx) x, isF false Fy (.slice ay y.length cy) y]) (x.length - 0) ⟨_, 0, (by exact qj (qj (qj (rfl) rfl) rfl) rfl), (by omega), (by rfl), rfl, H⟩ ?_
 clear H
 rintro m' ρ w3 ⟨junk, k, rfl, i0, i1, rfl, H⟩
 refine qm (qm (qy ?_))
 refine sps [.int .i64 k, .slice ax x.length cx] ?_
 refine sw (zD Tryz.underlying27 ax x.length cx rfl ?_)
 refine sp (.bool (decide ((k : Int) < x.length))) ?_
 refine qw (t_n ?_)
 refine qV (decide ((k : Int) < x.length)) rfl (fun h4 => ?_) (fun h4 => ?_)
 ·skip
  replace h4 := of_decide_eq_true h4
  refine xh (t_n (qm (xu (qm ?_))))
  refine jk rfl H fun H => ?_
  refine rtp 0 (.slice ax x.length cx) H ?_
  refine rtp 1 (.int .i64 k) H ?_
  obtain ⟨b6, o7, rfl⟩ := H.addr 0 rfl (by omega)
  obtain ⟨ae8, ce8, Fe8, H⟩ := H.jC 0 rfl k k (by omega) (by omega) (by omega)
  refine rt 2 (pp b6 (o7 + (k : Int).toNat * 1)) (xN b6 (o7) x.length cx k Tryz.underlying27 ti22 rfl rfl (by omega) (by omega)) (H.sel _ (.refl _) _ (fun _ h => List.mem_cons_of_mem _ (List.mem_cons_of_mem _ (h)))) ?_
  refine rtp 4 (.slice ay y.length cy) (H.sel _ (.refl _) _ (fun _ h => List.mem_cons_of_mem _ (List.mem_cons_of_mem _ (h)))) ?_
  refine rtp 5 (.int .i64 k) (H.sel _ (.refl _) _ (fun _ h => List.mem_cons_of_mem _ (List.mem_cons_of_mem _ (h)))) ?_
  obtain ⟨b9, o10, rfl⟩ := H.addr 3 rfl (by omega)
  obtain ⟨ae11, ce11, Fe11, H⟩ := H.jC 3 rfl k k (by omega) (by omega) (by omega)
  refine rt 6 (pp b9 (o10 + (k : Int).toNat * 1)) (xN b9 (o10) y.length cy k Tryz.underlying27 ti22 rfl rfl (by omega) (by omega)) (H.sel _ (.refl _) _ (fun _ h => List.mem_cons_of_mem _ (List.mem_cons_of_mem _ (List.mem_cons_of_mem _ (List.mem_cons_of_mem _ (h)))))) ?_
  refine xB [3, 7] (by kernel_rfl) (by simp) (zh rfl ?_ (zh rfl ?_ xC))
  ·skip
   refine qE (.slice ae8 ((x[k]!).length) ce8) Tryz.isAgg22 rfl (H.xR 3 rfl 0 rfl) ?_
   refine ⟨H.sel _ (.refl _) _ (fun _ h => List.mem_cons_of_mem _ (List.mem_cons_of_mem _ (List.mem_cons_of_mem _ (List.mem_cons_of_mem _ (h))))), ?_⟩
   refine xB [7] (by kernel_rfl) (by simp) (zh rfl ?_ xC)
   refine qE (.slice ae11 ((y[k]!).length) ce11) Tryz.isAgg22 rfl (H.xR 1 rfl 0 rfl) ?_
   refine ⟨H.sel _ (.refl _) _ (fun _ h => List.mem_cons_of_mem _ (List.mem_cons_of_mem _ (List.mem_cons_of_mem _ (List.mem_cons_of_mem _ (h))))), ?_⟩
   refine xB [8] (by kernel_rfl) (by simp) (zh rfl ?_ xC)
   refine xf #[.slice ae8 ((x[k]!).length) ce8, .slice ae11 ((y[k]!).length) ce11] rfl rfl Tryz.call27 (Q7 w3.drew (x[k]!) (y[k]!) ae8 ce8 Fe8 ae11 ce11 Fe11 (H.get 2 rfl).1 (H.get 0 rfl).1) ?_
   rintro _ w12 rfl x13
   replace H := H.ext x13
   refine ⟨H.sel _ (.refl _) _ (fun _ h => List.mem_cons_of_mem _ (List.mem_cons_of_mem _ (List.mem_cons_of_mem _ (List.mem_cons_of_mem _ (h))))), ?_⟩
   refine rtp 9 (.bool (!(decide ((x[k]!) = (y[k]!))))) (H.sel _ (.refl _) _ (fun _ h => List.mem_cons_of_mem _ (List.mem_cons_of_mem _ (List.mem_cons_of_mem _ (List.mem_cons_of_mem _ (h)))))) ?_
   refine xO (by kernel_rfl) (t_n ?_)
   refine qV (!(decide ((x[k]!) = (y[k]!)))) rfl (fun h14 => ?_) (fun h14 => ?_)
   ·skip
    replace h14 := xe h14
    replace h14 := of_decide_eq_false h14
    refine qm (qy ?_)
    refine sp (.bool false) ?_
    refine qw (t_n (xx (b_r (t_r (t_r (b_r (t_r ?_)))))))
    refine ret1 (.bool false) rfl rfl ⟨_, rfl, ?_, H.base⟩
    first | rw [decide_eq_false (fun e => by subst e; omega)] | rw [decide_eq_false (zX (k := k) ‹_›)] | rw [decide_eq_true (vw (k := k) (by omega) (by omega) ‹_›)]
   replace h14 := qX h14
   replace h14 := of_decide_eq_true h14
   refine xh (b_n (t_n (qy ?_)))
   refine sp (.int .i64 k) ?_
   refine sw (zJ k 1 rfl rfl (by omega) ?_)
   refine sp (.int .i64 (k + 1)) ?_
   refine qw ?_
   refine xF (m' := x.length - (k + 1)) (by omega) ⟨_, k + 1, (by exact qj (qj (qj (rfl) rfl) rfl) rfl), ?_, ?_, rfl, H.sel _ (.refl _) _ (by simp)⟩
   · omega
   · exact Qu (by omega) (by omega) ‹_› (by first | assumption | omega)
  refine qE (.slice ae11 ((y[k]!).length) ce11) Tryz.isAgg22 rfl (H.xR 1 rfl 0 rfl) ?_
  refine ⟨H.sel _ (.refl _) _ (fun _ h => List.mem_cons_of_mem _ (List.mem_cons_of_mem _ (List.mem_cons_of_mem _ (List.mem_cons_of_mem _ (h))))), ?_⟩
  refine xB [3] (by kernel_rfl) (by simp) (zh rfl ?_ xC)
  refine qE (.slice ae8 ((x[k]!).length) ce8) Tryz.isAgg22 rfl (H.xR 3 rfl 0 rfl) ?_
  refine ⟨H.sel _ (.refl _) _ (fun _ h => List.mem_cons_of_mem _ (List.mem_cons_of_mem _ (List.mem_cons_of_mem _ (List.mem_cons_of_mem _ (h))))), ?_⟩
  refine xB [8] (by kernel_rfl) (by simp) (zh rfl ?_ xC)
  refine xf #[.slice ae8 ((x[k]!).length) ce8, .slice ae11 ((y[k]!).length) ce11] rfl rfl Tryz.call27 (Q7 w3.drew (x[k]!) (y[k]!) ae8 ce8 Fe8 ae11 ce11 Fe11 (H.get 2 rfl).1 (H.get 0 rfl).1) ?_
  rintro _ w15 rfl x16
  replace H := H.ext x16
  refine ⟨H.sel _ (.refl _) _ (fun _ h => List.mem_cons_of_mem _ (List.mem_cons_of_mem _ (List.mem_cons_of_mem _ (List.mem_cons_of_mem _ (h))))), ?_⟩
  refine rtp 9 (.bool (!(decide ((x[k]!) = (y[k]!))))) (H.sel _ (.refl _) _ (fun _ h => List.mem_cons_of_mem _ (List.mem_cons_of_mem _ (List.mem_cons_of_mem _ (List.mem_cons_of_mem _ (h)))))) ?_
  refine xO (by kernel_rfl) (t_n ?_)
  refine qV (!(decide ((x[k]!) = (y[k]!)))) rfl (fun h17 => ?_) (fun h17 => ?_)
  ·skip
   replace h17 := xe h17
   replace h17 := of_decide_eq_false h17
   refine qm (qy ?_)
   refine sp (.bool false) ?_
   refine qw (t_n (xx (b_r (t_r (t_r (b_r (t_r ?_)))))))
   refine ret1 (.bool false) rfl rfl ⟨_, rfl, ?_, H.base⟩
   first | rw [decide_eq_false (fun e => by subst e; omega)] | rw [decide_eq_false (zX (k := k) ‹_›)] | rw [decide_eq_true (vw (k := k) (by omega) (by omega) ‹_›)]
  replace h17 := qX h17
  replace h17 := of_decide_eq_true h17
  refine xh (b_n (t_n (qy ?_)))
  refine sp (.int .i64 k) ?_
  refine sw (zJ k 1 rfl rfl (by omega) ?_)
  refine sp (.int .i64 (k + 1)) ?_
  refine qw ?_
  refine xF (m' := x.length - (k + 1)) (by omega) ⟨_, k + 1, (by exact qj (qj (qj (rfl) rfl) rfl) rfl), ?_, ?_, rfl, H.sel _ (.refl _) _ (by simp)⟩
  · omega
  · exact Qu (by omega) (by omega) ‹_› (by first | assumption | omega)
 replace h4 := of_decide_eq_false h4
 refine zy (t_x (t_x (b_x (t_n (qm (qy ?_))))))
 refine sp (.bool true) ?_
 refine qw (t_n (xx ?_))
 refine ret1 (.bool true) rfl rfl ⟨_, rfl, ?_, H.base⟩
 first | rw [decide_eq_false (fun e => by subst e; omega)] | rw [decide_eq_false (zX (k := k) ‹_›)] | rw [decide_eq_true (vw (k := k) (by omega) (by omega) ‹_›)]

theorem eqInto_ok (w : World) (x : IntoD) (y : IntoD) (axBag : Option Addr) (cxBag : Nat) (FxBag : List Nat) (ayBag : Option Addr) (cyBag : Nat) (FyBag : List Nat) (hxBag : qQ.rep w FxBag [.slice axBag x.zW.length cxBag] x.zW) (hyBag : qQ.rep w FyBag [.slice ayBag y.zW.length cyBag] y.zW) : Calls Tryz.prog 162 #[.agg #[.int .i64 x.qA, .slice axBag x.zW.length cxBag], .agg #[.int .i64 y.qA, .slice ayBag y.zW.length cyBag]] w (Ret (fun v w' => v = .bool (decide (x = y))) w) := by
 refine enter (n := 16) Tryz.func162 rfl Tryz.ntmps162 (Nat.le_of_ble_eq_true rfl) ?_
 have H := ((St.start w).arg hyBag).arg hxBag
 have nhxBag := qJ hxBag
 have nhyBag := qJ hyBag
 clear hxBag hyBag
 refine qm (qy ?_)
 refine sw (o_box H (.agg #[.int .i64 x.qA, .slice axBag x.zW.length cxBag]) rfl fun b1 w2 H => ?_)
 replace H : St _ _ [.box b1 [.int .i64 x.qA, .slice axBag x.zW.length cxBag] 115] _ := H
 refine sw (o_box H (.agg #[.int .i64 y.qA, .slice ayBag y.zW.length cyBag]) rfl fun b3 w4 H => ?_)
 replace H : St _ _ [.box b3 [.int .i64 y.qA, .slice ayBag y.zW.length cyBag] 115, .box b1 [.int .i64 x.qA, .slice axBag x.zW.length cxBag] 115] _ := H
 refine sp (.bool false) ?_
 refine qw (t_n (qm (qm (qy ?_))))
 refine sw (qM b1 (0) 0 Tryz.underlying115 rfl rfl Tryz.sizeOf2 rfl ?_)
 refine sw (qE (.int .i64 x.qA) Tryz.isAgg2 rfl (H.cell 1 rfl rfl) ?_)
 refine sw (qM b3 (0) 0 Tryz.underlying115 rfl rfl Tryz.sizeOf2 rfl ?_)
 refine sw (qE (.int .i64 y.qA) Tryz.isAgg2 rfl (H.cell 0 rfl rfl) ?_)
 refine sp (.bool ((x.qA : Int) != y.qA)) ?_
 refine qw (t_n ?_)
 refine qV ((x.qA : Int) != y.qA) rfl (fun h5 => ?_) (fun h5 => ?_)
 ·skip
  replace h5 := bne_iff_ne.1 h5
  refine qm (qy ?_)
  refine sp (.bool false) ?_
  refine qw (t_n (xx (t_r ?_)))
  refine ret1 (.bool false) rfl rfl ⟨_, rfl, ?_, H.base⟩
  rw [decide_eq_false (fun e => by subst e; simp_all)]
 replace h5 := xI h5
 refine xh (t_n (qm (qm (qy ?_))))
 refine sw (qM b1 (0) 1 Tryz.underlying115 rfl rfl Tryz.sizeOf22 rfl ?_)
 refine sw (qE (.slice axBag x.zW.length cxBag) Tryz.isAgg22 rfl (H.cell 1 rfl rfl) ?_)
 refine sw (qM b3 (0) 1 Tryz.underlying115 rfl rfl Tryz.sizeOf22 rfl ?_)
 refine sw (qE (.slice ayBag y.zW.length cyBag) Tryz.isAgg22 rfl (H.cell 0 rfl rfl) ?_)
 refine sw (xf #[.slice axBag x.zW.length cxBag, .slice ayBag y.zW.length cyBag] rfl rfl Tryz.call27 (Q7 w4 x.zW y.zW axBag cxBag FxBag ayBag cyBag FyBag (H.get 0 rfl).1 (H.get 1 rfl).1) ?_)
 rintro _ w6 rfl x7
 replace H := H.ext x7
 refine sp (.bool (!(decide (x.zW = y.zW)))) ?_
 refine qw (t_n ?_)
 refine qV (!(decide (x.zW = y.zW))) rfl (fun h8 => ?_) (fun h8 => ?_)
 ·skip
  replace h8 := xe h8
  replace h8 := of_decide_eq_false h8
  refine qm (qy ?_)
  refine sp (.bool false) ?_
  refine qw (t_n (xx (t_r ?_)))
  refine ret1 (.bool false) rfl rfl ⟨_, rfl, ?_, H.base⟩
  rw [decide_eq_false (fun e => by subst e; simp_all)]
 replace h8 := qX h8
 replace h8 := of_decide_eq_true h8
 refine xh (t_n (qm (qy ?_)))
 refine sp (.bool true) ?_
 refine qw (t_n (xx ?_))
 refine ret1 (.bool true) rfl rfl ⟨_, rfl, ?_, H.base⟩
 rw [decide_eq_true (by cases x; cases y; simp_all)]

theorem eqIntoS_ok (w : World) (x : List IntoD) (y : List IntoD) (ax : Option Addr) (cx : Nat) (Fx : List Nat) (ay : Option Addr) (cy : Nat) (Fy : List Nat) (hx : qQ.rep w Fx [.slice ax x.length cx] x) (hy : qQ.rep w Fy [.slice ay y.length cy] y) : Calls Tryz.prog 148 #[.slice ax x.length cx, .slice ay y.length cy] w (Ret (fun v w' => v = .bool (decide (x = y))) w) := by
 refine enter (n := 27) Tryz.func148 rfl Tryz.ntmps148 (Nat.le_of_ble_eq_true rfl) ?_
 have H := ((St.start w).arg hy).arg hx
 have nhx := qJ hx
 have nhy := qJ hy
 clear hx hy
 refine qm (qy ?_)
 refine sp (.bool false) ?_
 refine qw (t_n (qm (qm (qy ?_))))
 refine sp (.slice ax x.length cx) ?_
 refine sw (zD Tryz.underlying108 ax x.length cx rfl ?_)
 refine sp (.slice ay y.length cy) ?_
 refine sw (zD Tryz.underlying108 ay y.length cy rfl ?_)
 refine sp (.bool ((x.length : Int) != y.length)) ?_
 refine qw (t_n ?_)
 refine qV ((x.length : Int) != y.length) rfl (fun h1 => ?_) (fun h1 => ?_)
 ·skip
  replace h1 := bne_iff_ne.1 h1
  refine qm (qy ?_)
  refine sp (.bool false) ?_
  refine qw (t_n (xx (t_r ?_)))
  refine ret1 (.bool false) rfl rfl ⟨_, rfl, ?_, H.base⟩
  first | rw [decide_eq_false (fun e => by subst e; omega)] | rw [decide_eq_false (zX (k := k) ‹_›)] | rw [decide_eq_true (vw (k := k) (by omega) (by omega) ‹_›)]
 replace h1 := xI h1
 refine xh (t_n (qm (qm (qy ?_))))
 refine sp (.int .i64 0) ?_
 refine qw (t_n (xu ?_))
 refine zG (fun m' ρ w2 => ∃ (junk : Env) (k : Nat), ρ = upd (upd (upd junk 0 (.slice ax x.length cx)) 1 (.slice ay y.length cy)) 5 (.int .i64 k) ∧ (k ≤ x.length) ∧ (x.take k = y.take k) ∧ m' = x.length - k ∧ St w w2 [] [isF false Fx (.slice ax x.length cx) x, isF false Fy (.slice ay y.length cy) y]) (x.length - 0) ⟨_, 0, (by exact qj (qj (qj (rfl) rfl) rfl) rfl), (by omega), (by rfl), rfl, H⟩ ?_
 clear H
 rintro m' ρ w3 ⟨junk, k, rfl, i0, i1, rfl, H⟩
 refine qm (qm (qy ?_))
 refine sps [.int .i64 k, .slice ax x.length cx] ?_
 refine sw (zD Tryz.underlying108 ax x.length cx rfl ?_)
 refine sp (.bool (decide ((k : Int) < x.length))) ?_
 refine qw (t_n ?_)
 refine qV (decide ((k : Int) < x.length)) rfl (fun h4 => ?_) (fun h4 => ?_)
 ·skip
  replace h4 := of_decide_eq_true h4
  refine xh (t_n (qm (xu (qm ?_))))
  refine jk rfl H fun H => ?_
  refine rtp 0 (.slice ax x.length cx) H ?_
  refine rtp 1 (.int .i64 k) H ?_
  obtain ⟨b6, o7, rfl⟩ := H.addr 0 rfl (by omega)
  obtain ⟨ae8Bag, ce8Bag, Fe8Bag, H⟩ := H.jl 0 rfl k k (by omega) (by omega) (by omega)
  refine rt 2 (pp b6 (o7 + (k : Int).toNat * 2)) (xN b6 (o7) x.length cx k Tryz.underlying108 ti115 rfl rfl (by omega) (by omega)) (H.sel _ (.refl _) _ (fun _ h => List.mem_cons_of_mem _ (List.mem_cons_of_mem _ (h)))) ?_
  refine rtp 4 (.slice ay y.length cy) (H.sel _ (.refl _) _ (fun _ h => List.mem_cons_of_mem _ (List.mem_cons_of_mem _ (h)))) ?_
  refine rtp 5 (.int .i64 k) (H.sel _ (.refl _) _ (fun _ h => List.mem_cons_of_mem _ (List.mem_cons_of_mem _ (h)))) ?_
  obtain ⟨b9, o10, rfl⟩ := H.addr 3 rfl (by omega)
  obtain ⟨ae11Bag, ce11Bag, Fe11Bag, H⟩ := H.jl 3 rfl k k (by omega) (by omega) (by omega)
  refine rt 6 (pp b9 (o10 + (k : Int).toNat * 2)) (xN b9 (o10) y.length cy k Tryz.underlying108 ti115 rfl rfl (by omega) (by omega)) (H.sel _ (.refl _) _ (fun _ h => List.mem_cons_of_mem _ (List.mem_cons_of_mem _ (List.mem_cons_of_mem _ (List.mem_cons_of_mem _ (h)))))) ?_
  refine xB [3, 7] (by kernel_rfl) (by simp) (zh rfl ?_ (zh rfl ?_ xC))
  ·skip
   refine zi [.int .i64 ((x[k]!).qA), .slice ae8Bag (((x[k]!).zW).length) ce8Bag] Tryz.isAgg115 Tryz.sizeOf115 rfl (qG (H.get 3 rfl) 0 2) ?_
   refine ⟨H.sel _ (.refl _) _ (fun _ h => List.mem_cons_of_mem _ (List.mem_cons_of_mem _ (List.mem_cons_of_mem _ (List.mem_cons_of_mem _ (h))))), ?_⟩
   refine xB [7] (by kernel_rfl) (by simp) (zh rfl ?_ xC)
   refine zi [.int .i64 ((y[k]!).qA), .slice ae11Bag (((y[k]!).zW).length) ce11Bag] Tryz.isAgg115 Tryz.sizeOf115 rfl (qG (H.get 1 rfl) 0 2) ?_
   refine ⟨H.sel _ (.refl _) _ (fun _ h => List.mem_cons_of_mem _ (List.mem_cons_of_mem _ (List.mem_cons_of_mem _ (List.mem_cons_of_mem _ (h))))), ?_⟩
   refine xB [8] (by kernel_rfl) (by simp) (zh rfl ?_ xC)
   refine xf #[.agg #[.int .i64 ((x[k]!).qA), .slice ae8Bag (((x[k]!).zW).length) ce8Bag], .agg #[.int .i64 ((y[k]!).qA), .slice ae11Bag (((y[k]!).zW).length) ce11Bag]] rfl rfl Tryz.call162 (eqInto_ok w3.drew (x[k]!) (y[k]!) ae8Bag ce8Bag Fe8Bag ae11Bag ce11Bag Fe11Bag (H.get 2 rfl).1 (H.get 0 rfl).1) ?_
   rintro _ w12 rfl x13
   replace H := H.ext x13
   refine ⟨H.sel _ (.refl _) _ (fun _ h => List.mem_cons_of_mem _ (List.mem_cons_of_mem _ (List.mem_cons_of_mem _ (List.mem_cons_of_mem _ (h))))), ?_⟩
   refine rtp 9 (.bool (!(decide ((x[k]!) = (y[k]!))))) (H.sel _ (.refl _) _ (fun _ h => List.mem_cons_of_mem _ (List.mem_cons_of_mem _ (List.mem_cons_of_mem _ (List.mem_cons_of_mem _ (h)))))) ?_
   refine xO (by kernel_rfl) (t_n ?_)
   refine qV (!(decide ((x[k]!) = (y[k]!)))) rfl (fun h14 => ?_) (fun h14 => ?_)
   ·skip
    replace h14 := xe h14
    replace h14 := of_decide_eq_false h14
    refine qm (qy ?_)
    refine sp (.bool false) ?_
    refine qw (t_n (xx (b_r (t_r (t_r (b_r (t_r ?_)))))))
    refine ret1 (.bool false) rfl rfl ⟨_, rfl, ?_, H.base⟩
    first | rw [decide_eq_false (fun e => by subst e; omega)] | rw [decide_eq_false (zX (k := k) ‹_›)] | rw [decide_eq_true (vw (k := k) (by omega) (by omega) ‹_›)]
   replace h14 := qX h14
   replace h14 := of_decide_eq_true h14
   refine xh (b_n (t_n (qy ?_)))
   refine sp (.int .i64 k) ?_
   refine sw (zJ k 1 rfl rfl (by omega) ?_)
   refine sp (.int .i64 (k + 1)) ?_
   refine qw ?_
   refine xF (m' := x.length - (k + 1)) (by omega) ⟨_, k + 1, (by exact qj (qj (qj (rfl) rfl) rfl) rfl), ?_, ?_, rfl, H.sel _ (.refl _) _ (by simp)⟩
   · omega
   · exact Qu (by omega) (by omega) ‹_› (by first | assumption | omega)
  refine zi [.int .i64 ((y[k]!).qA), .slice ae11Bag (((y[k]!).zW).length) ce11Bag] Tryz.isAgg115 Tryz.sizeOf115 rfl (qG (H.get 1 rfl) 0 2) ?_
  refine ⟨H.sel _ (.refl _) _ (fun _ h => List.mem_cons_of_mem _ (List.mem_cons_of_mem _ (List.mem_cons_of_mem _ (List.mem_cons_of_mem _ (h))))), ?_⟩
  refine xB [3] (by kernel_rfl) (by simp) (zh rfl ?_ xC)
  refine zi [.int .i64 ((x[k]!).qA), .slice ae8Bag (((x[k]!).zW).length) ce8Bag] Tryz.isAgg115 Tryz.sizeOf115 rfl (qG (H.get 3 rfl) 0 2) ?_
  refine ⟨H.sel _ (.refl _) _ (fun _ h => List.mem_cons_of_mem _ (List.mem_cons_of_mem _ (List.mem_cons_of_mem _ (List.mem_cons_of_mem _ (h))))), ?_⟩
  refine xB [8] (by kernel_rfl) (by simp) (zh rfl ?_ xC)
  refine xf #[.agg #[.int .i64 ((x[k]!).qA), .slice ae8Bag (((x[k]!).zW).length) ce8Bag], .agg #[.int .i64 ((y[k]!).qA), .slice ae11Bag (((y[k]!).zW).length) ce11Bag]] rfl rfl Tryz.call162 (eqInto_ok w3.drew (x[k]!) (y[k]!) ae8Bag ce8Bag Fe8Bag ae11Bag ce11Bag Fe11Bag (H.get 2 rfl).1 (H.get 0 rfl).1) ?_
  rintro _ w15 rfl x16
  replace H := H.ext x16
  refine ⟨H.sel _ (.refl _) _ (fun _ h => List.mem_cons_of_mem _ (List.mem_cons_of_mem _ (List.mem_cons_of_mem _ (List.mem_cons_of_mem _ (h))))), ?_⟩
  refine rtp 9 (.bool (!(decide ((x[k]!) = (y[k]!))))) (H.sel _ (.refl _) _ (fun _ h => List.mem_cons_of_mem _ (List.mem_cons_of_mem _ (List.mem_cons_of_mem _ (List.mem_cons_of_mem _ (h)))))) ?_
  refine xO (by kernel_rfl) (t_n ?_)
  refine qV (!(decide ((x[k]!) = (y[k]!)))) rfl (fun h17 => ?_) (fun h17 => ?_)
  ·skip
   replace h17 := xe h17
   replace h17 := of_decide_eq_false h17
   refine qm (qy ?_)
   refine sp (.bool false) ?_
   refine qw (t_n (xx (b_r (t_r (t_r (b_r (t_r ?_)))))))
   refine ret1 (.bool false) rfl rfl ⟨_, rfl, ?_, H.base⟩
   first | rw [decide_eq_false (fun e => by subst e; omega)] | rw [decide_eq_false (zX (k := k) ‹_›)] | rw [decide_eq_true (vw (k := k) (by omega) (by omega) ‹_›)]
  replace h17 := qX h17
  replace h17 := of_decide_eq_true h17
  refine xh (b_n (t_n (qy ?_)))
  refine sp (.int .i64 k) ?_
  refine sw (zJ k 1 rfl rfl (by omega) ?_)
  refine sp (.int .i64 (k + 1)) ?_
  refine qw ?_
  refine xF (m' := x.length - (k + 1)) (by omega) ⟨_, k + 1, (by exact qj (qj (qj (rfl) rfl) rfl) rfl), ?_, ?_, rfl, H.sel _ (.refl _) _ (by simp)⟩
  · omega
  · exact Qu (by omega) (by omega) ‹_› (by first | assumption | omega)
 replace h4 := of_decide_eq_false h4
 refine zy (t_x (t_x (b_x (t_n (qm (qy ?_))))))
 refine sp (.bool true) ?_
 refine qw (t_n (xx ?_))
 refine ret1 (.bool true) rfl rfl ⟨_, rfl, ?_, H.base⟩
 first | rw [decide_eq_false (fun e => by subst e; omega)] | rw [decide_eq_false (zX (k := k) ‹_›)] | rw [decide_eq_true (vw (k := k) (by omega) (by omega) ‹_›)]

theorem eqRule_ok (w : World) (x : QB) (y : QB) (yO : Option Addr) (yJ : Nat) (FxNeed : List Nat) (yS : Option Addr) (yN : Nat) (FxHave : List Nat) (yP : Option Addr) (yK : Nat) (FxLack : List Nat) (yR : Option Addr) (yM : Nat) (FxHere : List Nat) (XE : Option Addr) (XD : Nat) (FxOut : List Nat) (yQ : Option Addr) (yL : Nat) (FxInto : List Nat) (ayNeed : Option Addr) (cyNeed : Nat) (FyNeed : List Nat) (ayHave : Option Addr) (cyHave : Nat) (FyHave : List Nat) (ayLack : Option Addr) (cyLack : Nat) (FyLack : List Nat) (ayHere : Option Addr) (cyHere : Nat) (FyHere : List Nat) (ayOut : Option Addr) (cyOut : Nat) (FyOut : List Nat) (ayInto : Option Addr) (cyInto : Nat) (FyInto : List Nat) (hxNeed : qQ.rep w FxNeed [.slice yO x.qW.length yJ] x.qW) (hxHave : qQ.rep w FxHave [.slice yS x.xg.length yN] x.xg) (hxLack : qQ.rep w FxLack [.slice yP x.xk.length yK] x.xk) (hxHere : qQ.rep w FxHere [.slice yR x.xw.length yM] x.xw) (hxOut : qQ.rep w FxOut [.slice XE x.zf.length XD] x.zf) (hxInto : qQ.rep w FxInto [.slice yQ x.qB.length yL] x.qB) (hyNeed : qQ.rep w FyNeed [.slice ayNeed y.qW.length cyNeed] y.qW) (hyHave : qQ.rep w FyHave [.slice ayHave y.xg.length cyHave] y.xg) (hyLack : qQ.rep w FyLack [.slice ayLack y.xk.length cyLack] y.xk) (hyHere : qQ.rep w FyHere [.slice ayHere y.xw.length cyHere] y.xw) (hyOut : qQ.rep w FyOut [.slice ayOut y.zf.length cyOut] y.zf) (hyInto : qQ.rep w FyInto [.slice ayInto y.qB.length cyInto] y.qB) : Calls Tryz.prog 104 #[.agg #[.int .i64 x.qA, .int .i64 x.xZ, .slice yO x.qW.length yJ, .slice yS x.xg.length yN, .slice yP x.xk.length yK, .slice yR x.xw.length yM, .slice XE x.zf.length XD, .slice yQ x.qB.length yL, .bool x.xP], .agg #[.int .i64 y.qA, .int .i64 y.xZ, .slice ayNeed y.qW.length cyNeed, .slice ayHave y.xg.length cyHave, .slice ayLack y.xk.length cyLack, .slice ayHere y.xw.length cyHere, .slice ayOut y.zf.length cyOut, .slice ayInto y.qB.length cyInto, .bool y.xP]] w (Ret (fun v w' => v = .bool (decide (x = y))) w) := by
 refine enter (n := 56) Tryz.func104 rfl Tryz.ntmps104 (Nat.le_of_ble_eq_true rfl) ?_
 have H := ((((((((((((St.start w).arg hyInto).arg hyOut).arg hyHere).arg hyLack).arg hyHave).arg hyNeed).arg hxInto).arg hxOut).arg hxHere).arg hxLack).arg hxHave).arg hxNeed
 have nhxNeed := qJ hxNeed
 have nhxHave := qJ hxHave
 have nhxLack := qJ hxLack
 have nhxHere := qJ hxHere
 have nhxOut := qJ hxOut
 have nhxInto := qJ hxInto
 have nhyNeed := qJ hyNeed
 have nhyHave := qJ hyHave
 have nhyLack := qJ hyLack
 have nhyHere := qJ hyHere
 have nhyOut := qJ hyOut
 have nhyInto := qJ hyInto
 clear hxNeed hxHave hxLack hxHere hxOut hxInto hyNeed hyHave hyLack hyHere hyOut hyInto
 refine qm (qy ?_)
 refine sw (o_box H (.agg #[.int .i64 x.qA, .int .i64 x.xZ, .slice yO x.qW.length yJ, .slice yS x.xg.length yN, .slice yP x.xk.length yK, .slice yR x.xw.length yM, .slice XE x.zf.length XD, .slice yQ x.qB.length yL, .bool x.xP]) rfl fun b1 w2 H => ?_)
 replace H : St _ _ [.box b1 [.int .i64 x.qA, .int .i64 x.xZ, .slice yO x.qW.length yJ, .slice yS x.xg.length yN, .slice yP x.xk.length yK, .slice yR x.xw.length yM, .slice XE x.zf.length XD, .slice yQ x.qB.length yL, .bool x.xP] 110] _ := H
 refine sw (o_box H (.agg #[.int .i64 y.qA, .int .i64 y.xZ, .slice ayNeed y.qW.length cyNeed, .slice ayHave y.xg.length cyHave, .slice ayLack y.xk.length cyLack, .slice ayHere y.xw.length cyHere, .slice ayOut y.zf.length cyOut, .slice ayInto y.qB.length cyInto, .bool y.xP]) rfl fun b3 w4 H => ?_)
 replace H : St _ _ [.box b3 [.int .i64 y.qA, .int .i64 y.xZ, .slice ayNeed y.qW.length cyNeed, .slice ayHave y.xg.length cyHave, .slice ayLack y.xk.length cyLack, .slice ayHere y.xw.length cyHere, .slice ayOut y.zf.length cyOut, .slice ayInto y.qB.length cyInto, .bool y.xP] 110, .box b1 [.int .i64 x.qA, .int .i64 x.xZ, .slice yO x.qW.length yJ, .slice yS x.xg.length yN, .slice yP x.xk.length yK, .slice yR x.xw.length yM, .slice XE x.zf.length XD, .slice yQ x.qB.length yL, .bool x.xP] 110] _ := H
 refine sp (.bool false) ?_
 refine qw (t_n (qm (qm (qy ?_))))
 refine sw (qM b1 (0) 0 Tryz.underlying110 rfl rfl Tryz.sizeOf2 rfl ?_)
 refine sw (qE (.int .i64 x.qA) Tryz.isAgg2 rfl (H.cell 1 rfl rfl) ?_)
 refine sw (qM b3 (0) 0 Tryz.underlying110 rfl rfl Tryz.sizeOf2 rfl ?_)
 refine sw (qE (.int .i64 y.qA) Tryz.isAgg2 rfl (H.cell 0 rfl rfl) ?_)
 refine sp (.bool ((x.qA : Int) != y.qA)) ?_
 refine qw (t_n ?_)
 refine qV ((x.qA : Int) != y.qA) rfl (fun h5 => ?_) (fun h5 => ?_)
 ·skip
  replace h5 := bne_iff_ne.1 h5
  refine qm (qy ?_)
  refine sp (.bool false) ?_
  refine qw (t_n (xx (t_r ?_)))
  refine ret1 (.bool false) rfl rfl ⟨_, rfl, ?_, H.base⟩
  rw [decide_eq_false (fun e => by subst e; simp_all)]
 replace h5 := xI h5
 refine xh (t_n (qm (qm (qy ?_))))
 refine sw (qM b1 (0) 1 Tryz.underlying110 rfl rfl Tryz.sizeOf2 rfl ?_)
 refine sw (qE (.int .i64 x.xZ) Tryz.isAgg2 rfl (H.cell 1 rfl rfl) ?_)
 refine sw (qM b3 (0) 1 Tryz.underlying110 rfl rfl Tryz.sizeOf2 rfl ?_)
 refine sw (qE (.int .i64 y.xZ) Tryz.isAgg2 rfl (H.cell 0 rfl rfl) ?_)
 refine sp (.bool ((x.xZ : Int) != y.xZ)) ?_
 refine qw (t_n ?_)
 refine qV ((x.xZ : Int) != y.xZ) rfl (fun h6 => ?_) (fun h6 => ?_)
 ·skip
  replace h6 := bne_iff_ne.1 h6
  refine qm (qy ?_)
  refine sp (.bool false) ?_
  refine qw (t_n (xx (t_r ?_)))
  refine ret1 (.bool false) rfl rfl ⟨_, rfl, ?_, H.base⟩
  rw [decide_eq_false (fun e => by subst e; simp_all)]
 replace h6 := xI h6
 refine xh (t_n (qm (qm (qy ?_))))
 refine sw (qM b1 (0) 2 Tryz.underlying110 rfl rfl Tryz.sizeOf22 rfl ?_)
 refine sw (qE (.slice yO x.qW.length yJ) Tryz.isAgg22 rfl (H.cell 1 rfl rfl) ?_)
 refine sw (qM b3 (0) 2 Tryz.underlying110 rfl rfl Tryz.sizeOf22 rfl ?_)
 refine sw (qE (.slice ayNeed y.qW.length cyNeed) Tryz.isAgg22 rfl (H.cell 0 rfl rfl) ?_)
 refine sw (xf #[.slice yO x.qW.length yJ, .slice ayNeed y.qW.length cyNeed] rfl rfl Tryz.call27 (Q7 w4 x.qW y.qW yO yJ FxNeed ayNeed cyNeed FyNeed (H.get 0 rfl).1 (H.get 6 rfl).1) ?_)
 rintro _ w7 rfl x8
 replace H := H.ext x8
 refine sp (.bool (!(decide (x.qW = y.qW)))) ?_
 refine qw (t_n ?_)
 refine qV (!(decide (x.qW = y.qW))) rfl (fun h9 => ?_) (fun h9 => ?_)
 ·skip
  replace h9 := xe h9
  replace h9 := of_decide_eq_false h9
  refine qm (qy ?_)
  refine sp (.bool false) ?_
  refine qw (t_n (xx (t_r ?_)))
  refine ret1 (.bool false) rfl rfl ⟨_, rfl, ?_, H.base⟩
  rw [decide_eq_false (fun e => by subst e; simp_all)]
 replace h9 := qX h9
 replace h9 := of_decide_eq_true h9
 refine xh (t_n (qm (qm (qy ?_))))
 refine sw (qM b1 (0) 3 Tryz.underlying110 rfl rfl Tryz.sizeOf22 rfl ?_)
 refine sw (qE (.slice yS x.xg.length yN) Tryz.isAgg22 rfl (H.cell 1 rfl rfl) ?_)
 refine sw (qM b3 (0) 3 Tryz.underlying110 rfl rfl Tryz.sizeOf22 rfl ?_)
 refine sw (qE (.slice ayHave y.xg.length cyHave) Tryz.isAgg22 rfl (H.cell 0 rfl rfl) ?_)
 refine sw (xf #[.slice yS x.xg.length yN, .slice ayHave y.xg.length cyHave] rfl rfl Tryz.call27 (Q7 w7 x.xg y.xg yS yN FxHave ayHave cyHave FyHave (H.get 1 rfl).1 (H.get 7 rfl).1) ?_)
 rintro _ w10 rfl x11
 replace H := H.ext x11
 refine sp (.bool (!(decide (x.xg = y.xg)))) ?_
 refine qw (t_n ?_)
 refine qV (!(decide (x.xg = y.xg))) rfl (fun h12 => ?_) (fun h12 => ?_)
 ·skip
  replace h12 := xe h12
  replace h12 := of_decide_eq_false h12
  refine qm (qy ?_)
  refine sp (.bool false) ?_
  refine qw (t_n (xx (t_r ?_)))
  refine ret1 (.bool false) rfl rfl ⟨_, rfl, ?_, H.base⟩
  rw [decide_eq_false (fun e => by subst e; simp_all)]
 replace h12 := qX h12
 replace h12 := of_decide_eq_true h12
 refine xh (t_n (qm (qm (qy ?_))))
 refine sw (qM b1 (0) 4 Tryz.underlying110 rfl rfl Tryz.sizeOf22 rfl ?_)
 refine sw (qE (.slice yP x.xk.length yK) Tryz.isAgg22 rfl (H.cell 1 rfl rfl) ?_)
 refine sw (qM b3 (0) 4 Tryz.underlying110 rfl rfl Tryz.sizeOf22 rfl ?_)
 refine sw (qE (.slice ayLack y.xk.length cyLack) Tryz.isAgg22 rfl (H.cell 0 rfl rfl) ?_)
 refine sw (xf #[.slice yP x.xk.length yK, .slice ayLack y.xk.length cyLack] rfl rfl Tryz.call27 (Q7 w10 x.xk y.xk yP yK FxLack ayLack cyLack FyLack (H.get 2 rfl).1 (H.get 8 rfl).1) ?_)
 rintro _ w13 rfl x14
 replace H := H.ext x14
 refine sp (.bool (!(decide (x.xk = y.xk)))) ?_
 refine qw (t_n ?_)
 refine qV (!(decide (x.xk = y.xk))) rfl (fun h15 => ?_) (fun h15 => ?_)
 ·skip
  replace h15 := xe h15
  replace h15 := of_decide_eq_false h15
  refine qm (qy ?_)
  refine sp (.bool false) ?_
  refine qw (t_n (xx (t_r ?_)))
  refine ret1 (.bool false) rfl rfl ⟨_, rfl, ?_, H.base⟩
  rw [decide_eq_false (fun e => by subst e; simp_all)]
 replace h15 := qX h15
 replace h15 := of_decide_eq_true h15
 refine xh (t_n (qm (qm (qy ?_))))
 refine sw (qM b1 (0) 5 Tryz.underlying110 rfl rfl Tryz.sizeOf22 rfl ?_)
 refine sw (qE (.slice yR x.xw.length yM) Tryz.isAgg22 rfl (H.cell 1 rfl rfl) ?_)
 refine sw (qM b3 (0) 5 Tryz.underlying110 rfl rfl Tryz.sizeOf22 rfl ?_)
 refine sw (qE (.slice ayHere y.xw.length cyHere) Tryz.isAgg22 rfl (H.cell 0 rfl rfl) ?_)
 refine sw (xf #[.slice yR x.xw.length yM, .slice ayHere y.xw.length cyHere] rfl rfl Tryz.call27 (Q7 w13 x.xw y.xw yR yM FxHere ayHere cyHere FyHere (H.get 3 rfl).1 (H.get 9 rfl).1) ?_)
 rintro _ w16 rfl x17
 replace H := H.ext x17
 refine sp (.bool (!(decide (x.xw = y.xw)))) ?_
 refine qw (t_n ?_)
 refine qV (!(decide (x.xw = y.xw))) rfl (fun h18 => ?_) (fun h18 => ?_)
 ·skip
  replace h18 := xe h18
  replace h18 := of_decide_eq_false h18
  refine qm (qy ?_)
  refine sp (.bool false) ?_
  refine qw (t_n (xx (t_r ?_)))
  refine ret1 (.bool false) rfl rfl ⟨_, rfl, ?_, H.base⟩
  rw [decide_eq_false (fun e => by subst e; simp_all)]
 replace h18 := qX h18
 replace h18 := of_decide_eq_true h18
 refine xh (t_n (qm (qm (qy ?_))))
 refine sw (qM b1 (0) 6 Tryz.underlying110 rfl rfl Tryz.sizeOf22 rfl ?_)
 refine sw (qE (.slice XE x.zf.length XD) Tryz.isAgg22 rfl (H.cell 1 rfl rfl) ?_)
 refine sw (qM b3 (0) 6 Tryz.underlying110 rfl rfl Tryz.sizeOf22 rfl ?_)
 refine sw (qE (.slice ayOut y.zf.length cyOut) Tryz.isAgg22 rfl (H.cell 0 rfl rfl) ?_)
 refine sw (xf #[.slice XE x.zf.length XD, .slice ayOut y.zf.length cyOut] rfl rfl Tryz.call27 (Q7 w16 x.zf y.zf XE XD FxOut ayOut cyOut FyOut (H.get 4 rfl).1 (H.get 10 rfl).1) ?_)
 rintro _ w19 rfl x20
 replace H := H.ext x20
 refine sp (.bool (!(decide (x.zf = y.zf)))) ?_
 refine qw (t_n ?_)
 refine qV (!(decide (x.zf = y.zf))) rfl (fun h21 => ?_) (fun h21 => ?_)
 ·skip
  replace h21 := xe h21
  replace h21 := of_decide_eq_false h21
  refine qm (qy ?_)
  refine sp (.bool false) ?_
  refine qw (t_n (xx (t_r ?_)))
  refine ret1 (.bool false) rfl rfl ⟨_, rfl, ?_, H.base⟩
  rw [decide_eq_false (fun e => by subst e; simp_all)]
 replace h21 := qX h21
 replace h21 := of_decide_eq_true h21
 refine xh (t_n (qm (qm (qy ?_))))
 refine sw (qM b1 (0) 7 Tryz.underlying110 rfl rfl Tryz.sizeOf108 rfl ?_)
 refine sw (qE (.slice yQ x.qB.length yL) Tryz.isAgg108 rfl (H.cell 1 rfl rfl) ?_)
 refine sw (qM b3 (0) 7 Tryz.underlying110 rfl rfl Tryz.sizeOf108 rfl ?_)
 refine sw (qE (.slice ayInto y.qB.length cyInto) Tryz.isAgg108 rfl (H.cell 0 rfl rfl) ?_)
 refine sw (xf #[.slice yQ x.qB.length yL, .slice ayInto y.qB.length cyInto] rfl rfl Tryz.call148 (eqIntoS_ok w19 x.qB y.qB yQ yL FxInto ayInto cyInto FyInto (H.get 5 rfl).1 (H.get 11 rfl).1) ?_)
 rintro _ w22 rfl x23
 replace H := H.ext x23
 refine sp (.bool (!(decide (x.qB = y.qB)))) ?_
 refine qw (t_n ?_)
 refine qV (!(decide (x.qB = y.qB))) rfl (fun h24 => ?_) (fun h24 => ?_)
 ·skip
  replace h24 := xe h24
  replace h24 := of_decide_eq_false h24
  refine qm (qy ?_)
  refine sp (.bool false) ?_
  refine qw (t_n (xx (t_r ?_)))
  refine ret1 (.bool false) rfl rfl ⟨_, rfl, ?_, H.base⟩
  rw [decide_eq_false (fun e => by subst e; simp_all)]
 replace h24 := qX h24
 replace h24 := of_decide_eq_true h24
 refine xh (t_n (qm (qm (qy ?_))))
 refine sw (qM b1 (0) 8 Tryz.underlying110 rfl rfl Tryz.sizeOf4 rfl ?_)
 refine sw (qE (.bool x.xP) Tryz.isAgg4 rfl (H.cell 1 rfl rfl) ?_)
 refine sw (qM b3 (0) 8 Tryz.underlying110 rfl rfl Tryz.sizeOf4 rfl ?_)
 refine sw (qE (.bool y.xP) Tryz.isAgg4 rfl (H.cell 0 rfl rfl) ?_)
 refine sw (o_neB Tryz.underlying4 x.xP y.xP rfl rfl ?_)
 refine qw (t_n ?_)
 refine qV (x.xP != y.xP) rfl (fun h25 => ?_) (fun h25 => ?_)
 ·skip
  replace h25 := bne_iff_ne.1 h25
  refine qm (qy ?_)
  refine sp (.bool false) ?_
  refine qw (t_n (xx (t_r ?_)))
  refine ret1 (.bool false) rfl rfl ⟨_, rfl, ?_, H.base⟩
  rw [decide_eq_false (fun e => by subst e; simp_all)]
 replace h25 := xI h25
 refine xh (t_n (qm (qy ?_)))
 refine sp (.bool true) ?_
 refine qw (t_n (xx ?_))
 refine ret1 (.bool true) rfl rfl ⟨_, rfl, ?_, H.base⟩
 rw [decide_eq_true (by cases x; cases y; simp_all)]

theorem eqRuleS_ok (w : World) (x : List QB) (y : List QB) (ax : Option Addr) (cx : Nat) (Fx : List Nat) (ay : Option Addr) (cy : Nat) (Fy : List Nat) (hx : qQ.rep w Fx [.slice ax x.length cx] x) (hy : qQ.rep w Fy [.slice ay y.length cy] y) : Calls Tryz.prog 55 #[.slice ax x.length cx, .slice ay y.length cy] w (Ret (fun v w' => v = .bool (decide (x = y))) w) := by
 refine enter (n := 27) Tryz.func55 rfl Tryz.ntmps55 (Nat.le_of_ble_eq_true rfl) ?_
 have H := ((St.start w).arg hy).arg hx
 have nhx := qJ hx
 have nhy := qJ hy
 clear hx hy
 refine qm (qy ?_)
 refine sp (.bool false) ?_
 refine qw (t_n (qm (qm (qy ?_))))
 refine sp (.slice ax x.length cx) ?_
 refine sw (zD Tryz.underlying34 ax x.length cx rfl ?_)
 refine sp (.slice ay y.length cy) ?_
 refine sw (zD Tryz.underlying34 ay y.length cy rfl ?_)
 refine sp (.bool ((x.length : Int) != y.length)) ?_
 refine qw (t_n ?_)
 refine qV ((x.length : Int) != y.length) rfl (fun h1 => ?_) (fun h1 => ?_)
 ·skip
  replace h1 := bne_iff_ne.1 h1
  refine qm (qy ?_)
  refine sp (.bool false) ?_
  refine qw (t_n (xx (t_r ?_)))
  refine ret1 (.bool false) rfl rfl ⟨_, rfl, ?_, H.base⟩
  first | rw [decide_eq_false (fun e => by subst e; omega)] | rw [decide_eq_false (zX (k := k) ‹_›)] | rw [decide_eq_true (vw (k := k) (by omega) (by omega) ‹_›)]
 replace h1 := xI h1
 refine xh (t_n (qm (qm (qy ?_))))
 refine sp (.int .i64 0) ?_
 refine qw (t_n (xu ?_))
 refine zG (fun m' ρ w2 => ∃ (junk : Env) (k : Nat), ρ = upd (upd (upd junk 0 (.slice ax x.length cx)) 1 (.slice ay y.length cy)) 5 (.int .i64 k) ∧ (k ≤ x.length) ∧ (x.take k = y.take k) ∧ m' = x.length - k ∧ St w w2 [] [isF false Fx (.slice ax x.length cx) x, isF false Fy (.slice ay y.length cy) y]) (x.length - 0) ⟨_, 0, (by exact qj (qj (qj (rfl) rfl) rfl) rfl), (by omega), (by rfl), rfl, H⟩ ?_
 clear H
 rintro m' ρ w3 ⟨junk, k, rfl, i0, i1, rfl, H⟩
 refine qm (qm (qy ?_))
 refine sps [.int .i64 k, .slice ax x.length cx] ?_
 refine sw (zD Tryz.underlying34 ax x.length cx rfl ?_)
 refine sp (.bool (decide ((k : Int) < x.length))) ?_
 refine qw (t_n ?_)
 refine qV (decide ((k : Int) < x.length)) rfl (fun h4 => ?_) (fun h4 => ?_)
 ·skip
  replace h4 := of_decide_eq_true h4
  refine xh (t_n (qm (xu (qm ?_))))
  refine jk rfl H fun H => ?_
  refine rtp 0 (.slice ax x.length cx) H ?_
  refine rtp 1 (.int .i64 k) H ?_
  obtain ⟨b6, o7, rfl⟩ := H.addr 0 rfl (by omega)
  obtain ⟨ae8Need, ce8Need, Fe8Need, ae8Have, ce8Have, Fe8Have, ae8Lack, ce8Lack, Fe8Lack, ae8Here, ce8Here, Fe8Here, ae8Out, ce8Out, Fe8Out, ae8Into, ce8Into, Fe8Into, H⟩ := H.yE 0 rfl k k (by omega) (by omega) (by omega)
  refine rt 2 (pp b6 (o7 + (k : Int).toNat * 9)) (xN b6 (o7) x.length cx k Tryz.underlying34 ti110 rfl rfl (by omega) (by omega)) (H.sel _ (.refl _) _ (fun _ h => List.mem_cons_of_mem _ (List.mem_cons_of_mem _ (List.mem_cons_of_mem _ (List.mem_cons_of_mem _ (List.mem_cons_of_mem _ (List.mem_cons_of_mem _ (List.mem_cons_of_mem _ (h))))))))) ?_
  refine rtp 4 (.slice ay y.length cy) (H.sel _ (.refl _) _ (fun _ h => List.mem_cons_of_mem _ (List.mem_cons_of_mem _ (List.mem_cons_of_mem _ (List.mem_cons_of_mem _ (List.mem_cons_of_mem _ (List.mem_cons_of_mem _ (List.mem_cons_of_mem _ (h))))))))) ?_
  refine rtp 5 (.int .i64 k) (H.sel _ (.refl _) _ (fun _ h => List.mem_cons_of_mem _ (List.mem_cons_of_mem _ (List.mem_cons_of_mem _ (List.mem_cons_of_mem _ (List.mem_cons_of_mem _ (List.mem_cons_of_mem _ (List.mem_cons_of_mem _ (h))))))))) ?_
  obtain ⟨b9, o10, rfl⟩ := H.addr 8 rfl (by omega)
  obtain ⟨ae11Need, ce11Need, Fe11Need, ae11Have, ce11Have, Fe11Have, ae11Lack, ce11Lack, Fe11Lack, ae11Here, ce11Here, Fe11Here, ae11Out, ce11Out, Fe11Out, ae11Into, ce11Into, Fe11Into, H⟩ := H.yE 8 rfl k k (by omega) (by omega) (by omega)
  refine rt 6 (pp b9 (o10 + (k : Int).toNat * 9)) (xN b9 (o10) y.length cy k Tryz.underlying34 ti110 rfl rfl (by omega) (by omega)) (H.sel _ (.refl _) _ (fun _ h => List.mem_cons_of_mem _ (List.mem_cons_of_mem _ (List.mem_cons_of_mem _ (List.mem_cons_of_mem _ (List.mem_cons_of_mem _ (List.mem_cons_of_mem _ (List.mem_cons_of_mem _ (List.mem_cons_of_mem _ (List.mem_cons_of_mem _ (List.mem_cons_of_mem _ (List.mem_cons_of_mem _ (List.mem_cons_of_mem _ (List.mem_cons_of_mem _ (List.mem_cons_of_mem _ (h)))))))))))))))) ?_
  refine xB [3, 7] (by kernel_rfl) (by simp) (zh rfl ?_ (zh rfl ?_ xC))
  ·skip
   refine zi [.int .i64 ((x[k]!).qA), .int .i64 ((x[k]!).xZ), .slice ae8Need (((x[k]!).qW).length) ce8Need, .slice ae8Have (((x[k]!).xg).length) ce8Have, .slice ae8Lack (((x[k]!).xk).length) ce8Lack, .slice ae8Here (((x[k]!).xw).length) ce8Here, .slice ae8Out (((x[k]!).zf).length) ce8Out, .slice ae8Into (((x[k]!).qB).length) ce8Into, .bool ((x[k]!).xP)] Tryz.isAgg110 Tryz.sizeOf110 rfl (qG (H.get 13 rfl) 0 9) ?_
   refine ⟨H.sel _ (.refl _) _ (fun _ h => List.mem_cons_of_mem _ (List.mem_cons_of_mem _ (List.mem_cons_of_mem _ (List.mem_cons_of_mem _ (List.mem_cons_of_mem _ (List.mem_cons_of_mem _ (List.mem_cons_of_mem _ (List.mem_cons_of_mem _ (List.mem_cons_of_mem _ (List.mem_cons_of_mem _ (List.mem_cons_of_mem _ (List.mem_cons_of_mem _ (List.mem_cons_of_mem _ (List.mem_cons_of_mem _ (h))))))))))))))), ?_⟩
   refine xB [7] (by kernel_rfl) (by simp) (zh rfl ?_ xC)
   refine zi [.int .i64 ((y[k]!).qA), .int .i64 ((y[k]!).xZ), .slice ae11Need (((y[k]!).qW).length) ce11Need, .slice ae11Have (((y[k]!).xg).length) ce11Have, .slice ae11Lack (((y[k]!).xk).length) ce11Lack, .slice ae11Here (((y[k]!).xw).length) ce11Here, .slice ae11Out (((y[k]!).zf).length) ce11Out, .slice ae11Into (((y[k]!).qB).length) ce11Into, .bool ((y[k]!).xP)] Tryz.isAgg110 Tryz.sizeOf110 rfl (qG (H.get 6 rfl) 0 9) ?_
   refine ⟨H.sel _ (.refl _) _ (fun _ h => List.mem_cons_of_mem _ (List.mem_cons_of_mem _ (List.mem_cons_of_mem _ (List.mem_cons_of_mem _ (List.mem_cons_of_mem _ (List.mem_cons_of_mem _ (List.mem_cons_of_mem _ (List.mem_cons_of_mem _ (List.mem_cons_of_mem _ (List.mem_cons_of_mem _ (List.mem_cons_of_mem _ (List.mem_cons_of_mem _ (List.mem_cons_of_mem _ (List.mem_cons_of_mem _ (h))))))))))))))), ?_⟩
   refine xB [8] (by kernel_rfl) (by simp) (zh rfl ?_ xC)
   refine xf #[.agg #[.int .i64 ((x[k]!).qA), .int .i64 ((x[k]!).xZ), .slice ae8Need (((x[k]!).qW).length) ce8Need, .slice ae8Have (((x[k]!).xg).length) ce8Have, .slice ae8Lack (((x[k]!).xk).length) ce8Lack, .slice ae8Here (((x[k]!).xw).length) ce8Here, .slice ae8Out (((x[k]!).zf).length) ce8Out, .slice ae8Into (((x[k]!).qB).length) ce8Into, .bool ((x[k]!).xP)], .agg #[.int .i64 ((y[k]!).qA), .int .i64 ((y[k]!).xZ), .slice ae11Need (((y[k]!).qW).length) ce11Need, .slice ae11Have (((y[k]!).xg).length) ce11Have, .slice ae11Lack (((y[k]!).xk).length) ce11Lack, .slice ae11Here (((y[k]!).xw).length) ce11Here, .slice ae11Out (((y[k]!).zf).length) ce11Out, .slice ae11Into (((y[k]!).qB).length) ce11Into, .bool ((y[k]!).xP)]] rfl rfl Tryz.call104 (eqRule_ok w3.drew (x[k]!) (y[k]!) ae8Need ce8Need Fe8Need ae8Have ce8Have Fe8Have ae8Lack ce8Lack Fe8Lack ae8Here ce8Here Fe8Here ae8Out ce8Out Fe8Out ae8Into ce8Into Fe8Into ae11Need ce11Need Fe11Need ae11Have ce11Have Fe11Have ae11Lack ce11Lack Fe11Lack ae11Here ce11Here Fe11Here ae11Out ce11Out Fe11Out ae11Into ce11Into Fe11Into (H.get 7 rfl).1 (H.get 8 rfl).1 (H.get 9 rfl).1 (H.get 10 rfl).1 (H.get 11 rfl).1 (H.get 12 rfl).1 (H.get 0 rfl).1 (H.get 1 rfl).1 (H.get 2 rfl).1 (H.get 3 rfl).1 (H.get 4 rfl).1 (H.get 5 rfl).1) ?_
   rintro _ w12 rfl x13
   replace H := H.ext x13
   refine ⟨H.sel _ (.refl _) _ (fun _ h => List.mem_cons_of_mem _ (List.mem_cons_of_mem _ (List.mem_cons_of_mem _ (List.mem_cons_of_mem _ (List.mem_cons_of_mem _ (List.mem_cons_of_mem _ (List.mem_cons_of_mem _ (List.mem_cons_of_mem _ (List.mem_cons_of_mem _ (List.mem_cons_of_mem _ (List.mem_cons_of_mem _ (List.mem_cons_of_mem _ (List.mem_cons_of_mem _ (List.mem_cons_of_mem _ (h))))))))))))))), ?_⟩
   refine rtp 9 (.bool (!(decide ((x[k]!) = (y[k]!))))) (H.sel _ (.refl _) _ (fun _ h => List.mem_cons_of_mem _ (List.mem_cons_of_mem _ (List.mem_cons_of_mem _ (List.mem_cons_of_mem _ (List.mem_cons_of_mem _ (List.mem_cons_of_mem _ (List.mem_cons_of_mem _ (List.mem_cons_of_mem _ (List.mem_cons_of_mem _ (List.mem_cons_of_mem _ (List.mem_cons_of_mem _ (List.mem_cons_of_mem _ (List.mem_cons_of_mem _ (List.mem_cons_of_mem _ (h)))))))))))))))) ?_
   refine xO (by kernel_rfl) (t_n ?_)
   refine qV (!(decide ((x[k]!) = (y[k]!)))) rfl (fun h14 => ?_) (fun h14 => ?_)
   ·skip
    replace h14 := xe h14
    replace h14 := of_decide_eq_false h14
    refine qm (qy ?_)
    refine sp (.bool false) ?_
    refine qw (t_n (xx (b_r (t_r (t_r (b_r (t_r ?_)))))))
    refine ret1 (.bool false) rfl rfl ⟨_, rfl, ?_, H.base⟩
    first | rw [decide_eq_false (fun e => by subst e; omega)] | rw [decide_eq_false (zX (k := k) ‹_›)] | rw [decide_eq_true (vw (k := k) (by omega) (by omega) ‹_›)]
   replace h14 := qX h14
   replace h14 := of_decide_eq_true h14
   refine xh (b_n (t_n (qy ?_)))
   refine sp (.int .i64 k) ?_
   refine sw (zJ k 1 rfl rfl (by omega) ?_)
   refine sp (.int .i64 (k + 1)) ?_
   refine qw ?_
   refine xF (m' := x.length - (k + 1)) (by omega) ⟨_, k + 1, (by exact qj (qj (qj (rfl) rfl) rfl) rfl), ?_, ?_, rfl, H.sel _ (.refl _) _ (by simp)⟩
   · omega
   · exact Qu (by omega) (by omega) ‹_› (by first | assumption | omega)
  refine zi [.int .i64 ((y[k]!).qA), .int .i64 ((y[k]!).xZ), .slice ae11Need (((y[k]!).qW).length) ce11Need, .slice ae11Have (((y[k]!).xg).length) ce11Have, .slice ae11Lack (((y[k]!).xk).length) ce11Lack, .slice ae11Here (((y[k]!).xw).length) ce11Here, .slice ae11Out (((y[k]!).zf).length) ce11Out, .slice ae11Into (((y[k]!).qB).length) ce11Into, .bool ((y[k]!).xP)] Tryz.isAgg110 Tryz.sizeOf110 rfl (qG (H.get 6 rfl) 0 9) ?_
  refine ⟨H.sel _ (.refl _) _ (fun _ h => List.mem_cons_of_mem _ (List.mem_cons_of_mem _ (List.mem_cons_of_mem _ (List.mem_cons_of_mem _ (List.mem_cons_of_mem _ (List.mem_cons_of_mem _ (List.mem_cons_of_mem _ (List.mem_cons_of_mem _ (List.mem_cons_of_mem _ (List.mem_cons_of_mem _ (List.mem_cons_of_mem _ (List.mem_cons_of_mem _ (List.mem_cons_of_mem _ (List.mem_cons_of_mem _ (h))))))))))))))), ?_⟩
  refine xB [3] (by kernel_rfl) (by simp) (zh rfl ?_ xC)
  refine zi [.int .i64 ((x[k]!).qA), .int .i64 ((x[k]!).xZ), .slice ae8Need (((x[k]!).qW).length) ce8Need, .slice ae8Have (((x[k]!).xg).length) ce8Have, .slice ae8Lack (((x[k]!).xk).length) ce8Lack, .slice ae8Here (((x[k]!).xw).length) ce8Here, .slice ae8Out (((x[k]!).zf).length) ce8Out, .slice ae8Into (((x[k]!).qB).length) ce8Into, .bool ((x[k]!).xP)] Tryz.isAgg110 Tryz.sizeOf110 rfl (qG (H.get 13 rfl) 0 9) ?_
  refine ⟨H.sel _ (.refl _) _ (fun _ h => List.mem_cons_of_mem _ (List.mem_cons_of_mem _ (List.mem_cons_of_mem _ (List.mem_cons_of_mem _ (List.mem_cons_of_mem _ (List.mem_cons_of_mem _ (List.mem_cons_of_mem _ (List.mem_cons_of_mem _ (List.mem_cons_of_mem _ (List.mem_cons_of_mem _ (List.mem_cons_of_mem _ (List.mem_cons_of_mem _ (List.mem_cons_of_mem _ (List.mem_cons_of_mem _ (h))))))))))))))), ?_⟩
  refine xB [8] (by kernel_rfl) (by simp) (zh rfl ?_ xC)
  refine xf #[.agg #[.int .i64 ((x[k]!).qA), .int .i64 ((x[k]!).xZ), .slice ae8Need (((x[k]!).qW).length) ce8Need, .slice ae8Have (((x[k]!).xg).length) ce8Have, .slice ae8Lack (((x[k]!).xk).length) ce8Lack, .slice ae8Here (((x[k]!).xw).length) ce8Here, .slice ae8Out (((x[k]!).zf).length) ce8Out, .slice ae8Into (((x[k]!).qB).length) ce8Into, .bool ((x[k]!).xP)], .agg #[.int .i64 ((y[k]!).qA), .int .i64 ((y[k]!).xZ), .slice ae11Need (((y[k]!).qW).length) ce11Need, .slice ae11Have (((y[k]!).xg).length) ce11Have, .slice ae11Lack (((y[k]!).xk).length) ce11Lack, .slice ae11Here (((y[k]!).xw).length) ce11Here, .slice ae11Out (((y[k]!).zf).length) ce11Out, .slice ae11Into (((y[k]!).qB).length) ce11Into, .bool ((y[k]!).xP)]] rfl rfl Tryz.call104 (eqRule_ok w3.drew (x[k]!) (y[k]!) ae8Need ce8Need Fe8Need ae8Have ce8Have Fe8Have ae8Lack ce8Lack Fe8Lack ae8Here ce8Here Fe8Here ae8Out ce8Out Fe8Out ae8Into ce8Into Fe8Into ae11Need ce11Need Fe11Need ae11Have ce11Have Fe11Have ae11Lack ce11Lack Fe11Lack ae11Here ce11Here Fe11Here ae11Out ce11Out Fe11Out ae11Into ce11Into Fe11Into (H.get 7 rfl).1 (H.get 8 rfl).1 (H.get 9 rfl).1 (H.get 10 rfl).1 (H.get 11 rfl).1 (H.get 12 rfl).1 (H.get 0 rfl).1 (H.get 1 rfl).1 (H.get 2 rfl).1 (H.get 3 rfl).1 (H.get 4 rfl).1 (H.get 5 rfl).1) ?_
  rintro _ w15 rfl x16
  replace H := H.ext x16
  refine ⟨H.sel _ (.refl _) _ (fun _ h => List.mem_cons_of_mem _ (List.mem_cons_of_mem _ (List.mem_cons_of_mem _ (List.mem_cons_of_mem _ (List.mem_cons_of_mem _ (List.mem_cons_of_mem _ (List.mem_cons_of_mem _ (List.mem_cons_of_mem _ (List.mem_cons_of_mem _ (List.mem_cons_of_mem _ (List.mem_cons_of_mem _ (List.mem_cons_of_mem _ (List.mem_cons_of_mem _ (List.mem_cons_of_mem _ (h))))))))))))))), ?_⟩
  refine rtp 9 (.bool (!(decide ((x[k]!) = (y[k]!))))) (H.sel _ (.refl _) _ (fun _ h => List.mem_cons_of_mem _ (List.mem_cons_of_mem _ (List.mem_cons_of_mem _ (List.mem_cons_of_mem _ (List.mem_cons_of_mem _ (List.mem_cons_of_mem _ (List.mem_cons_of_mem _ (List.mem_cons_of_mem _ (List.mem_cons_of_mem _ (List.mem_cons_of_mem _ (List.mem_cons_of_mem _ (List.mem_cons_of_mem _ (List.mem_cons_of_mem _ (List.mem_cons_of_mem _ (h)))))))))))))))) ?_
  refine xO (by kernel_rfl) (t_n ?_)
  refine qV (!(decide ((x[k]!) = (y[k]!)))) rfl (fun h17 => ?_) (fun h17 => ?_)
  ·skip
   replace h17 := xe h17
   replace h17 := of_decide_eq_false h17
   refine qm (qy ?_)
   refine sp (.bool false) ?_
   refine qw (t_n (xx (b_r (t_r (t_r (b_r (t_r ?_)))))))
   refine ret1 (.bool false) rfl rfl ⟨_, rfl, ?_, H.base⟩
   first | rw [decide_eq_false (fun e => by subst e; omega)] | rw [decide_eq_false (zX (k := k) ‹_›)] | rw [decide_eq_true (vw (k := k) (by omega) (by omega) ‹_›)]
  replace h17 := qX h17
  replace h17 := of_decide_eq_true h17
  refine xh (b_n (t_n (qy ?_)))
  refine sp (.int .i64 k) ?_
  refine sw (zJ k 1 rfl rfl (by omega) ?_)
  refine sp (.int .i64 (k + 1)) ?_
  refine qw ?_
  refine xF (m' := x.length - (k + 1)) (by omega) ⟨_, k + 1, (by exact qj (qj (qj (rfl) rfl) rfl) rfl), ?_, ?_, rfl, H.sel _ (.refl _) _ (by simp)⟩
  · omega
  · exact Qu (by omega) (by omega) ‹_› (by first | assumption | omega)
 replace h4 := of_decide_eq_false h4
 refine zy (t_x (t_x (b_x (t_n (qm (qy ?_))))))
 refine sp (.bool true) ?_
 refine qw (t_n (xx ?_))
 refine ret1 (.bool true) rfl rfl ⟨_, rfl, ?_, H.base⟩
 first | rw [decide_eq_false (fun e => by subst e; omega)] | rw [decide_eq_false (zX (k := k) ‹_›)] | rw [decide_eq_true (vw (k := k) (by omega) (by omega) ‹_›)]

theorem eqSystem_ok (w : World) (x : qU) (y : qU) (zA : Option Addr) (zx : Nat) (jI : List Nat) (vT : Option Addr) (vS : Nat) (QV : List Nat) (ayParents : Option Addr) (cyParents : Nat) (FyParents : List Nat) (ayRules : Option Addr) (cyRules : Nat) (FyRules : List Nat) (Qs : qQ.rep w jI [.slice zA x.qf.length zx] x.qf) (Ve : qQ.rep w QV [.slice vT x.qg.length vS] x.qg) (hyParents : qQ.rep w FyParents [.slice ayParents y.qf.length cyParents] y.qf) (hyRules : qQ.rep w FyRules [.slice ayRules y.qg.length cyRules] y.qg) : Calls Tryz.prog 15 #[.agg #[.int .i64 x.qI, .slice zA x.qf.length zx, .slice vT x.qg.length vS], .agg #[.int .i64 y.qI, .slice ayParents y.qf.length cyParents, .slice ayRules y.qg.length cyRules]] w (Ret (fun v w' => v = .bool (decide (x = y))) w) := by
 refine enter (n := 22) Tryz.func15 rfl Tryz.ntmps15 (Nat.le_of_ble_eq_true rfl) ?_
 have H := ((((St.start w).arg hyRules).arg hyParents).arg Ve).arg Qs
 have nhxParents := qJ Qs
 have nhxRules := qJ Ve
 have nhyParents := qJ hyParents
 have nhyRules := qJ hyRules
 clear Qs Ve hyParents hyRules
 refine qm (qy ?_)
 refine sw (o_box H (.agg #[.int .i64 x.qI, .slice zA x.qf.length zx, .slice vT x.qg.length vS]) rfl fun b1 w2 H => ?_)
 replace H : St _ _ [.box b1 [.int .i64 x.qI, .slice zA x.qf.length zx, .slice vT x.qg.length vS] 36] _ := H
 refine sw (o_box H (.agg #[.int .i64 y.qI, .slice ayParents y.qf.length cyParents, .slice ayRules y.qg.length cyRules]) rfl fun b3 w4 H => ?_)
 replace H : St _ _ [.box b3 [.int .i64 y.qI, .slice ayParents y.qf.length cyParents, .slice ayRules y.qg.length cyRules] 36, .box b1 [.int .i64 x.qI, .slice zA x.qf.length zx, .slice vT x.qg.length vS] 36] _ := H
 refine sp (.bool false) ?_
 refine qw (t_n (qm (qm (qy ?_))))
 refine sw (qM b1 (0) 0 Tryz.underlying36 rfl rfl Tryz.sizeOf2 rfl ?_)
 refine sw (qE (.int .i64 x.qI) Tryz.isAgg2 rfl (H.cell 1 rfl rfl) ?_)
 refine sw (qM b3 (0) 0 Tryz.underlying36 rfl rfl Tryz.sizeOf2 rfl ?_)
 refine sw (qE (.int .i64 y.qI) Tryz.isAgg2 rfl (H.cell 0 rfl rfl) ?_)
 refine sp (.bool ((x.qI : Int) != y.qI)) ?_
 refine qw (t_n ?_)
 refine qV ((x.qI : Int) != y.qI) rfl (fun h5 => ?_) (fun h5 => ?_)
 ·skip
  replace h5 := bne_iff_ne.1 h5
  refine qm (qy ?_)
  refine sp (.bool false) ?_
  refine qw (t_n (xx (t_r ?_)))
  refine ret1 (.bool false) rfl rfl ⟨_, rfl, ?_, H.base⟩
  rw [decide_eq_false (fun e => by subst e; simp_all)]
 replace h5 := xI h5
 refine xh (t_n (qm (qm (qy ?_))))
 refine sw (qM b1 (0) 1 Tryz.underlying36 rfl rfl Tryz.sizeOf22 rfl ?_)
 refine sw (qE (.slice zA x.qf.length zx) Tryz.isAgg22 rfl (H.cell 1 rfl rfl) ?_)
 refine sw (qM b3 (0) 1 Tryz.underlying36 rfl rfl Tryz.sizeOf22 rfl ?_)
 refine sw (qE (.slice ayParents y.qf.length cyParents) Tryz.isAgg22 rfl (H.cell 0 rfl rfl) ?_)
 refine sw (xf #[.slice zA x.qf.length zx, .slice ayParents y.qf.length cyParents] rfl rfl Tryz.call27 (Q7 w4 x.qf y.qf zA zx jI ayParents cyParents FyParents (H.get 0 rfl).1 (H.get 2 rfl).1) ?_)
 rintro _ w6 rfl x7
 replace H := H.ext x7
 refine sp (.bool (!(decide (x.qf = y.qf)))) ?_
 refine qw (t_n ?_)
 refine qV (!(decide (x.qf = y.qf))) rfl (fun h8 => ?_) (fun h8 => ?_)
 ·skip
  replace h8 := xe h8
  replace h8 := of_decide_eq_false h8
  refine qm (qy ?_)
  refine sp (.bool false) ?_
  refine qw (t_n (xx (t_r ?_)))
  refine ret1 (.bool false) rfl rfl ⟨_, rfl, ?_, H.base⟩
  rw [decide_eq_false (fun e => by subst e; simp_all)]
 replace h8 := qX h8
 replace h8 := of_decide_eq_true h8
 refine xh (t_n (qm (qm (qy ?_))))
 refine sw (qM b1 (0) 2 Tryz.underlying36 rfl rfl Tryz.sizeOf34 rfl ?_)
 refine sw (qE (.slice vT x.qg.length vS) Tryz.isAgg34 rfl (H.cell 1 rfl rfl) ?_)
 refine sw (qM b3 (0) 2 Tryz.underlying36 rfl rfl Tryz.sizeOf34 rfl ?_)
 refine sw (qE (.slice ayRules y.qg.length cyRules) Tryz.isAgg34 rfl (H.cell 0 rfl rfl) ?_)
 refine sw (xf #[.slice vT x.qg.length vS, .slice ayRules y.qg.length cyRules] rfl rfl Tryz.call55 (eqRuleS_ok w6 x.qg y.qg vT vS QV ayRules cyRules FyRules (H.get 1 rfl).1 (H.get 3 rfl).1) ?_)
 rintro _ w9 rfl x10
 replace H := H.ext x10
 refine sp (.bool (!(decide (x.qg = y.qg)))) ?_
 refine qw (t_n ?_)
 refine qV (!(decide (x.qg = y.qg))) rfl (fun h11 => ?_) (fun h11 => ?_)
 ·skip
  replace h11 := xe h11
  replace h11 := of_decide_eq_false h11
  refine qm (qy ?_)
  refine sp (.bool false) ?_
  refine qw (t_n (xx (t_r ?_)))
  refine ret1 (.bool false) rfl rfl ⟨_, rfl, ?_, H.base⟩
  rw [decide_eq_false (fun e => by subst e; simp_all)]
 replace h11 := qX h11
 replace h11 := of_decide_eq_true h11
 refine xh (t_n (qm (qy ?_)))
 refine sp (.bool true) ?_
 refine qw (t_n (xx ?_))
 refine ret1 (.bool true) rfl rfl ⟨_, rfl, ?_, H.base⟩
 rw [decide_eq_true (by cases x; cases y; simp_all)]

theorem eqState_ok (w : World) (x : qP) (y : qP) (vN : Option Addr) (vM : Nat) (QJ : List Nat) (jL : Option Addr) (jK : Nat) (XK : List Nat) (zS : Option Addr) (zO : Nat) (yx : List Nat) (ayAlive : Option Addr) (cyAlive : Nat) (FyAlive : List Nat) (ayBags : Option Addr) (cyBags : Nat) (FyBags : List Nat) (ayAround : Option Addr) (cyAround : Nat) (FyAround : List Nat) (Vf : qQ.rep w QJ [.slice vN x.qh.length vM] x.qh) (hxBags : qQ.rep w XK [.slice jL x.qx.length jK] x.qx) (Xa : qQ.rep w yx [.slice zS x.ql.length zO] x.ql) (hyAlive : qQ.rep w FyAlive [.slice ayAlive y.qh.length cyAlive] y.qh) (hyBags : qQ.rep w FyBags [.slice ayBags y.qx.length cyBags] y.qx) (hyAround : qQ.rep w FyAround [.slice ayAround y.ql.length cyAround] y.ql) : Calls Tryz.prog 16 #[.agg #[.slice vN x.qh.length vM, .slice jL x.qx.length jK, .slice zS x.ql.length zO], .agg #[.slice ayAlive y.qh.length cyAlive, .slice ayBags y.qx.length cyBags, .slice ayAround y.ql.length cyAround]] w (Ret (fun v w' => v = .bool (decide (x = y))) w) := by
 refine enter (n := 23) Tryz.func16 rfl Tryz.ntmps16 (Nat.le_of_ble_eq_true rfl) ?_
 have H := ((((((St.start w).arg hyAround).arg hyBags).arg hyAlive).arg Xa).arg hxBags).arg Vf
 have nhxAlive := qJ Vf
 have nhxBags := qJ hxBags
 have nhxAround := qJ Xa
 have nhyAlive := qJ hyAlive
 have nhyBags := qJ hyBags
 have nhyAround := qJ hyAround
 clear Vf hxBags Xa hyAlive hyBags hyAround
 refine qm (qy ?_)
 refine sw (o_box H (.agg #[.slice vN x.qh.length vM, .slice jL x.qx.length jK, .slice zS x.ql.length zO]) rfl fun b1 w2 H => ?_)
 replace H : St _ _ [.box b1 [.slice vN x.qh.length vM, .slice jL x.qx.length jK, .slice zS x.ql.length zO] 38] _ := H
 refine sw (o_box H (.agg #[.slice ayAlive y.qh.length cyAlive, .slice ayBags y.qx.length cyBags, .slice ayAround y.ql.length cyAround]) rfl fun b3 w4 H => ?_)
 replace H : St _ _ [.box b3 [.slice ayAlive y.qh.length cyAlive, .slice ayBags y.qx.length cyBags, .slice ayAround y.ql.length cyAround] 38, .box b1 [.slice vN x.qh.length vM, .slice jL x.qx.length jK, .slice zS x.ql.length zO] 38] _ := H
 refine sp (.bool false) ?_
 refine qw (t_n (qm (qm (qy ?_))))
 refine sw (qM b1 (0) 0 Tryz.underlying38 rfl rfl Tryz.sizeOf26 rfl ?_)
 refine sw (qE (.slice vN x.qh.length vM) Tryz.isAgg26 rfl (H.cell 1 rfl rfl) ?_)
 refine sw (qM b3 (0) 0 Tryz.underlying38 rfl rfl Tryz.sizeOf26 rfl ?_)
 refine sw (qE (.slice ayAlive y.qh.length cyAlive) Tryz.isAgg26 rfl (H.cell 0 rfl rfl) ?_)
 refine sw (xf #[.slice vN x.qh.length vM, .slice ayAlive y.qh.length cyAlive] rfl rfl Tryz.call56 (eqBoolS_ok w4 x.qh y.qh vN vM QJ ayAlive cyAlive FyAlive (H.get 0 rfl).1 (H.get 3 rfl).1) ?_)
 rintro _ w5 rfl x6
 replace H := H.ext x6
 refine sp (.bool (!(decide (x.qh = y.qh)))) ?_
 refine qw (t_n ?_)
 refine qV (!(decide (x.qh = y.qh))) rfl (fun h7 => ?_) (fun h7 => ?_)
 ·skip
  replace h7 := xe h7
  replace h7 := of_decide_eq_false h7
  refine qm (qy ?_)
  refine sp (.bool false) ?_
  refine qw (t_n (xx (t_r ?_)))
  refine ret1 (.bool false) rfl rfl ⟨_, rfl, ?_, H.base⟩
  rw [decide_eq_false (fun e => by subst e; simp_all)]
 replace h7 := qX h7
 replace h7 := of_decide_eq_true h7
 refine xh (t_n (qm (qm (qy ?_))))
 refine sw (qM b1 (0) 1 Tryz.underlying38 rfl rfl Tryz.sizeOf27 rfl ?_)
 refine sw (qE (.slice jL x.qx.length jK) Tryz.isAgg27 rfl (H.cell 1 rfl rfl) ?_)
 refine sw (qM b3 (0) 1 Tryz.underlying38 rfl rfl Tryz.sizeOf27 rfl ?_)
 refine sw (qE (.slice ayBags y.qx.length cyBags) Tryz.isAgg27 rfl (H.cell 0 rfl rfl) ?_)
 refine sw (xf #[.slice jL x.qx.length jK, .slice ayBags y.qx.length cyBags] rfl rfl Tryz.call14 (eqInt64SS_ok w5 x.qx y.qx jL jK XK ayBags cyBags FyBags (H.get 1 rfl).1 (H.get 4 rfl).1) ?_)
 rintro _ w8 rfl x9
 replace H := H.ext x9
 refine sp (.bool (!(decide (x.qx = y.qx)))) ?_
 refine qw (t_n ?_)
 refine qV (!(decide (x.qx = y.qx))) rfl (fun h10 => ?_) (fun h10 => ?_)
 ·skip
  replace h10 := xe h10
  replace h10 := of_decide_eq_false h10
  refine qm (qy ?_)
  refine sp (.bool false) ?_
  refine qw (t_n (xx (t_r ?_)))
  refine ret1 (.bool false) rfl rfl ⟨_, rfl, ?_, H.base⟩
  rw [decide_eq_false (fun e => by subst e; simp_all)]
 replace h10 := qX h10
 replace h10 := of_decide_eq_true h10
 refine xh (t_n (qm (qm (qy ?_))))
 refine sw (qM b1 (0) 2 Tryz.underlying38 rfl rfl Tryz.sizeOf22 rfl ?_)
 refine sw (qE (.slice zS x.ql.length zO) Tryz.isAgg22 rfl (H.cell 1 rfl rfl) ?_)
 refine sw (qM b3 (0) 2 Tryz.underlying38 rfl rfl Tryz.sizeOf22 rfl ?_)
 refine sw (qE (.slice ayAround y.ql.length cyAround) Tryz.isAgg22 rfl (H.cell 0 rfl rfl) ?_)
 refine sw (xf #[.slice zS x.ql.length zO, .slice ayAround y.ql.length cyAround] rfl rfl Tryz.call27 (Q7 w8 x.ql y.ql zS zO yx ayAround cyAround FyAround (H.get 2 rfl).1 (H.get 5 rfl).1) ?_)
 rintro _ w11 rfl x12
 replace H := H.ext x12
 refine sp (.bool (!(decide (x.ql = y.ql)))) ?_
 refine qw (t_n ?_)
 refine qV (!(decide (x.ql = y.ql))) rfl (fun h13 => ?_) (fun h13 => ?_)
 ·skip
  replace h13 := xe h13
  replace h13 := of_decide_eq_false h13
  refine qm (qy ?_)
  refine sp (.bool false) ?_
  refine qw (t_n (xx (t_r ?_)))
  refine ret1 (.bool false) rfl rfl ⟨_, rfl, ?_, H.base⟩
  rw [decide_eq_false (fun e => by subst e; simp_all)]
 replace h13 := qX h13
 replace h13 := of_decide_eq_true h13
 refine xh (t_n (qm (qy ?_)))
 refine sp (.bool true) ?_
 refine qw (t_n (xx ?_))
 refine ret1 (.bool true) rfl rfl ⟨_, rfl, ?_, H.base⟩
 rw [decide_eq_true (by cases x; cases y; simp_all)]

end Go.Proofs.YtkmlihdacnfhdaaGreat
