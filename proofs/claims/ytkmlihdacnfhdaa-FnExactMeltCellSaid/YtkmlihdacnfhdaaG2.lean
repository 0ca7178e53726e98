/- Walks, printed by program (wip/tools/gv.py): what each function comes to, for all arguments. -/
import Derived.Test.YtkmlihdacnfhdaaG1
namespace Go.Proofs.Ytkmlihdacnfhdaa
open Go.Proofs.Ytkmlihdacnfhdaa.Tot (tot)
open Go.Proofs.Ytkmlihdacnfhdaa.Mark (cnt mrk mkd mkd_mark cnt_mark)
open Go.RowKit
set_option linter.unusedVariables false
set_option linter.unusedSimpArgs false
set_option maxRecDepth 100000
set_option maxHeartbeats 4000000

theorem ti4 : TI Try.prog 4 (.bool false) 1 1 := by unfold TI; kernel_rfl
theorem ti22 : TI Try.prog 22 (.slice none 0 0) 1 24 := by unfold TI; kernel_rfl
theorem ti30 : TI Try.prog 30 (.agg #[.int .i64 0, .slice none 0 0, .slice none 0 0]) 3 56 := by unfold TI; kernel_rfl
theorem ti41 : TI Try.prog 41 (.agg #[.slice none 0 0, .slice none 0 0, .slice none 0 0]) 3 72 := by unfold TI; kernel_rfl
theorem ti87 : TI Try.prog 87 (.agg #[.int .i64 0, .int .i64 0, .slice none 0 0, .slice none 0 0, .slice none 0 0, .slice none 0 0, .slice none 0 0, .slice none 0 0, .bool false]) 9 168 := by unfold TI; kernel_rfl
theorem ti92 : TI Try.prog 92 (.agg #[.int .i64 0, .int .i64 0, .slice none 0 0, .slice none 0 0, .slice none 0 0, .slice none 0 0, .slice none 0 0, .slice none 0 0, .bool false]) 9 168 := by unfold TI; kernel_rfl
theorem ti108 : TI Try.prog 108 (.agg #[.int .i64 0, .slice none 0 0]) 2 32 := by unfold TI; kernel_rfl
theorem ti129 : TI Try.prog 129 (.agg #[.int .i64 0, .slice none 0 0]) 2 32 := by unfold TI; kernel_rfl


theorem szInt64S_ok (w : World) (x : List Int) (left : Int) (ax : Option Addr) (cx : Nat) (Fx : List Nat) (hx : GoRep.rep w Fx [.slice ax x.length cx] x) (p0 : 0 ≤ left ∧ left ≤ 2000000) : Calls Try.prog 23 #[.slice ax x.length cx, .int .i64 left] w (Ret (fun v w' => v = .int .i64 (szR (tot x) left)) w) := by
 refine enter (n := 12) Try.func23 rfl Try.ntmps23 (Nat.le_of_ble_eq_true rfl) ?_
 have H := St.start w
 replace H := H.add (isF false Fx (.slice ax x.length cx) x) ⟨hx, by simp⟩ (start_lt hx)
 have nhx := rep_len hx
 clear hx
 refine c_seq ?_
 refine c_reg ?_
 refine sp (.int .i64 0) ?_
 refine c_nil (t_n ?_)
 refine c_seq ?_
 refine c_reg ?_
 refine sp (.int .i64 left) ?_
 refine sp (.slice ax x.length cx) ?_
 refine sw (o_len Try.underlying22 ax x.length cx rfl ?_)
 refine sw (o_sub left x.length rfl rfl (by omega) ?_)
 refine sp (.int .i64 (left - x.length)) ?_
 refine c_nil (t_n ?_)
 refine c_seq ?_
 refine c_seq ?_
 refine c_reg ?_
 refine sp (.int .i64 (left - x.length)) ?_
 refine sp (.bool (decide ((left - x.length : Int) < 0))) ?_
 refine c_nil (t_n ?_)
 refine c_cond (decide ((left - x.length : Int) < 0)) rfl (fun h1 => ?_) (fun h1 => ?_)
 ·skip
  replace h1 := of_decide_eq_true h1
  refine c_seq ?_
  refine c_reg ?_
  refine sp (.int .i64 (-1)) ?_
  refine c_nil (t_n ?_)
  refine c_ret (t_r (?_))
  refine ret1 (.int .i64 (-1)) rfl rfl ⟨_, rfl, ?_, H.base⟩
  refine congrArg (Value.int .i64) ?_
  have := szR_cases (tot x) left
  rw [tot_ints] at *
  try omega
 ·skip
  replace h1 := of_decide_eq_false h1
  refine c_skip (t_n ?_)
  refine c_seq ?_
  refine c_reg ?_
  refine sp (.int .i64 (left - x.length)) ?_
  refine sp (.int .i64 (left - x.length)) ?_
  refine c_nil (t_n ?_)
  refine c_ret (?_)
  refine ret1 (.int .i64 (left - x.length)) rfl rfl ⟨_, rfl, ?_, H.base⟩
  refine congrArg (Value.int .i64) ?_
  have := szR_cases (tot x) left
  rw [tot_ints] at *
  try omega

theorem szBoolS_ok (w : World) (x : List Bool) (left : Int) (ax : Option Addr) (cx : Nat) (Fx : List Nat) (hx : GoRep.rep w Fx [.slice ax x.length cx] x) (p0 : 0 ≤ left ∧ left ≤ 2000000) : Calls Try.prog 33 #[.slice ax x.length cx, .int .i64 left] w (Ret (fun v w' => v = .int .i64 (szR (tot x) left)) w) := by
 refine enter (n := 12) Try.func33 rfl Try.ntmps33 (Nat.le_of_ble_eq_true rfl) ?_
 have H := St.start w
 replace H := H.add (isF false Fx (.slice ax x.length cx) x) ⟨hx, by simp⟩ (start_lt hx)
 have nhx := rep_len hx
 clear hx
 refine c_seq ?_
 refine c_reg ?_
 refine sp (.int .i64 0) ?_
 refine c_nil (t_n ?_)
 refine c_seq ?_
 refine c_reg ?_
 refine sp (.int .i64 left) ?_
 refine sp (.slice ax x.length cx) ?_
 refine sw (o_len Try.underlying36 ax x.length cx rfl ?_)
 refine sw (o_sub left x.length rfl rfl (by omega) ?_)
 refine sp (.int .i64 (left - x.length)) ?_
 refine c_nil (t_n ?_)
 refine c_seq ?_
 refine c_seq ?_
 refine c_reg ?_
 refine sp (.int .i64 (left - x.length)) ?_
 refine sp (.bool (decide ((left - x.length : Int) < 0))) ?_
 refine c_nil (t_n ?_)
 refine c_cond (decide ((left - x.length : Int) < 0)) rfl (fun h1 => ?_) (fun h1 => ?_)
 ·skip
  replace h1 := of_decide_eq_true h1
  refine c_seq ?_
  refine c_reg ?_
  refine sp (.int .i64 (-1)) ?_
  refine c_nil (t_n ?_)
  refine c_ret (t_r (?_))
  refine ret1 (.int .i64 (-1)) rfl rfl ⟨_, rfl, ?_, H.base⟩
  refine congrArg (Value.int .i64) ?_
  have := szR_cases (tot x) left
  rw [tot_bools] at *
  try omega
 ·skip
  replace h1 := of_decide_eq_false h1
  refine c_skip (t_n ?_)
  refine c_seq ?_
  refine c_reg ?_
  refine sp (.int .i64 (left - x.length)) ?_
  refine sp (.int .i64 (left - x.length)) ?_
  refine c_nil (t_n ?_)
  refine c_ret (?_)
  refine ret1 (.int .i64 (left - x.length)) rfl rfl ⟨_, rfl, ?_, H.base⟩
  refine congrArg (Value.int .i64) ?_
  have := szR_cases (tot x) left
  rw [tot_bools] at *
  try omega

theorem szInt64SS_ok (w : World) (x : List (List Int)) (left : Int) (ax : Option Addr) (cx : Nat) (Fx : List Nat) (hx : GoRep.rep w Fx [.slice ax x.length cx] x) (p0 : 0 ≤ left ∧ left ≤ 2000000) : Calls Try.prog 34 #[.slice ax x.length cx, .int .i64 left] w (Ret (fun v w' => v = .int .i64 (szR (tot x) left)) w) := by
 refine enter (n := 27) Try.func34 rfl Try.ntmps34 (Nat.le_of_ble_eq_true rfl) ?_
 have H := St.start w
 replace H := H.add (isF false Fx (.slice ax x.length cx) x) ⟨hx, by simp⟩ (start_lt hx)
 have nhx := rep_len hx
 clear hx
 refine c_seq ?_
 refine c_reg ?_
 refine sp (.int .i64 0) ?_
 refine c_nil (t_n ?_)
 refine c_seq ?_
 refine c_reg ?_
 refine sp (.int .i64 left) ?_
 refine sp (.slice ax x.length cx) ?_
 refine sw (o_len Try.underlying37 ax x.length cx rfl ?_)
 refine sw (o_sub left x.length rfl rfl (by omega) ?_)
 refine sp (.int .i64 (left - x.length)) ?_
 refine c_nil (t_n ?_)
 refine c_seq ?_
 refine c_seq ?_
 refine c_reg ?_
 refine sp (.int .i64 (left - x.length)) ?_
 refine sp (.bool (decide ((left - x.length : Int) < 0))) ?_
 refine c_nil (t_n ?_)
 refine c_cond (decide ((left - x.length : Int) < 0)) rfl (fun h1 => ?_) (fun h1 => ?_)
 ·skip
  replace h1 := of_decide_eq_true h1
  refine c_seq ?_
  refine c_reg ?_
  refine sp (.int .i64 (-1)) ?_
  refine c_nil (t_n ?_)
  refine c_ret (t_r (?_))
  refine ret1 (.int .i64 (-1)) rfl rfl ⟨_, rfl, ?_, H.base⟩
  refine congrArg (Value.int .i64) ?_
  have := szR_cases (tot x) left
  have := len_tot x
  omega
 ·skip
  replace h1 := of_decide_eq_false h1
  refine c_skip (t_n ?_)
  refine c_seq ?_
  refine c_seq ?_
  refine c_reg ?_
  refine sp (.int .i64 0) ?_
  refine c_nil (t_n ?_)
  refine c_block ?_
  refine c_loop (fun m' ρ w2 => ∃ (junk : Env) (k : Nat) (r : Int), ρ = upd (upd (upd junk 0 (.slice ax x.length cx)) 1 (.int .i64 r)) 5 (.int .i64 k) ∧ (k ≤ x.length) ∧ (r = left - (x.length : Int) - (totTo x k : Nat)) ∧ (0 ≤ r) ∧ m' = x.length - k ∧ St w w2 [] [isF false Fx (.slice ax x.length cx) x]) (x.length - 0) ⟨_, 0, left - (x.length : Int), (by exact upd_eq (upd_eq (upd_eq (rfl) rfl) rfl) rfl), (by omega), (by rw [totTo_zero]; omega), (by omega), rfl, H⟩ ?_
  clear H
  rintro m' ρ w3 ⟨junk, k, r, rfl, i0, i1, i2, rfl, H⟩
  refine c_seq ?_
  refine c_seq ?_
  refine c_reg ?_
  refine sp (.int .i64 k) ?_
  refine sp (.slice ax x.length cx) ?_
  refine sw (o_len Try.underlying37 ax x.length cx rfl ?_)
  refine sp (.bool (decide ((k : Int) < x.length))) ?_
  refine c_nil (t_n ?_)
  refine c_cond (decide ((k : Int) < x.length)) rfl (fun h4 => ?_) (fun h4 => ?_)
  ·skip
   replace h4 := of_decide_eq_true h4
   refine c_skip (t_n ?_)
   refine c_seq ?_
   refine c_block ?_
   refine c_seq ?_
   refine c_reg ?_
   refine sp (.slice ax x.length cx) ?_
   refine sp (.int .i64 k) ?_
   obtain ⟨b5, o6, rfl⟩ := H.addr 0 rfl (by omega)
   obtain ⟨ae7, ce7, Fe7, H⟩ := H.elemList 0 rfl k k (by omega) (by omega) (by omega)
   refine sw (o_idxAt k Try.underlying37 ti22 rfl rfl (by omega) (by omega) ?_)
   refine sw (o_load1 (.slice ae7 ((x[k]!).length) ce7) Try.isAgg22 rfl (H.cellF 1 rfl 0 rfl) ?_)
   refine sp (.int .i64 r) ?_
   refine sw (o_call #[.slice ae7 ((x[k]!).length) ce7, .int .i64 r] rfl rfl Try.call23 (szInt64S_ok w3 (x[k]!) r ae7 ce7 Fe7 (H.get 0 rfl).1 (by omega)) ?_)
   rintro _ w8 rfl x9
   replace H := H.ext x9
   have := szR_cases (tot (x[k]!)) r
   refine sp (.int .i64 (szR (tot (x[k]!)) r)) ?_
   refine c_nil (t_n ?_)
   refine c_seq ?_
   refine c_reg ?_
   refine sp (.int .i64 (szR (tot (x[k]!)) r)) ?_
   refine sp (.bool (decide ((szR (tot (x[k]!)) r : Int) < 0))) ?_
   refine c_nil (t_n ?_)
   refine c_cond (decide ((szR (tot (x[k]!)) r : Int) < 0)) rfl (fun h10 => ?_) (fun h10 => ?_)
   ·skip
    replace h10 := of_decide_eq_true h10
    refine c_seq ?_
    refine c_reg ?_
    refine sp (.int .i64 (-1)) ?_
    refine c_nil (t_n ?_)
    refine c_ret (b_r (t_r (t_r (b_r (t_r (?_))))))
    refine ret1 (.int .i64 (-1)) rfl rfl ⟨_, rfl, ?_, H.base⟩
    refine congrArg (Value.int .i64) ?_
    have := szR_cases (tot x) left
    have := tot_get (l := x) (k := k) (by omega)
    omega
   ·skip
    replace h10 := of_decide_eq_false h10
    refine c_skip (b_n (t_n ?_))
    refine c_reg ?_
    refine sp (.int .i64 k) ?_
    refine sw (o_add k 1 rfl rfl (by omega) ?_)
    refine sp (.int .i64 (k + 1)) ?_
    refine c_nil (?_)
    refine loop_end (m' := x.length - (k + 1)) (by omega) ⟨_, k + 1, szR (tot (x[k]!)) r, (by exact upd_eq (upd_eq (upd_eq (rfl) rfl) rfl) rfl), ?_, ?_, ?_, rfl, H.sel _ (.refl _) _ (by simp)⟩
    · omega
    · rw [totTo_succ]; omega
    · omega
  ·skip
   replace h4 := of_decide_eq_false h4
   refine c_exit (t_x (t_x (b_x (t_n ?_))))
   refine c_seq ?_
   refine c_reg ?_
   refine sp (.int .i64 r) ?_
   refine sp (.int .i64 r) ?_
   refine c_nil (t_n ?_)
   refine c_ret (?_)
   refine ret1 (.int .i64 r) rfl rfl ⟨_, rfl, ?_, H.base⟩
   refine congrArg (Value.int .i64) ?_
   obtain rfl : k = x.length := by omega
   have := szR_cases (tot x) left
   rw [tot_list] at *
   omega

theorem szInto_ok (w : World) (x : IntoD) (left : Int) (axBag : Option Addr) (cxBag : Nat) (FxBag : List Nat) (hxBag : GoRep.rep w FxBag [.slice axBag x.fBag.length cxBag] x.fBag) (p0 : 0 ≤ left ∧ left ≤ 2000000) : Calls Try.prog 116 #[.agg #[.int .i64 x.fCell, .slice axBag x.fBag.length cxBag], .int .i64 left] w (Ret (fun v w' => v = .int .i64 (szR (tot x) left)) w) := by
 refine enter (n := 12) Try.func116 rfl Try.ntmps116 (Nat.le_of_ble_eq_true rfl) ?_
 have H := St.start w
 replace H := H.add (isF false FxBag (.slice axBag x.fBag.length cxBag) x.fBag) ⟨hxBag, by simp⟩ (start_lt hxBag)
 have nhxBag := rep_len hxBag
 clear hxBag
 refine c_seq ?_
 refine c_reg ?_
 refine sw (o_box H (.agg #[.int .i64 x.fCell, .slice axBag x.fBag.length cxBag]) rfl fun b1 w2 H => ?_)
 replace H : St _ _ [.box b1 [.int .i64 x.fCell, .slice axBag x.fBag.length cxBag] 129] _ := H
 refine sp (.int .i64 0) ?_
 refine c_nil (t_n ?_)
 refine c_seq ?_
 refine c_reg ?_
 refine sw (o_field b1 (0) 1 Try.underlying129 rfl rfl Try.sizeOf22 rfl ?_)
 refine sw (o_load1 (.slice axBag x.fBag.length cxBag) Try.isAgg22 rfl (H.cell 0 rfl rfl) ?_)
 refine sp (.int .i64 left) ?_
 refine sw (o_call #[.slice axBag x.fBag.length cxBag, .int .i64 left] rfl rfl Try.call23 (szInt64S_ok w2 x.fBag left axBag cxBag FxBag (H.get 0 rfl).1 (by omega)) ?_)
 rintro _ w3 rfl x4
 replace H := H.ext x4
 have := szR_cases (tot x.fBag) left
 refine sp (.int .i64 (szR (tot x.fBag) left)) ?_
 refine c_nil (t_n ?_)
 refine c_seq ?_
 refine c_seq ?_
 refine c_reg ?_
 refine sp (.int .i64 (szR (tot x.fBag) left)) ?_
 refine sp (.bool (decide ((szR (tot x.fBag) left : Int) < 0))) ?_
 refine c_nil (t_n ?_)
 refine c_cond (decide ((szR (tot x.fBag) left : Int) < 0)) rfl (fun h5 => ?_) (fun h5 => ?_)
 ·skip
  replace h5 := of_decide_eq_true h5
  refine c_seq ?_
  refine c_reg ?_
  refine sp (.int .i64 (-1)) ?_
  refine c_nil (t_n ?_)
  refine c_ret (t_r (?_))
  refine ret1 (.int .i64 (-1)) rfl rfl ⟨_, rfl, ?_, H.base⟩
  refine congrArg (Value.int .i64) ?_
  have := szR_cases (tot x) left
  rw [tot_IntoD] at *
  try omega
 ·skip
  replace h5 := of_decide_eq_false h5
  refine c_skip (t_n ?_)
  refine c_seq ?_
  refine c_reg ?_
  refine sp (.int .i64 (szR (tot x.fBag) left)) ?_
  refine sp (.int .i64 (szR (tot x.fBag) left)) ?_
  refine c_nil (t_n ?_)
  refine c_ret (?_)
  refine ret1 (.int .i64 (szR (tot x.fBag) left)) rfl rfl ⟨_, rfl, ?_, H.base⟩
  refine congrArg (Value.int .i64) ?_
  have := szR_cases (tot x) left
  rw [tot_IntoD] at *
  try omega

theorem szIntoS_ok (w : World) (x : List IntoD) (left : Int) (ax : Option Addr) (cx : Nat) (Fx : List Nat) (hx : GoRep.rep w Fx [.slice ax x.length cx] x) (p0 : 0 ≤ left ∧ left ≤ 2000000) : Calls Try.prog 96 #[.slice ax x.length cx, .int .i64 left] w (Ret (fun v w' => v = .int .i64 (szR (tot x) left)) w) := by
 refine enter (n := 27) Try.func96 rfl Try.ntmps96 (Nat.le_of_ble_eq_true rfl) ?_
 have H := St.start w
 replace H := H.add (isF false Fx (.slice ax x.length cx) x) ⟨hx, by simp⟩ (start_lt hx)
 have nhx := rep_len hx
 clear hx
 refine c_seq ?_
 refine c_reg ?_
 refine sp (.int .i64 0) ?_
 refine c_nil (t_n ?_)
 refine c_seq ?_
 refine c_reg ?_
 refine sp (.int .i64 left) ?_
 refine sp (.slice ax x.length cx) ?_
 refine sw (o_len Try.underlying85 ax x.length cx rfl ?_)
 refine sw (o_sub left x.length rfl rfl (by omega) ?_)
 refine sp (.int .i64 (left - x.length)) ?_
 refine c_nil (t_n ?_)
 refine c_seq ?_
 refine c_seq ?_
 refine c_reg ?_
 refine sp (.int .i64 (left - x.length)) ?_
 refine sp (.bool (decide ((left - x.length : Int) < 0))) ?_
 refine c_nil (t_n ?_)
 refine c_cond (decide ((left - x.length : Int) < 0)) rfl (fun h1 => ?_) (fun h1 => ?_)
 ·skip
  replace h1 := of_decide_eq_true h1
  refine c_seq ?_
  refine c_reg ?_
  refine sp (.int .i64 (-1)) ?_
  refine c_nil (t_n ?_)
  refine c_ret (t_r (?_))
  refine ret1 (.int .i64 (-1)) rfl rfl ⟨_, rfl, ?_, H.base⟩
  refine congrArg (Value.int .i64) ?_
  have := szR_cases (tot x) left
  have := len_tot x
  omega
 ·skip
  replace h1 := of_decide_eq_false h1
  refine c_skip (t_n ?_)
  refine c_seq ?_
  refine c_seq ?_
  refine c_reg ?_
  refine sp (.int .i64 0) ?_
  refine c_nil (t_n ?_)
  refine c_block ?_
  refine c_loop (fun m' ρ w2 => ∃ (junk : Env) (k : Nat) (r : Int), ρ = upd (upd (upd junk 0 (.slice ax x.length cx)) 1 (.int .i64 r)) 5 (.int .i64 k) ∧ (k ≤ x.length) ∧ (r = left - (x.length : Int) - (totTo x k : Nat)) ∧ (0 ≤ r) ∧ m' = x.length - k ∧ St w w2 [] [isF false Fx (.slice ax x.length cx) x]) (x.length - 0) ⟨_, 0, left - (x.length : Int), (by exact upd_eq (upd_eq (upd_eq (rfl) rfl) rfl) rfl), (by omega), (by rw [totTo_zero]; omega), (by omega), rfl, H⟩ ?_
  clear H
  rintro m' ρ w3 ⟨junk, k, r, rfl, i0, i1, i2, rfl, H⟩
  refine c_seq ?_
  refine c_seq ?_
  refine c_reg ?_
  refine sp (.int .i64 k) ?_
  refine sp (.slice ax x.length cx) ?_
  refine sw (o_len Try.underlying85 ax x.length cx rfl ?_)
  refine sp (.bool (decide ((k : Int) < x.length))) ?_
  refine c_nil (t_n ?_)
  refine c_cond (decide ((k : Int) < x.length)) rfl (fun h4 => ?_) (fun h4 => ?_)
  ·skip
   replace h4 := of_decide_eq_true h4
   refine c_skip (t_n ?_)
   refine c_seq ?_
   refine c_block ?_
   refine c_seq ?_
   refine c_reg ?_
   refine sp (.slice ax x.length cx) ?_
   refine sp (.int .i64 k) ?_
   obtain ⟨b5, o6, rfl⟩ := H.addr 0 rfl (by omega)
   obtain ⟨ae7Bag, ce7Bag, Fe7Bag, H⟩ := H.elem_IntoD 0 rfl k k (by omega) (by omega) (by omega)
   refine sw (o_idxAt k Try.underlying85 ti129 rfl rfl (by omega) (by omega) ?_)
   refine sw (o_loadN [.int .i64 ((x[k]!).fCell), .slice ae7Bag (((x[k]!).fBag).length) ce7Bag] Try.isAgg129 Try.sizeOf129 rfl (cellsAt_sub (H.get 1 rfl) 0 2) ?_)
   refine sp (.int .i64 r) ?_
   refine sw (o_call #[.agg #[.int .i64 ((x[k]!).fCell), .slice ae7Bag (((x[k]!).fBag).length) ce7Bag], .int .i64 r] rfl rfl Try.call116 (szInto_ok w3 (x[k]!) r ae7Bag ce7Bag Fe7Bag (H.get 0 rfl).1 (by omega)) ?_)
   rintro _ w8 rfl x9
   replace H := H.ext x9
   have := szR_cases (tot (x[k]!)) r
   refine sp (.int .i64 (szR (tot (x[k]!)) r)) ?_
   refine c_nil (t_n ?_)
   refine c_seq ?_
   refine c_reg ?_
   refine sp (.int .i64 (szR (tot (x[k]!)) r)) ?_
   refine sp (.bool (decide ((szR (tot (x[k]!)) r : Int) < 0))) ?_
   refine c_nil (t_n ?_)
   refine c_cond (decide ((szR (tot (x[k]!)) r : Int) < 0)) rfl (fun h10 => ?_) (fun h10 => ?_)
   ·skip
    replace h10 := of_decide_eq_true h10
    refine c_seq ?_
    refine c_reg ?_
    refine sp (.int .i64 (-1)) ?_
    refine c_nil (t_n ?_)
    refine c_ret (b_r (t_r (t_r (b_r (t_r (?_))))))
    refine ret1 (.int .i64 (-1)) rfl rfl ⟨_, rfl, ?_, H.base⟩
    refine congrArg (Value.int .i64) ?_
    have := szR_cases (tot x) left
    have := tot_get (l := x) (k := k) (by omega)
    omega
   ·skip
    replace h10 := of_decide_eq_false h10
    refine c_skip (b_n (t_n ?_))
    refine c_reg ?_
    refine sp (.int .i64 k) ?_
    refine sw (o_add k 1 rfl rfl (by omega) ?_)
    refine sp (.int .i64 (k + 1)) ?_
    refine c_nil (?_)
    refine loop_end (m' := x.length - (k + 1)) (by omega) ⟨_, k + 1, szR (tot (x[k]!)) r, (by exact upd_eq (upd_eq (upd_eq (rfl) rfl) rfl) rfl), ?_, ?_, ?_, rfl, H.sel _ (.refl _) _ (by simp)⟩
    · omega
    · rw [totTo_succ]; omega
    · omega
  ·skip
   replace h4 := of_decide_eq_false h4
   refine c_exit (t_x (t_x (b_x (t_n ?_))))
   refine c_seq ?_
   refine c_reg ?_
   refine sp (.int .i64 r) ?_
   refine sp (.int .i64 r) ?_
   refine c_nil (t_n ?_)
   refine c_ret (?_)
   refine ret1 (.int .i64 r) rfl rfl ⟨_, rfl, ?_, H.base⟩
   refine congrArg (Value.int .i64) ?_
   obtain rfl : k = x.length := by omega
   have := szR_cases (tot x) left
   rw [tot_list] at *
   omega

theorem szRule_ok (w : World) (x : RuleD) (left : Int) (axNeed : Option Addr) (cxNeed : Nat) (FxNeed : List Nat) (axHave : Option Addr) (cxHave : Nat) (FxHave : List Nat) (axLack : Option Addr) (cxLack : Nat) (FxLack : List Nat) (axHere : Option Addr) (cxHere : Nat) (FxHere : List Nat) (axOut : Option Addr) (cxOut : Nat) (FxOut : List Nat) (axInto : Option Addr) (cxInto : Nat) (FxInto : List Nat) (hxNeed : GoRep.rep w FxNeed [.slice axNeed x.fNeed.length cxNeed] x.fNeed) (hxHave : GoRep.rep w FxHave [.slice axHave x.fHave.length cxHave] x.fHave) (hxLack : GoRep.rep w FxLack [.slice axLack x.fLack.length cxLack] x.fLack) (hxHere : GoRep.rep w FxHere [.slice axHere x.fHere.length cxHere] x.fHere) (hxOut : GoRep.rep w FxOut [.slice axOut x.fOut.length cxOut] x.fOut) (hxInto : GoRep.rep w FxInto [.slice axInto x.fInto.length cxInto] x.fInto) (p0 : 0 ≤ left ∧ left ≤ 2000000) : Calls Try.prog 64 #[.agg #[.int .i64 x.fCell, .int .i64 x.fRank, .slice axNeed x.fNeed.length cxNeed, .slice axHave x.fHave.length cxHave, .slice axLack x.fLack.length cxLack, .slice axHere x.fHere.length cxHere, .slice axOut x.fOut.length cxOut, .slice axInto x.fInto.length cxInto, .bool x.fMelts], .int .i64 left] w (Ret (fun v w' => v = .int .i64 (szR (tot x) left)) w) := by
 refine enter (n := 42) Try.func64 rfl Try.ntmps64 (Nat.le_of_ble_eq_true rfl) ?_
 have H := St.start w
 replace H := H.add (isF false FxInto (.slice axInto x.fInto.length cxInto) x.fInto) ⟨hxInto, by simp⟩ (start_lt hxInto)
 replace H := H.add (isF false FxOut (.slice axOut x.fOut.length cxOut) x.fOut) ⟨hxOut, by simp⟩ (start_lt hxOut)
 replace H := H.add (isF false FxHere (.slice axHere x.fHere.length cxHere) x.fHere) ⟨hxHere, by simp⟩ (start_lt hxHere)
 replace H := H.add (isF false FxLack (.slice axLack x.fLack.length cxLack) x.fLack) ⟨hxLack, by simp⟩ (start_lt hxLack)
 replace H := H.add (isF false FxHave (.slice axHave x.fHave.length cxHave) x.fHave) ⟨hxHave, by simp⟩ (start_lt hxHave)
 replace H := H.add (isF false FxNeed (.slice axNeed x.fNeed.length cxNeed) x.fNeed) ⟨hxNeed, by simp⟩ (start_lt hxNeed)
 have nhxNeed := rep_len hxNeed
 have nhxHave := rep_len hxHave
 have nhxLack := rep_len hxLack
 have nhxHere := rep_len hxHere
 have nhxOut := rep_len hxOut
 have nhxInto := rep_len hxInto
 clear hxNeed hxHave hxLack hxHere hxOut hxInto
 refine c_seq ?_
 refine c_reg ?_
 refine sw (o_box H (.agg #[.int .i64 x.fCell, .int .i64 x.fRank, .slice axNeed x.fNeed.length cxNeed, .slice axHave x.fHave.length cxHave, .slice axLack x.fLack.length cxLack, .slice axHere x.fHere.length cxHere, .slice axOut x.fOut.length cxOut, .slice axInto x.fInto.length cxInto, .bool x.fMelts]) rfl fun b1 w2 H => ?_)
 replace H : St _ _ [.box b1 [.int .i64 x.fCell, .int .i64 x.fRank, .slice axNeed x.fNeed.length cxNeed, .slice axHave x.fHave.length cxHave, .slice axLack x.fLack.length cxLack, .slice axHere x.fHere.length cxHere, .slice axOut x.fOut.length cxOut, .slice axInto x.fInto.length cxInto, .bool x.fMelts] 87] _ := H
 refine sp (.int .i64 0) ?_
 refine c_nil (t_n ?_)
 refine c_seq ?_
 refine c_reg ?_
 refine sw (o_field b1 (0) 2 Try.underlying87 rfl rfl Try.sizeOf22 rfl ?_)
 refine sw (o_load1 (.slice axNeed x.fNeed.length cxNeed) Try.isAgg22 rfl (H.cell 0 rfl rfl) ?_)
 refine sp (.int .i64 left) ?_
 refine sw (o_call #[.slice axNeed x.fNeed.length cxNeed, .int .i64 left] rfl rfl Try.call23 (szInt64S_ok w2 x.fNeed left axNeed cxNeed FxNeed (H.get 0 rfl).1 (by omega)) ?_)
 rintro _ w3 rfl x4
 replace H := H.ext x4
 have := szR_cases (tot x.fNeed) left
 refine sp (.int .i64 (szR (tot x.fNeed) left)) ?_
 refine c_nil (t_n ?_)
 refine c_seq ?_
 refine c_seq ?_
 refine c_reg ?_
 refine sp (.int .i64 (szR (tot x.fNeed) left)) ?_
 refine sp (.bool (decide ((szR (tot x.fNeed) left : Int) < 0))) ?_
 refine c_nil (t_n ?_)
 refine c_cond (decide ((szR (tot x.fNeed) left : Int) < 0)) rfl (fun h5 => ?_) (fun h5 => ?_)
 ·skip
  replace h5 := of_decide_eq_true h5
  refine c_seq ?_
  refine c_reg ?_
  refine sp (.int .i64 (-1)) ?_
  refine c_nil (t_n ?_)
  refine c_ret (t_r (?_))
  refine ret1 (.int .i64 (-1)) rfl rfl ⟨_, rfl, ?_, H.base⟩
  refine congrArg (Value.int .i64) ?_
  have := szR_cases (tot x) left
  rw [tot_RuleD] at *
  try omega
 ·skip
  replace h5 := of_decide_eq_false h5
  refine c_skip (t_n ?_)
  refine c_seq ?_
  refine c_reg ?_
  refine sw (o_field b1 (0) 3 Try.underlying87 rfl rfl Try.sizeOf22 rfl ?_)
  refine sw (o_load1 (.slice axHave x.fHave.length cxHave) Try.isAgg22 rfl (H.cell 0 rfl rfl) ?_)
  refine sp (.int .i64 (szR (tot x.fNeed) left)) ?_
  refine sw (o_call #[.slice axHave x.fHave.length cxHave, .int .i64 (szR (tot x.fNeed) left)] rfl rfl Try.call23 (szInt64S_ok w3 x.fHave (szR (tot x.fNeed) left) axHave cxHave FxHave (H.get 1 rfl).1 (by omega)) ?_)
  rintro _ w6 rfl x7
  replace H := H.ext x7
  have := szR_cases (tot x.fHave) (szR (tot x.fNeed) left)
  refine sp (.int .i64 (szR (tot x.fHave) (szR (tot x.fNeed) left))) ?_
  refine c_nil (t_n ?_)
  refine c_seq ?_
  refine c_seq ?_
  refine c_reg ?_
  refine sp (.int .i64 (szR (tot x.fHave) (szR (tot x.fNeed) left))) ?_
  refine sp (.bool (decide ((szR (tot x.fHave) (szR (tot x.fNeed) left) : Int) < 0))) ?_
  refine c_nil (t_n ?_)
  refine c_cond (decide ((szR (tot x.fHave) (szR (tot x.fNeed) left) : Int) < 0)) rfl (fun h8 => ?_) (fun h8 => ?_)
  ·skip
   replace h8 := of_decide_eq_true h8
   refine c_seq ?_
   refine c_reg ?_
   refine sp (.int .i64 (-1)) ?_
   refine c_nil (t_n ?_)
   refine c_ret (t_r (?_))
   refine ret1 (.int .i64 (-1)) rfl rfl ⟨_, rfl, ?_, H.base⟩
   refine congrArg (Value.int .i64) ?_
   have := szR_cases (tot x) left
   rw [tot_RuleD] at *
   try omega
  ·skip
   replace h8 := of_decide_eq_false h8
   refine c_skip (t_n ?_)
   refine c_seq ?_
   refine c_reg ?_
   refine sw (o_field b1 (0) 4 Try.underlying87 rfl rfl Try.sizeOf22 rfl ?_)
   refine sw (o_load1 (.slice axLack x.fLack.length cxLack) Try.isAgg22 rfl (H.cell 0 rfl rfl) ?_)
   refine sp (.int .i64 (szR (tot x.fHave) (szR (tot x.fNeed) left))) ?_
   refine sw (o_call #[.slice axLack x.fLack.length cxLack, .int .i64 (szR (tot x.fHave) (szR (tot x.fNeed) left))] rfl rfl Try.call23 (szInt64S_ok w6 x.fLack (szR (tot x.fHave) (szR (tot x.fNeed) left)) axLack cxLack FxLack (H.get 2 rfl).1 (by omega)) ?_)
   rintro _ w9 rfl x10
   replace H := H.ext x10
   have := szR_cases (tot x.fLack) (szR (tot x.fHave) (szR (tot x.fNeed) left))
   refine sp (.int .i64 (szR (tot x.fLack) (szR (tot x.fHave) (szR (tot x.fNeed) left)))) ?_
   refine c_nil (t_n ?_)
   refine c_seq ?_
   refine c_seq ?_
   refine c_reg ?_
   refine sp (.int .i64 (szR (tot x.fLack) (szR (tot x.fHave) (szR (tot x.fNeed) left)))) ?_
   refine sp (.bool (decide ((szR (tot x.fLack) (szR (tot x.fHave) (szR (tot x.fNeed) left)) : Int) < 0))) ?_
   refine c_nil (t_n ?_)
   refine c_cond (decide ((szR (tot x.fLack) (szR (tot x.fHave) (szR (tot x.fNeed) left)) : Int) < 0)) rfl (fun h11 => ?_) (fun h11 => ?_)
   ·skip
    replace h11 := of_decide_eq_true h11
    refine c_seq ?_
    refine c_reg ?_
    refine sp (.int .i64 (-1)) ?_
    refine c_nil (t_n ?_)
    refine c_ret (t_r (?_))
    refine ret1 (.int .i64 (-1)) rfl rfl ⟨_, rfl, ?_, H.base⟩
    refine congrArg (Value.int .i64) ?_
    have := szR_cases (tot x) left
    rw [tot_RuleD] at *
    try omega
   ·skip
    replace h11 := of_decide_eq_false h11
    refine c_skip (t_n ?_)
    refine c_seq ?_
    refine c_reg ?_
    refine sw (o_field b1 (0) 5 Try.underlying87 rfl rfl Try.sizeOf22 rfl ?_)
    refine sw (o_load1 (.slice axHere x.fHere.length cxHere) Try.isAgg22 rfl (H.cell 0 rfl rfl) ?_)
    refine sp (.int .i64 (szR (tot x.fLack) (szR (tot x.fHave) (szR (tot x.fNeed) left)))) ?_
    refine sw (o_call #[.slice axHere x.fHere.length cxHere, .int .i64 (szR (tot x.fLack) (szR (tot x.fHave) (szR (tot x.fNeed) left)))] rfl rfl Try.call23 (szInt64S_ok w9 x.fHere (szR (tot x.fLack) (szR (tot x.fHave) (szR (tot x.fNeed) left))) axHere cxHere FxHere (H.get 3 rfl).1 (by omega)) ?_)
    rintro _ w12 rfl x13
    replace H := H.ext x13
    have := szR_cases (tot x.fHere) (szR (tot x.fLack) (szR (tot x.fHave) (szR (tot x.fNeed) left)))
    refine sp (.int .i64 (szR (tot x.fHere) (szR (tot x.fLack) (szR (tot x.fHave) (szR (tot x.fNeed) left))))) ?_
    refine c_nil (t_n ?_)
    refine c_seq ?_
    refine c_seq ?_
    refine c_reg ?_
    refine sp (.int .i64 (szR (tot x.fHere) (szR (tot x.fLack) (szR (tot x.fHave) (szR (tot x.fNeed) left))))) ?_
    refine sp (.bool (decide ((szR (tot x.fHere) (szR (tot x.fLack) (szR (tot x.fHave) (szR (tot x.fNeed) left))) : Int) < 0))) ?_
    refine c_nil (t_n ?_)
    refine c_cond (decide ((szR (tot x.fHere) (szR (tot x.fLack) (szR (tot x.fHave) (szR (tot x.fNeed) left))) : Int) < 0)) rfl (fun h14 => ?_) (fun h14 => ?_)
    ·skip
     replace h14 := of_decide_eq_true h14
     refine c_seq ?_
     refine c_reg ?_
     refine sp (.int .i64 (-1)) ?_
     refine c_nil (t_n ?_)
     refine c_ret (t_r (?_))
     refine ret1 (.int .i64 (-1)) rfl rfl ⟨_, rfl, ?_, H.base⟩
     refine congrArg (Value.int .i64) ?_
     have := szR_cases (tot x) left
     rw [tot_RuleD] at *
     try omega
    ·skip
     replace h14 := of_decide_eq_false h14
     refine c_skip (t_n ?_)
     refine c_seq ?_
     refine c_reg ?_
     refine sw (o_field b1 (0) 6 Try.underlying87 rfl rfl Try.sizeOf22 rfl ?_)
     refine sw (o_load1 (.slice axOut x.fOut.length cxOut) Try.isAgg22 rfl (H.cell 0 rfl rfl) ?_)
     refine sp (.int .i64 (szR (tot x.fHere) (szR (tot x.fLack) (szR (tot x.fHave) (szR (tot x.fNeed) left))))) ?_
     refine sw (o_call #[.slice axOut x.fOut.length cxOut, .int .i64 (szR (tot x.fHere) (szR (tot x.fLack) (szR (tot x.fHave) (szR (tot x.fNeed) left))))] rfl rfl Try.call23 (szInt64S_ok w12 x.fOut (szR (tot x.fHere) (szR (tot x.fLack) (szR (tot x.fHave) (szR (tot x.fNeed) left)))) axOut cxOut FxOut (H.get 4 rfl).1 (by omega)) ?_)
     rintro _ w15 rfl x16
     replace H := H.ext x16
     have := szR_cases (tot x.fOut) (szR (tot x.fHere) (szR (tot x.fLack) (szR (tot x.fHave) (szR (tot x.fNeed) left))))
     refine sp (.int .i64 (szR (tot x.fOut) (szR (tot x.fHere) (szR (tot x.fLack) (szR (tot x.fHave) (szR (tot x.fNeed) left)))))) ?_
     refine c_nil (t_n ?_)
     refine c_seq ?_
     refine c_seq ?_
     refine c_reg ?_
     refine sp (.int .i64 (szR (tot x.fOut) (szR (tot x.fHere) (szR (tot x.fLack) (szR (tot x.fHave) (szR (tot x.fNeed) left)))))) ?_
     refine sp (.bool (decide ((szR (tot x.fOut) (szR (tot x.fHere) (szR (tot x.fLack) (szR (tot x.fHave) (szR (tot x.fNeed) left)))) : Int) < 0))) ?_
     refine c_nil (t_n ?_)
     refine c_cond (decide ((szR (tot x.fOut) (szR (tot x.fHere) (szR (tot x.fLack) (szR (tot x.fHave) (szR (tot x.fNeed) left)))) : Int) < 0)) rfl (fun h17 => ?_) (fun h17 => ?_)
     ·skip
      replace h17 := of_decide_eq_true h17
      refine c_seq ?_
      refine c_reg ?_
      refine sp (.int .i64 (-1)) ?_
      refine c_nil (t_n ?_)
      refine c_ret (t_r (?_))
      refine ret1 (.int .i64 (-1)) rfl rfl ⟨_, rfl, ?_, H.base⟩
      refine congrArg (Value.int .i64) ?_
      have := szR_cases (tot x) left
      rw [tot_RuleD] at *
      try omega
     ·skip
      replace h17 := of_decide_eq_false h17
      refine c_skip (t_n ?_)
      refine c_seq ?_
      refine c_reg ?_
      refine sw (o_field b1 (0) 7 Try.underlying87 rfl rfl Try.sizeOf85 rfl ?_)
      refine sw (o_load1 (.slice axInto x.fInto.length cxInto) Try.isAgg85 rfl (H.cell 0 rfl rfl) ?_)
      refine sp (.int .i64 (szR (tot x.fOut) (szR (tot x.fHere) (szR (tot x.fLack) (szR (tot x.fHave) (szR (tot x.fNeed) left)))))) ?_
      refine sw (o_call #[.slice axInto x.fInto.length cxInto, .int .i64 (szR (tot x.fOut) (szR (tot x.fHere) (szR (tot x.fLack) (szR (tot x.fHave) (szR (tot x.fNeed) left)))))] rfl rfl Try.call96 (szIntoS_ok w15 x.fInto (szR (tot x.fOut) (szR (tot x.fHere) (szR (tot x.fLack) (szR (tot x.fHave) (szR (tot x.fNeed) left))))) axInto cxInto FxInto (H.get 5 rfl).1 (by omega)) ?_)
      rintro _ w18 rfl x19
      replace H := H.ext x19
      have := szR_cases (tot x.fInto) (szR (tot x.fOut) (szR (tot x.fHere) (szR (tot x.fLack) (szR (tot x.fHave) (szR (tot x.fNeed) left)))))
      refine sp (.int .i64 (szR (tot x.fInto) (szR (tot x.fOut) (szR (tot x.fHere) (szR (tot x.fLack) (szR (tot x.fHave) (szR (tot x.fNeed) left))))))) ?_
      refine c_nil (t_n ?_)
      refine c_seq ?_
      refine c_seq ?_
      refine c_reg ?_
      refine sp (.int .i64 (szR (tot x.fInto) (szR (tot x.fOut) (szR (tot x.fHere) (szR (tot x.fLack) (szR (tot x.fHave) (szR (tot x.fNeed) left))))))) ?_
      refine sp (.bool (decide ((szR (tot x.fInto) (szR (tot x.fOut) (szR (tot x.fHere) (szR (tot x.fLack) (szR (tot x.fHave) (szR (tot x.fNeed) left))))) : Int) < 0))) ?_
      refine c_nil (t_n ?_)
      refine c_cond (decide ((szR (tot x.fInto) (szR (tot x.fOut) (szR (tot x.fHere) (szR (tot x.fLack) (szR (tot x.fHave) (szR (tot x.fNeed) left))))) : Int) < 0)) rfl (fun h20 => ?_) (fun h20 => ?_)
      ·skip
       replace h20 := of_decide_eq_true h20
       refine c_seq ?_
       refine c_reg ?_
       refine sp (.int .i64 (-1)) ?_
       refine c_nil (t_n ?_)
       refine c_ret (t_r (?_))
       refine ret1 (.int .i64 (-1)) rfl rfl ⟨_, rfl, ?_, H.base⟩
       refine congrArg (Value.int .i64) ?_
       have := szR_cases (tot x) left
       rw [tot_RuleD] at *
       try omega
      ·skip
       replace h20 := of_decide_eq_false h20
       refine c_skip (t_n ?_)
       refine c_seq ?_
       refine c_reg ?_
       refine sp (.int .i64 (szR (tot x.fInto) (szR (tot x.fOut) (szR (tot x.fHere) (szR (tot x.fLack) (szR (tot x.fHave) (szR (tot x.fNeed) left))))))) ?_
       refine sp (.int .i64 (szR (tot x.fInto) (szR (tot x.fOut) (szR (tot x.fHere) (szR (tot x.fLack) (szR (tot x.fHave) (szR (tot x.fNeed) left))))))) ?_
       refine c_nil (t_n ?_)
       refine c_ret (?_)
       refine ret1 (.int .i64 (szR (tot x.fInto) (szR (tot x.fOut) (szR (tot x.fHere) (szR (tot x.fLack) (szR (tot x.fHave) (szR (tot x.fNeed) left))))))) rfl rfl ⟨_, rfl, ?_, H.base⟩
       refine congrArg (Value.int .i64) ?_
       have := szR_cases (tot x) left
       rw [tot_RuleD] at *
       try omega

theorem szRuleS_ok (w : World) (x : List RuleD) (left : Int) (ax : Option Addr) (cx : Nat) (Fx : List Nat) (hx : GoRep.rep w Fx [.slice ax x.length cx] x) (p0 : 0 ≤ left ∧ left ≤ 2000000) : Calls Try.prog 24 #[.slice ax x.length cx, .int .i64 left] w (Ret (fun v w' => v = .int .i64 (szR (tot x) left)) w) := by
 refine enter (n := 27) Try.func24 rfl Try.ntmps24 (Nat.le_of_ble_eq_true rfl) ?_
 have H := St.start w
 replace H := H.add (isF false Fx (.slice ax x.length cx) x) ⟨hx, by simp⟩ (start_lt hx)
 have nhx := rep_len hx
 clear hx
 refine c_seq ?_
 refine c_reg ?_
 refine sp (.int .i64 0) ?_
 refine c_nil (t_n ?_)
 refine c_seq ?_
 refine c_reg ?_
 refine sp (.int .i64 left) ?_
 refine sp (.slice ax x.length cx) ?_
 refine sw (o_len Try.underlying23 ax x.length cx rfl ?_)
 refine sw (o_sub left x.length rfl rfl (by omega) ?_)
 refine sp (.int .i64 (left - x.length)) ?_
 refine c_nil (t_n ?_)
 refine c_seq ?_
 refine c_seq ?_
 refine c_reg ?_
 refine sp (.int .i64 (left - x.length)) ?_
 refine sp (.bool (decide ((left - x.length : Int) < 0))) ?_
 refine c_nil (t_n ?_)
 refine c_cond (decide ((left - x.length : Int) < 0)) rfl (fun h1 => ?_) (fun h1 => ?_)
 ·skip
  replace h1 := of_decide_eq_true h1
  refine c_seq ?_
  refine c_reg ?_
  refine sp (.int .i64 (-1)) ?_
  refine c_nil (t_n ?_)
  refine c_ret (t_r (?_))
  refine ret1 (.int .i64 (-1)) rfl rfl ⟨_, rfl, ?_, H.base⟩
  refine congrArg (Value.int .i64) ?_
  have := szR_cases (tot x) left
  have := len_tot x
  omega
 ·skip
  replace h1 := of_decide_eq_false h1
  refine c_skip (t_n ?_)
  refine c_seq ?_
  refine c_seq ?_
  refine c_reg ?_
  refine sp (.int .i64 0) ?_
  refine c_nil (t_n ?_)
  refine c_block ?_
  refine c_loop (fun m' ρ w2 => ∃ (junk : Env) (k : Nat) (r : Int), ρ = upd (upd (upd junk 0 (.slice ax x.length cx)) 1 (.int .i64 r)) 5 (.int .i64 k) ∧ (k ≤ x.length) ∧ (r = left - (x.length : Int) - (totTo x k : Nat)) ∧ (0 ≤ r) ∧ m' = x.length - k ∧ St w w2 [] [isF false Fx (.slice ax x.length cx) x]) (x.length - 0) ⟨_, 0, left - (x.length : Int), (by exact upd_eq (upd_eq (upd_eq (rfl) rfl) rfl) rfl), (by omega), (by rw [totTo_zero]; omega), (by omega), rfl, H⟩ ?_
  clear H
  rintro m' ρ w3 ⟨junk, k, r, rfl, i0, i1, i2, rfl, H⟩
  refine c_seq ?_
  refine c_seq ?_
  refine c_reg ?_
  refine sp (.int .i64 k) ?_
  refine sp (.slice ax x.length cx) ?_
  refine sw (o_len Try.underlying23 ax x.length cx rfl ?_)
  refine sp (.bool (decide ((k : Int) < x.length))) ?_
  refine c_nil (t_n ?_)
  refine c_cond (decide ((k : Int) < x.length)) rfl (fun h4 => ?_) (fun h4 => ?_)
  ·skip
   replace h4 := of_decide_eq_true h4
   refine c_skip (t_n ?_)
   refine c_seq ?_
   refine c_block ?_
   refine c_seq ?_
   refine c_reg ?_
   refine sp (.slice ax x.length cx) ?_
   refine sp (.int .i64 k) ?_
   obtain ⟨b5, o6, rfl⟩ := H.addr 0 rfl (by omega)
   obtain ⟨ae7Need, ce7Need, Fe7Need, ae7Have, ce7Have, Fe7Have, ae7Lack, ce7Lack, Fe7Lack, ae7Here, ce7Here, Fe7Here, ae7Out, ce7Out, Fe7Out, ae7Into, ce7Into, Fe7Into, H⟩ := H.elem_RuleD 0 rfl k k (by omega) (by omega) (by omega)
   refine sw (o_idxAt k Try.underlying23 ti87 rfl rfl (by omega) (by omega) ?_)
   refine sw (o_loadN [.int .i64 ((x[k]!).fCell), .int .i64 ((x[k]!).fRank), .slice ae7Need (((x[k]!).fNeed).length) ce7Need, .slice ae7Have (((x[k]!).fHave).length) ce7Have, .slice ae7Lack (((x[k]!).fLack).length) ce7Lack, .slice ae7Here (((x[k]!).fHere).length) ce7Here, .slice ae7Out (((x[k]!).fOut).length) ce7Out, .slice ae7Into (((x[k]!).fInto).length) ce7Into, .bool ((x[k]!).fMelts)] Try.isAgg87 Try.sizeOf87 rfl (cellsAt_sub (H.get 6 rfl) 0 9) ?_)
   refine sp (.int .i64 r) ?_
   refine sw (o_call #[.agg #[.int .i64 ((x[k]!).fCell), .int .i64 ((x[k]!).fRank), .slice ae7Need (((x[k]!).fNeed).length) ce7Need, .slice ae7Have (((x[k]!).fHave).length) ce7Have, .slice ae7Lack (((x[k]!).fLack).length) ce7Lack, .slice ae7Here (((x[k]!).fHere).length) ce7Here, .slice ae7Out (((x[k]!).fOut).length) ce7Out, .slice ae7Into (((x[k]!).fInto).length) ce7Into, .bool ((x[k]!).fMelts)], .int .i64 r] rfl rfl Try.call64 (szRule_ok w3 (x[k]!) r ae7Need ce7Need Fe7Need ae7Have ce7Have Fe7Have ae7Lack ce7Lack Fe7Lack ae7Here ce7Here Fe7Here ae7Out ce7Out Fe7Out ae7Into ce7Into Fe7Into (H.get 0 rfl).1 (H.get 1 rfl).1 (H.get 2 rfl).1 (H.get 3 rfl).1 (H.get 4 rfl).1 (H.get 5 rfl).1 (by omega)) ?_)
   rintro _ w8 rfl x9
   replace H := H.ext x9
   have := szR_cases (tot (x[k]!)) r
   refine sp (.int .i64 (szR (tot (x[k]!)) r)) ?_
   refine c_nil (t_n ?_)
   refine c_seq ?_
   refine c_reg ?_
   refine sp (.int .i64 (szR (tot (x[k]!)) r)) ?_
   refine sp (.bool (decide ((szR (tot (x[k]!)) r : Int) < 0))) ?_
   refine c_nil (t_n ?_)
   refine c_cond (decide ((szR (tot (x[k]!)) r : Int) < 0)) rfl (fun h10 => ?_) (fun h10 => ?_)
   ·skip
    replace h10 := of_decide_eq_true h10
    refine c_seq ?_
    refine c_reg ?_
    refine sp (.int .i64 (-1)) ?_
    refine c_nil (t_n ?_)
    refine c_ret (b_r (t_r (t_r (b_r (t_r (?_))))))
    refine ret1 (.int .i64 (-1)) rfl rfl ⟨_, rfl, ?_, H.base⟩
    refine congrArg (Value.int .i64) ?_
    have := szR_cases (tot x) left
    have := tot_get (l := x) (k := k) (by omega)
    omega
   ·skip
    replace h10 := of_decide_eq_false h10
    refine c_skip (b_n (t_n ?_))
    refine c_reg ?_
    refine sp (.int .i64 k) ?_
    refine sw (o_add k 1 rfl rfl (by omega) ?_)
    refine sp (.int .i64 (k + 1)) ?_
    refine c_nil (?_)
    refine loop_end (m' := x.length - (k + 1)) (by omega) ⟨_, k + 1, szR (tot (x[k]!)) r, (by exact upd_eq (upd_eq (upd_eq (rfl) rfl) rfl) rfl), ?_, ?_, ?_, rfl, H.sel _ (.refl _) _ (by simp)⟩
    · omega
    · rw [totTo_succ]; omega
    · omega
  ·skip
   replace h4 := of_decide_eq_false h4
   refine c_exit (t_x (t_x (b_x (t_n ?_))))
   refine c_seq ?_
   refine c_reg ?_
   refine sp (.int .i64 r) ?_
   refine sp (.int .i64 r) ?_
   refine c_nil (t_n ?_)
   refine c_ret (?_)
   refine ret1 (.int .i64 r) rfl rfl ⟨_, rfl, ?_, H.base⟩
   refine congrArg (Value.int .i64) ?_
   obtain rfl : k = x.length := by omega
   have := szR_cases (tot x) left
   rw [tot_list] at *
   omega

theorem szSystem_ok (w : World) (x : SystemD) (left : Int) (axParents : Option Addr) (cxParents : Nat) (FxParents : List Nat) (axRules : Option Addr) (cxRules : Nat) (FxRules : List Nat) (hxParents : GoRep.rep w FxParents [.slice axParents x.fParents.length cxParents] x.fParents) (hxRules : GoRep.rep w FxRules [.slice axRules x.fRules.length cxRules] x.fRules) (p0 : 0 ≤ left ∧ left ≤ 2000000) : Calls Try.prog 6 #[.agg #[.int .i64 x.fKinds, .slice axParents x.fParents.length cxParents, .slice axRules x.fRules.length cxRules], .int .i64 left] w (Ret (fun v w' => v = .int .i64 (szR (tot x) left)) w) := by
 refine enter (n := 18) Try.func6 rfl Try.ntmps6 (Nat.le_of_ble_eq_true rfl) ?_
 have H := St.start w
 replace H := H.add (isF false FxRules (.slice axRules x.fRules.length cxRules) x.fRules) ⟨hxRules, by simp⟩ (start_lt hxRules)
 replace H := H.add (isF false FxParents (.slice axParents x.fParents.length cxParents) x.fParents) ⟨hxParents, by simp⟩ (start_lt hxParents)
 have nhxParents := rep_len hxParents
 have nhxRules := rep_len hxRules
 clear hxParents hxRules
 refine c_seq ?_
 refine c_reg ?_
 refine sw (o_box H (.agg #[.int .i64 x.fKinds, .slice axParents x.fParents.length cxParents, .slice axRules x.fRules.length cxRules]) rfl fun b1 w2 H => ?_)
 replace H : St _ _ [.box b1 [.int .i64 x.fKinds, .slice axParents x.fParents.length cxParents, .slice axRules x.fRules.length cxRules] 25] _ := H
 refine sp (.int .i64 0) ?_
 refine c_nil (t_n ?_)
 refine c_seq ?_
 refine c_reg ?_
 refine sw (o_field b1 (0) 1 Try.underlying25 rfl rfl Try.sizeOf22 rfl ?_)
 refine sw (o_load1 (.slice axParents x.fParents.length cxParents) Try.isAgg22 rfl (H.cell 0 rfl rfl) ?_)
 refine sp (.int .i64 left) ?_
 refine sw (o_call #[.slice axParents x.fParents.length cxParents, .int .i64 left] rfl rfl Try.call23 (szInt64S_ok w2 x.fParents left axParents cxParents FxParents (H.get 0 rfl).1 (by omega)) ?_)
 rintro _ w3 rfl x4
 replace H := H.ext x4
 have := szR_cases (tot x.fParents) left
 refine sp (.int .i64 (szR (tot x.fParents) left)) ?_
 refine c_nil (t_n ?_)
 refine c_seq ?_
 refine c_seq ?_
 refine c_reg ?_
 refine sp (.int .i64 (szR (tot x.fParents) left)) ?_
 refine sp (.bool (decide ((szR (tot x.fParents) left : Int) < 0))) ?_
 refine c_nil (t_n ?_)
 refine c_cond (decide ((szR (tot x.fParents) left : Int) < 0)) rfl (fun h5 => ?_) (fun h5 => ?_)
 ·skip
  replace h5 := of_decide_eq_true h5
  refine c_seq ?_
  refine c_reg ?_
  refine sp (.int .i64 (-1)) ?_
  refine c_nil (t_n ?_)
  refine c_ret (t_r (?_))
  refine ret1 (.int .i64 (-1)) rfl rfl ⟨_, rfl, ?_, H.base⟩
  refine congrArg (Value.int .i64) ?_
  have := szR_cases (tot x) left
  rw [tot_SystemD] at *
  try omega
 ·skip
  replace h5 := of_decide_eq_false h5
  refine c_skip (t_n ?_)
  refine c_seq ?_
  refine c_reg ?_
  refine sw (o_field b1 (0) 2 Try.underlying25 rfl rfl Try.sizeOf23 rfl ?_)
  refine sw (o_load1 (.slice axRules x.fRules.length cxRules) Try.isAgg23 rfl (H.cell 0 rfl rfl) ?_)
  refine sp (.int .i64 (szR (tot x.fParents) left)) ?_
  refine sw (o_call #[.slice axRules x.fRules.length cxRules, .int .i64 (szR (tot x.fParents) left)] rfl rfl Try.call24 (szRuleS_ok w3 x.fRules (szR (tot x.fParents) left) axRules cxRules FxRules (H.get 1 rfl).1 (by omega)) ?_)
  rintro _ w6 rfl x7
  replace H := H.ext x7
  have := szR_cases (tot x.fRules) (szR (tot x.fParents) left)
  refine sp (.int .i64 (szR (tot x.fRules) (szR (tot x.fParents) left))) ?_
  refine c_nil (t_n ?_)
  refine c_seq ?_
  refine c_seq ?_
  refine c_reg ?_
  refine sp (.int .i64 (szR (tot x.fRules) (szR (tot x.fParents) left))) ?_
  refine sp (.bool (decide ((szR (tot x.fRules) (szR (tot x.fParents) left) : Int) < 0))) ?_
  refine c_nil (t_n ?_)
  refine c_cond (decide ((szR (tot x.fRules) (szR (tot x.fParents) left) : Int) < 0)) rfl (fun h8 => ?_) (fun h8 => ?_)
  ·skip
   replace h8 := of_decide_eq_true h8
   refine c_seq ?_
   refine c_reg ?_
   refine sp (.int .i64 (-1)) ?_
   refine c_nil (t_n ?_)
   refine c_ret (t_r (?_))
   refine ret1 (.int .i64 (-1)) rfl rfl ⟨_, rfl, ?_, H.base⟩
   refine congrArg (Value.int .i64) ?_
   have := szR_cases (tot x) left
   rw [tot_SystemD] at *
   try omega
  ·skip
   replace h8 := of_decide_eq_false h8
   refine c_skip (t_n ?_)
   refine c_seq ?_
   refine c_reg ?_
   refine sp (.int .i64 (szR (tot x.fRules) (szR (tot x.fParents) left))) ?_
   refine sp (.int .i64 (szR (tot x.fRules) (szR (tot x.fParents) left))) ?_
   refine c_nil (t_n ?_)
   refine c_ret (?_)
   refine ret1 (.int .i64 (szR (tot x.fRules) (szR (tot x.fParents) left))) rfl rfl ⟨_, rfl, ?_, H.base⟩
   refine congrArg (Value.int .i64) ?_
   have := szR_cases (tot x) left
   rw [tot_SystemD] at *
   try omega

theorem szState_ok (w : World) (x : StateD) (left : Int) (axAlive : Option Addr) (cxAlive : Nat) (FxAlive : List Nat) (axBags : Option Addr) (cxBags : Nat) (FxBags : List Nat) (axAround : Option Addr) (cxAround : Nat) (FxAround : List Nat) (hxAlive : GoRep.rep w FxAlive [.slice axAlive x.fAlive.length cxAlive] x.fAlive) (hxBags : GoRep.rep w FxBags [.slice axBags x.fBags.length cxBags] x.fBags) (hxAround : GoRep.rep w FxAround [.slice axAround x.fAround.length cxAround] x.fAround) (p0 : 0 ≤ left ∧ left ≤ 2000000) : Calls Try.prog 13 #[.agg #[.slice axAlive x.fAlive.length cxAlive, .slice axBags x.fBags.length cxBags, .slice axAround x.fAround.length cxAround], .int .i64 left] w (Ret (fun v w' => v = .int .i64 (szR (tot x) left)) w) := by
 refine enter (n := 24) Try.func13 rfl Try.ntmps13 (Nat.le_of_ble_eq_true rfl) ?_
 have H := St.start w
 replace H := H.add (isF false FxAround (.slice axAround x.fAround.length cxAround) x.fAround) ⟨hxAround, by simp⟩ (start_lt hxAround)
 replace H := H.add (isF false FxBags (.slice axBags x.fBags.length cxBags) x.fBags) ⟨hxBags, by simp⟩ (start_lt hxBags)
 replace H := H.add (isF false FxAlive (.slice axAlive x.fAlive.length cxAlive) x.fAlive) ⟨hxAlive, by simp⟩ (start_lt hxAlive)
 have nhxAlive := rep_len hxAlive
 have nhxBags := rep_len hxBags
 have nhxAround := rep_len hxAround
 clear hxAlive hxBags hxAround
 refine c_seq ?_
 refine c_reg ?_
 refine sw (o_box H (.agg #[.slice axAlive x.fAlive.length cxAlive, .slice axBags x.fBags.length cxBags, .slice axAround x.fAround.length cxAround]) rfl fun b1 w2 H => ?_)
 replace H : St _ _ [.box b1 [.slice axAlive x.fAlive.length cxAlive, .slice axBags x.fBags.length cxBags, .slice axAround x.fAround.length cxAround] 39] _ := H
 refine sp (.int .i64 0) ?_
 refine c_nil (t_n ?_)
 refine c_seq ?_
 refine c_reg ?_
 refine sw (o_field b1 (0) 0 Try.underlying39 rfl rfl Try.sizeOf36 rfl ?_)
 refine sw (o_load1 (.slice axAlive x.fAlive.length cxAlive) Try.isAgg36 rfl (H.cell 0 rfl rfl) ?_)
 refine sp (.int .i64 left) ?_
 refine sw (o_call #[.slice axAlive x.fAlive.length cxAlive, .int .i64 left] rfl rfl Try.call33 (szBoolS_ok w2 x.fAlive left axAlive cxAlive FxAlive (H.get 0 rfl).1 (by omega)) ?_)
 rintro _ w3 rfl x4
 replace H := H.ext x4
 have := szR_cases (tot x.fAlive) left
 refine sp (.int .i64 (szR (tot x.fAlive) left)) ?_
 refine c_nil (t_n ?_)
 refine c_seq ?_
 refine c_seq ?_
 refine c_reg ?_
 refine sp (.int .i64 (szR (tot x.fAlive) left)) ?_
 refine sp (.bool (decide ((szR (tot x.fAlive) left : Int) < 0))) ?_
 refine c_nil (t_n ?_)
 refine c_cond (decide ((szR (tot x.fAlive) left : Int) < 0)) rfl (fun h5 => ?_) (fun h5 => ?_)
 ·skip
  replace h5 := of_decide_eq_true h5
  refine c_seq ?_
  refine c_reg ?_
  refine sp (.int .i64 (-1)) ?_
  refine c_nil (t_n ?_)
  refine c_ret (t_r (?_))
  refine ret1 (.int .i64 (-1)) rfl rfl ⟨_, rfl, ?_, H.base⟩
  refine congrArg (Value.int .i64) ?_
  have := szR_cases (tot x) left
  rw [tot_StateD] at *
  try omega
 ·skip
  replace h5 := of_decide_eq_false h5
  refine c_skip (t_n ?_)
  refine c_seq ?_
  refine c_reg ?_
  refine sw (o_field b1 (0) 1 Try.underlying39 rfl rfl Try.sizeOf37 rfl ?_)
  refine sw (o_load1 (.slice axBags x.fBags.length cxBags) Try.isAgg37 rfl (H.cell 0 rfl rfl) ?_)
  refine sp (.int .i64 (szR (tot x.fAlive) left)) ?_
  refine sw (o_call #[.slice axBags x.fBags.length cxBags, .int .i64 (szR (tot x.fAlive) left)] rfl rfl Try.call34 (szInt64SS_ok w3 x.fBags (szR (tot x.fAlive) left) axBags cxBags FxBags (H.get 1 rfl).1 (by omega)) ?_)
  rintro _ w6 rfl x7
  replace H := H.ext x7
  have := szR_cases (tot x.fBags) (szR (tot x.fAlive) left)
  refine sp (.int .i64 (szR (tot x.fBags) (szR (tot x.fAlive) left))) ?_
  refine c_nil (t_n ?_)
  refine c_seq ?_
  refine c_seq ?_
  refine c_reg ?_
  refine sp (.int .i64 (szR (tot x.fBags) (szR (tot x.fAlive) left))) ?_
  refine sp (.bool (decide ((szR (tot x.fBags) (szR (tot x.fAlive) left) : Int) < 0))) ?_
  refine c_nil (t_n ?_)
  refine c_cond (decide ((szR (tot x.fBags) (szR (tot x.fAlive) left) : Int) < 0)) rfl (fun h8 => ?_) (fun h8 => ?_)
  ·skip
   replace h8 := of_decide_eq_true h8
   refine c_seq ?_
   refine c_reg ?_
   refine sp (.int .i64 (-1)) ?_
   refine c_nil (t_n ?_)
   refine c_ret (t_r (?_))
   refine ret1 (.int .i64 (-1)) rfl rfl ⟨_, rfl, ?_, H.base⟩
   refine congrArg (Value.int .i64) ?_
   have := szR_cases (tot x) left
   rw [tot_StateD] at *
   try omega
  ·skip
   replace h8 := of_decide_eq_false h8
   refine c_skip (t_n ?_)
   refine c_seq ?_
   refine c_reg ?_
   refine sw (o_field b1 (0) 2 Try.underlying39 rfl rfl Try.sizeOf22 rfl ?_)
   refine sw (o_load1 (.slice axAround x.fAround.length cxAround) Try.isAgg22 rfl (H.cell 0 rfl rfl) ?_)
   refine sp (.int .i64 (szR (tot x.fBags) (szR (tot x.fAlive) left))) ?_
   refine sw (o_call #[.slice axAround x.fAround.length cxAround, .int .i64 (szR (tot x.fBags) (szR (tot x.fAlive) left))] rfl rfl Try.call23 (szInt64S_ok w6 x.fAround (szR (tot x.fBags) (szR (tot x.fAlive) left)) axAround cxAround FxAround (H.get 2 rfl).1 (by omega)) ?_)
   rintro _ w9 rfl x10
   replace H := H.ext x10
   have := szR_cases (tot x.fAround) (szR (tot x.fBags) (szR (tot x.fAlive) left))
   refine sp (.int .i64 (szR (tot x.fAround) (szR (tot x.fBags) (szR (tot x.fAlive) left)))) ?_
   refine c_nil (t_n ?_)
   refine c_seq ?_
   refine c_seq ?_
   refine c_reg ?_
   refine sp (.int .i64 (szR (tot x.fAround) (szR (tot x.fBags) (szR (tot x.fAlive) left)))) ?_
   refine sp (.bool (decide ((szR (tot x.fAround) (szR (tot x.fBags) (szR (tot x.fAlive) left)) : Int) < 0))) ?_
   refine c_nil (t_n ?_)
   refine c_cond (decide ((szR (tot x.fAround) (szR (tot x.fBags) (szR (tot x.fAlive) left)) : Int) < 0)) rfl (fun h11 => ?_) (fun h11 => ?_)
   ·skip
    replace h11 := of_decide_eq_true h11
    refine c_seq ?_
    refine c_reg ?_
    refine sp (.int .i64 (-1)) ?_
    refine c_nil (t_n ?_)
    refine c_ret (t_r (?_))
    refine ret1 (.int .i64 (-1)) rfl rfl ⟨_, rfl, ?_, H.base⟩
    refine congrArg (Value.int .i64) ?_
    have := szR_cases (tot x) left
    rw [tot_StateD] at *
    try omega
   ·skip
    replace h11 := of_decide_eq_false h11
    refine c_skip (t_n ?_)
    refine c_seq ?_
    refine c_reg ?_
    refine sp (.int .i64 (szR (tot x.fAround) (szR (tot x.fBags) (szR (tot x.fAlive) left)))) ?_
    refine sp (.int .i64 (szR (tot x.fAround) (szR (tot x.fBags) (szR (tot x.fAlive) left)))) ?_
    refine c_nil (t_n ?_)
    refine c_ret (?_)
    refine ret1 (.int .i64 (szR (tot x.fAround) (szR (tot x.fBags) (szR (tot x.fAlive) left)))) rfl rfl ⟨_, rfl, ?_, H.base⟩
    refine congrArg (Value.int .i64) ?_
    have := szR_cases (tot x) left
    rw [tot_StateD] at *
    try omega

theorem toInt64S_ok (w : World) (x : List Int) (ax : Option Addr) (cx : Nat) (Fx : List Nat) (hx : GoRep.rep w Fx [.slice ax x.length cx] x) (p0 : tot x ≤ 2000000) : Calls Try.prog 9 #[.slice ax x.length cx] w (Ret (fun v w' => OwnNew w w' 2 v x) w) := by
 refine enter (n := 22) Try.func9 rfl Try.ntmps9 (Nat.le_of_ble_eq_true rfl) ?_
 have H := St.start w
 replace H := H.add (isF false Fx (.slice ax x.length cx) x) ⟨hx, by simp⟩ (start_lt hx)
 have nhx := rep_len hx
 clear hx
 have p1 := len_tot x
 refine c_seq ?_
 refine c_reg ?_
 refine sp (.slice none 0 0) ?_
 refine c_nil (t_n ?_)
 refine c_seq ?_
 refine c_reg ?_
 refine sp (.slice ax x.length cx) ?_
 refine sw (o_len Try.underlying22 ax x.length cx rfl ?_)
 refine sw (o_make1 H Try.underlying22 ti2 rfl x.length rfl rfl (by omega) (by omega) fun b1 w2 H => ?_)
 replace H : St _ _ [.box b1 (List.replicate x.length (.int .i64 0)) 2] _ := H
 refine sp (.slice (some ⟨b1, 0, none⟩) x.length x.length) ?_
 refine c_nil (t_n ?_)
 refine c_seq ?_
 refine c_seq ?_
 refine c_reg ?_
 refine sp (.int .i64 0) ?_
 refine c_nil (t_n ?_)
 refine c_block ?_
 refine c_loop (fun m' ρ w3 => ∃ (junk : Env) (k : Nat), ρ = upd (upd (upd (upd junk 0 (.slice ax x.length cx)) 2 (.slice none 0 0)) 3 (.slice (some ⟨b1, 0, none⟩) x.length x.length)) 4 (.int .i64 k) ∧ (k ≤ x.length) ∧ m' = x.length - k ∧ St w w3 [.box b1 ((x.take k).map (Value.int .i64) ++ List.replicate (x.length - (k)) (.int .i64 0)) 2] [isF false Fx (.slice ax x.length cx) x]) (x.length - 0) ⟨_, 0, (by exact upd_eq (upd_eq (upd_eq (upd_eq (rfl) rfl) rfl) rfl) rfl), (by omega), rfl, H⟩ ?_
 clear H
 rintro m' ρ w4 ⟨junk, k, rfl, i0, rfl, H⟩
 refine c_seq ?_
 refine c_seq ?_
 refine c_reg ?_
 refine sp (.int .i64 k) ?_
 refine sp (.slice ax x.length cx) ?_
 refine sw (o_len Try.underlying22 ax x.length cx rfl ?_)
 refine sp (.bool (decide ((k : Int) < x.length))) ?_
 refine c_nil (t_n ?_)
 refine c_cond (decide ((k : Int) < x.length)) rfl (fun h5 => ?_) (fun h5 => ?_)
 ·skip
  replace h5 := of_decide_eq_true h5
  refine c_skip (t_n ?_)
  refine c_seq ?_
  refine c_block ?_
  refine c_reg ?_
  refine sp (.slice (some ⟨b1, 0, none⟩) x.length x.length) ?_
  refine sp (.int .i64 k) ?_
  refine sp (.slice ax x.length cx) ?_
  refine sp (.int .i64 k) ?_
  obtain ⟨b6, o7, rfl⟩ := H.addr 0 rfl (by omega)
  refine sw (o_idxAt k Try.underlying22 ti2 rfl rfl (by omega) (by omega) ?_)
  refine sw (o_load1 (.int .i64 (x[k]!)) Try.isAgg2 rfl (H.elemInt 0 rfl k (by omega) (by omega)) ?_)
  refine sw (o_idxAt k Try.underlying22 ti2 rfl rfl (by omega) (by omega) ?_)
  refine sw (o_store1 H 0 rfl (.int .i64 (x[k]!)) Try.sizeOf2 rfl rfl rfl (by simp only [List.length_append, List.length_replicate]; have : ((x.take k).map (Value.int .i64)).length = k := (by (simp; omega)); omega) fun w9 H => ?_)
  rw [fill_set (k := k) (by (simp; omega)) (by simp) (by omega)] at H
  replace H : St _ _ [.box b1 ((x.take k).map (Value.int .i64) ++ [.int .i64 (x[k]!)] ++ List.replicate (x.length - (k + 1)) (.int .i64 0)) 2] _ := H
  refine c_nil (b_n (t_n ?_))
  refine c_reg ?_
  refine sp (.int .i64 k) ?_
  refine sw (o_add k 1 rfl rfl (by omega) ?_)
  refine sp (.int .i64 (k + 1)) ?_
  refine c_nil (?_)
  rw [show (x.take k).map (Value.int .i64) ++ [.int .i64 (x[k]!)] = (x.take (k + 1)).map (Value.int .i64) from by exact map_take_snoc _ (by omega)] at H
  refine loop_end (m' := x.length - (k + 1)) (by omega) ⟨_, k + 1, (by exact upd_eq (upd_eq (upd_eq (upd_eq (rfl) rfl) rfl) rfl) rfl), ?_, rfl, H⟩
  · omega
 ·skip
  replace h5 := of_decide_eq_false h5
  refine c_exit (t_x (t_x (b_x (t_n ?_))))
  refine c_seq ?_
  refine c_reg ?_
  refine sp (.slice (some ⟨b1, 0, none⟩) x.length x.length) ?_
  refine sp (.slice (some ⟨b1, 0, none⟩) x.length x.length) ?_
  refine c_nil (t_n ?_)
  refine c_ret (?_)
  refine ret1 (.slice (some ⟨b1, 0, none⟩) x.length x.length) rfl rfl ⟨_, rfl, ?_, H.base⟩
  rw [List.take_of_length_le (by omega : x.length ≤ k)] at H
  rw [fill_end1 (by omega)] at H
  replace H := H.boxRow 0 rfl 1 x.length (by (first | omega | (simp; done) | (simp; omega))) (by unfold maxLen; omega)
  exact H.newInts 0 rfl (by omega)

theorem toBoolS_ok (w : World) (x : List Bool) (ax : Option Addr) (cx : Nat) (Fx : List Nat) (hx : GoRep.rep w Fx [.slice ax x.length cx] x) (p0 : tot x ≤ 2000000) : Calls Try.prog 39 #[.slice ax x.length cx] w (Ret (fun v w' => OwnNew w w' 4 v x) w) := by
 refine enter (n := 22) Try.func39 rfl Try.ntmps39 (Nat.le_of_ble_eq_true rfl) ?_
 have H := St.start w
 replace H := H.add (isF false Fx (.slice ax x.length cx) x) ⟨hx, by simp⟩ (start_lt hx)
 have nhx := rep_len hx
 clear hx
 have p1 := len_tot x
 refine c_seq ?_
 refine c_reg ?_
 refine sp (.slice none 0 0) ?_
 refine c_nil (t_n ?_)
 refine c_seq ?_
 refine c_reg ?_
 refine sp (.slice ax x.length cx) ?_
 refine sw (o_len Try.underlying36 ax x.length cx rfl ?_)
 refine sw (o_make1 H Try.underlying36 ti4 rfl x.length rfl rfl (by omega) (by omega) fun b1 w2 H => ?_)
 replace H : St _ _ [.box b1 (List.replicate x.length (.bool false)) 4] _ := H
 refine sp (.slice (some ⟨b1, 0, none⟩) x.length x.length) ?_
 refine c_nil (t_n ?_)
 refine c_seq ?_
 refine c_seq ?_
 refine c_reg ?_
 refine sp (.int .i64 0) ?_
 refine c_nil (t_n ?_)
 refine c_block ?_
 refine c_loop (fun m' ρ w3 => ∃ (junk : Env) (k : Nat), ρ = upd (upd (upd (upd junk 0 (.slice ax x.length cx)) 2 (.slice none 0 0)) 3 (.slice (some ⟨b1, 0, none⟩) x.length x.length)) 4 (.int .i64 k) ∧ (k ≤ x.length) ∧ m' = x.length - k ∧ St w w3 [.box b1 ((x.take k).map (Value.bool) ++ List.replicate (x.length - (k)) (.bool false)) 4] [isF false Fx (.slice ax x.length cx) x]) (x.length - 0) ⟨_, 0, (by exact upd_eq (upd_eq (upd_eq (upd_eq (rfl) rfl) rfl) rfl) rfl), (by omega), rfl, H⟩ ?_
 clear H
 rintro m' ρ w4 ⟨junk, k, rfl, i0, rfl, H⟩
 refine c_seq ?_
 refine c_seq ?_
 refine c_reg ?_
 refine sp (.int .i64 k) ?_
 refine sp (.slice ax x.length cx) ?_
 refine sw (o_len Try.underlying36 ax x.length cx rfl ?_)
 refine sp (.bool (decide ((k : Int) < x.length))) ?_
 refine c_nil (t_n ?_)
 refine c_cond (decide ((k : Int) < x.length)) rfl (fun h5 => ?_) (fun h5 => ?_)
 ·skip
  replace h5 := of_decide_eq_true h5
  refine c_skip (t_n ?_)
  refine c_seq ?_
  refine c_block ?_
  refine c_reg ?_
  refine sp (.slice (some ⟨b1, 0, none⟩) x.length x.length) ?_
  refine sp (.int .i64 k) ?_
  refine sp (.slice ax x.length cx) ?_
  refine sp (.int .i64 k) ?_
  obtain ⟨b6, o7, rfl⟩ := H.addr 0 rfl (by omega)
  refine sw (o_idxAt k Try.underlying36 ti4 rfl rfl (by omega) (by omega) ?_)
  refine sw (o_load1 (.bool (x[k]!)) Try.isAgg4 rfl (H.elemBool 0 rfl k (by omega) (by omega)) ?_)
  refine sw (o_idxAt k Try.underlying36 ti4 rfl rfl (by omega) (by omega) ?_)
  refine sw (o_store1 H 0 rfl (.bool (x[k]!)) Try.sizeOf4 rfl rfl rfl (by simp only [List.length_append, List.length_replicate]; have : ((x.take k).map (Value.bool)).length = k := (by (simp; omega)); omega) fun w9 H => ?_)
  rw [fill_set (k := k) (by (simp; omega)) (by simp) (by omega)] at H
  replace H : St _ _ [.box b1 ((x.take k).map (Value.bool) ++ [.bool (x[k]!)] ++ List.replicate (x.length - (k + 1)) (.bool false)) 4] _ := H
  refine c_nil (b_n (t_n ?_))
  refine c_reg ?_
  refine sp (.int .i64 k) ?_
  refine sw (o_add k 1 rfl rfl (by omega) ?_)
  refine sp (.int .i64 (k + 1)) ?_
  refine c_nil (?_)
  rw [show (x.take k).map (Value.bool) ++ [.bool (x[k]!)] = (x.take (k + 1)).map (Value.bool) from by exact map_take_snoc _ (by omega)] at H
  refine loop_end (m' := x.length - (k + 1)) (by omega) ⟨_, k + 1, (by exact upd_eq (upd_eq (upd_eq (upd_eq (rfl) rfl) rfl) rfl) rfl), ?_, rfl, H⟩
  · omega
 ·skip
  replace h5 := of_decide_eq_false h5
  refine c_exit (t_x (t_x (b_x (t_n ?_))))
  refine c_seq ?_
  refine c_reg ?_
  refine sp (.slice (some ⟨b1, 0, none⟩) x.length x.length) ?_
  refine sp (.slice (some ⟨b1, 0, none⟩) x.length x.length) ?_
  refine c_nil (t_n ?_)
  refine c_ret (?_)
  refine ret1 (.slice (some ⟨b1, 0, none⟩) x.length x.length) rfl rfl ⟨_, rfl, ?_, H.base⟩
  rw [List.take_of_length_le (by omega : x.length ≤ k)] at H
  rw [fill_end1 (by omega)] at H
  replace H := H.boxRow 0 rfl 1 x.length (by (first | omega | (simp; done) | (simp; omega))) (by unfold maxLen; omega)
  exact H.newBools 0 rfl (by omega)

theorem toInt64SS_ok (w : World) (x : List (List Int)) (ax : Option Addr) (cx : Nat) (Fx : List Nat) (hx : GoRep.rep w Fx [.slice ax x.length cx] x) (p0 : tot x ≤ 2000000) : Calls Try.prog 40 #[.slice ax x.length cx] w (Ret (fun v w' => OwnNew w w' 22 v x) w) := by
 refine enter (n := 23) Try.func40 rfl Try.ntmps40 (Nat.le_of_ble_eq_true rfl) ?_
 have H := St.start w
 replace H := H.add (isF false Fx (.slice ax x.length cx) x) ⟨hx, by simp⟩ (start_lt hx)
 have nhx := rep_len hx
 clear hx
 have p1 := len_tot x
 refine c_seq ?_
 refine c_reg ?_
 refine sp (.slice none 0 0) ?_
 refine c_nil (t_n ?_)
 refine c_seq ?_
 refine c_reg ?_
 refine sp (.slice ax x.length cx) ?_
 refine sw (o_len Try.underlying37 ax x.length cx rfl ?_)
 refine sw (o_make1 H Try.underlying37 ti22 rfl x.length rfl rfl (by omega) (by omega) fun b1 w2 H => ?_)
 replace H : St _ _ [.box b1 (List.replicate x.length (.slice none 0 0)) 22] _ := H
 refine sp (.slice (some ⟨b1, 0, none⟩) x.length x.length) ?_
 refine c_nil (t_n ?_)
 refine c_seq ?_
 refine c_seq ?_
 refine c_reg ?_
 refine sp (.int .i64 0) ?_
 refine c_nil (t_n ?_)
 refine c_block ?_
 replace H := H.repsNil (α := List Int)
 refine c_loop (fun m' ρ w3 => ∃ (junk : Env) (k : Nat) (xs3 : List Value) (Fr3 : List Nat), ρ = upd (upd (upd (upd junk 0 (.slice ax x.length cx)) 2 (.slice none 0 0)) 3 (.slice (some ⟨b1, 0, none⟩) x.length x.length)) 4 (.int .i64 k) ∧ (k ≤ x.length) ∧ (xs3.length = k * 1) ∧ (∀ b ∈ Fr3, w.heap.size ≤ b) ∧ (Fr3.Nodup) ∧ m' = x.length - k ∧ St w w3 [.box b1 (xs3 ++ List.replicate (x.length - (k)) (.slice none 0 0)) 22] [repsF true Fr3 xs3 (x.take k), isF false Fx (.slice ax x.length cx) x]) (x.length - 0) ⟨_, 0, [], [], (by exact upd_eq (upd_eq (upd_eq (upd_eq (rfl) rfl) rfl) rfl) rfl), (by omega), (by rfl), (by simp), (by simp), rfl, H⟩ ?_
 clear H
 rintro m' ρ w4 ⟨junk, k, xs3, Fr3, rfl, i0, hl3, nf3, nd3, rfl, H⟩
 have p2 := fun h => tot_get (l := x) (k := k) h
 refine c_seq ?_
 refine c_seq ?_
 refine c_reg ?_
 refine sp (.int .i64 k) ?_
 refine sp (.slice ax x.length cx) ?_
 refine sw (o_len Try.underlying37 ax x.length cx rfl ?_)
 refine sp (.bool (decide ((k : Int) < x.length))) ?_
 refine c_nil (t_n ?_)
 refine c_cond (decide ((k : Int) < x.length)) rfl (fun h5 => ?_) (fun h5 => ?_)
 ·skip
  replace h5 := of_decide_eq_true h5
  refine c_skip (t_n ?_)
  refine c_seq ?_
  refine c_block ?_
  refine c_reg ?_
  refine sp (.slice (some ⟨b1, 0, none⟩) x.length x.length) ?_
  refine sp (.int .i64 k) ?_
  refine sp (.slice ax x.length cx) ?_
  refine sp (.int .i64 k) ?_
  obtain ⟨b6, o7, rfl⟩ := H.addr 1 rfl (by omega)
  obtain ⟨ae8, ce8, Fe8, H⟩ := H.elemList 1 rfl k k (by omega) (by omega) (by omega)
  refine sw (o_idxAt k Try.underlying37 ti22 rfl rfl (by omega) (by omega) ?_)
  refine sw (o_load1 (.slice ae8 ((x[k]!).length) ce8) Try.isAgg22 rfl (H.cellF 1 rfl 0 rfl) ?_)
  have szx10 := H.base.size
  have lt11 := H.repsLt 2 rfl
  refine sw (o_call #[.slice ae8 ((x[k]!).length) ce8] rfl rfl Try.call9 (toInt64S_ok w4 (x[k]!) ae8 ce8 Fe8 (H.get 0 rfl).1 (by first | omega | (have := p2 (by omega); omega))) ?_)
  rintro v12 w9 r12 x10
  obtain ⟨a12, c12, F12, rfl, f12, H⟩ := H.add_is x10 r12.isNew
  have d12 := f12.2
  have q12 := f12.1
  replace f12 : ∀ b ∈ F12, w.heap.size ≤ b := fun b hb => Nat.le_trans szx10 (f12.1 b hb)
  refine sw (o_idxAt k Try.underlying37 ti22 rfl rfl (by omega) (by omega) ?_)
  refine sw (o_store1 H 0 rfl (.slice a12 ((x[k]!).length) c12) Try.sizeOf22 rfl rfl rfl (by simp only [List.length_append, List.length_replicate]; have : (xs3).length = k := (by (omega)); omega) fun w14 H => ?_)
  rw [fill_set (k := k) (by (omega)) (by simp) (by omega)] at H
  replace H : St _ _ [.box b1 (xs3 ++ [.slice a12 ((x[k]!).length) c12] ++ List.replicate (x.length - (k + 1)) (.slice none 0 0)) 22] _ := H
  refine c_nil (b_n (t_n ?_))
  refine c_reg ?_
  refine sp (.int .i64 k) ?_
  refine sw (o_add k 1 rfl rfl (by omega) ?_)
  refine sp (.int .i64 (k + 1)) ?_
  refine c_nil (?_)
  replace H := H.repsSnoc 3 rfl 0 rfl
  rw [show (x.take k) ++ [(x[k]!)] = x.take (k + 1) from by exact take_snoc (by omega)] at H
  refine loop_end (m' := x.length - (k + 1)) (by omega) ⟨_, k + 1, (xs3 ++ [.slice a12 ((x[k]!).length) c12]), (Fr3 ++ F12), (by exact upd_eq (upd_eq (upd_eq (upd_eq (rfl) rfl) rfl) rfl) rfl), ?_, ?_, ?_, ?_, rfl, H.sel _ (.refl _) _ (by simp)⟩
  · omega
  · first | (simp only [List.length_append, List.length_cons, List.length_nil]; omega) | (simp [hl3]; done) | (simp; omega)
  · exact fresh_snoc nf3 f12
  · exact nodup_snoc nd3 d12 lt11 q12
 ·skip
  replace h5 := of_decide_eq_false h5
  refine c_exit (t_x (t_x (b_x (t_n ?_))))
  refine c_seq ?_
  refine c_reg ?_
  refine sp (.slice (some ⟨b1, 0, none⟩) x.length x.length) ?_
  refine sp (.slice (some ⟨b1, 0, none⟩) x.length x.length) ?_
  refine c_nil (t_n ?_)
  refine c_ret (?_)
  refine ret1 (.slice (some ⟨b1, 0, none⟩) x.length x.length) rfl rfl ⟨_, rfl, ?_, H.base⟩
  rw [List.take_of_length_le (by omega : x.length ≤ k)] at H
  rw [fill_end1 (by omega)] at H
  replace H := H.boxRow 0 rfl 1 x.length (by omega) (by unfold maxLen; omega)
  exact H.newRow 0 rfl 0 rfl (by omega) (by assumption) (by assumption)

theorem toInto_ok (w : World) (x : IntoD) (axBag : Option Addr) (cxBag : Nat) (FxBag : List Nat) (hxBag : GoRep.rep w FxBag [.slice axBag x.fBag.length cxBag] x.fBag) (p0 : tot x ≤ 2000000) : Calls Try.prog 118 #[.agg #[.int .i64 x.fCell, .slice axBag x.fBag.length cxBag]] w (Ret (fun v w' => New_IntoD w w' v x) w) := by
 refine enter (n := 12) Try.func118 rfl Try.ntmps118 (Nat.le_of_ble_eq_true rfl) ?_
 have H := St.start w
 replace H := H.add (isF false FxBag (.slice axBag x.fBag.length cxBag) x.fBag) ⟨hxBag, by simp⟩ (start_lt hxBag)
 have nhxBag := rep_len hxBag
 clear hxBag
 have p1 := tot_IntoD x
 refine c_seq ?_
 refine c_reg ?_
 refine sw (o_box H (.agg #[.int .i64 x.fCell, .slice axBag x.fBag.length cxBag]) rfl fun b1 w2 H => ?_)
 replace H : St _ _ [.box b1 [.int .i64 x.fCell, .slice axBag x.fBag.length cxBag] 129] _ := H
 refine sw (o_alloc H ti108 fun b3 w4 H => ?_)
 replace H : St _ _ [.box b3 [.int .i64 0, .slice none 0 0] 108, .box b1 [.int .i64 x.fCell, .slice axBag x.fBag.length cxBag] 129] _ := H
 refine c_nil (t_n ?_)
 refine c_seq ?_
 refine c_reg ?_
 refine sw (o_alloc H ti108 fun b5 w6 H => ?_)
 replace H : St _ _ [.box b5 [.int .i64 0, .slice none 0 0] 108, .box b3 [.int .i64 0, .slice none 0 0] 108, .box b1 [.int .i64 x.fCell, .slice axBag x.fBag.length cxBag] 129] _ := H
 refine c_nil (t_n ?_)
 refine c_seq ?_
 refine c_reg ?_
 refine sw (o_field b1 (0) 0 Try.underlying129 rfl rfl Try.sizeOf2 rfl ?_)
 refine sw (o_load1 (.int .i64 x.fCell) Try.isAgg2 rfl (H.cell 2 rfl rfl) ?_)
 refine sw (o_field b5 (0) 0 Try.underlying108 rfl rfl Try.sizeOf2 rfl ?_)
 refine sw (o_store1 H 0 rfl (.int .i64 x.fCell) Try.sizeOf2 rfl rfl rfl (Nat.le_of_ble_eq_true rfl) fun w7 H => ?_)
 replace H : St _ _ [.box b5 [.int .i64 x.fCell, .slice none 0 0] 108, .box b3 [.int .i64 0, .slice none 0 0] 108, .box b1 [.int .i64 x.fCell, .slice axBag x.fBag.length cxBag] 129] _ := H
 refine c_nil (t_n ?_)
 refine c_seq ?_
 refine c_reg ?_
 refine sw (o_field b1 (0) 1 Try.underlying129 rfl rfl Try.sizeOf22 rfl ?_)
 refine sw (o_load1 (.slice axBag x.fBag.length cxBag) Try.isAgg22 rfl (H.cell 2 rfl rfl) ?_)
 have szx9 := H.base.size
 refine sw (o_call #[.slice axBag x.fBag.length cxBag] rfl rfl Try.call9 (toInt64S_ok w7 x.fBag axBag cxBag FxBag (H.get 0 rfl).1 (by first | omega | (have := p2 (by omega); omega))) ?_)
 rintro v10 w8 r10 x9
 obtain ⟨a10, c10, F10, rfl, f10, H⟩ := H.add_is x9 r10.isNew
 have d10 := f10.2
 have q10 := f10.1
 replace f10 : ∀ b ∈ F10, w.heap.size ≤ b := fun b hb => Nat.le_trans szx9 (f10.1 b hb)
 refine sw (o_field b5 (0) 1 Try.underlying108 rfl rfl Try.sizeOf22 rfl ?_)
 refine sw (o_store1 H 0 rfl (.slice a10 x.fBag.length c10) Try.sizeOf22 rfl rfl rfl (Nat.le_of_ble_eq_true rfl) fun w11 H => ?_)
 replace H : St _ _ [.box b5 [.int .i64 x.fCell, .slice a10 x.fBag.length c10] 108, .box b3 [.int .i64 0, .slice none 0 0] 108, .box b1 [.int .i64 x.fCell, .slice axBag x.fBag.length cxBag] 129] _ := H
 refine c_nil (t_n ?_)
 refine c_seq ?_
 refine c_reg ?_
 refine sw (o_loadN [.int .i64 x.fCell, .slice a10 x.fBag.length c10] Try.isAgg108 Try.sizeOf108 rfl (cellsAt_sub (H.cells 0 rfl) 0 2) ?_)
 refine sw (o_store H 1 rfl (.agg #[.int .i64 x.fCell, .slice a10 x.fBag.length c10]) Try.sizeOf108 rfl rfl (by simp [Value.oneCell', Value.cells]) (Nat.le_of_ble_eq_true rfl) fun w12 H => ?_)
 replace H : St _ _ [.box b5 [.int .i64 x.fCell, .slice a10 x.fBag.length c10] 108, .box b3 [.int .i64 x.fCell, .slice a10 x.fBag.length c10] 108, .box b1 [.int .i64 x.fCell, .slice axBag x.fBag.length cxBag] 129] _ := H
 refine c_nil (t_n ?_)
 refine c_ret (?_)
 refine retC H 1 rfl rfl Try.isAgg108 Try.sizeOf108 rfl ⟨_, rfl, ?_, H.base⟩
 exact ⟨_, _, _, rfl, (H.get 0 rfl).1, f10, d10, ((H.get 0 rfl).2 rfl)⟩

theorem toIntoS_ok (w : World) (x : List IntoD) (ax : Option Addr) (cx : Nat) (Fx : List Nat) (hx : GoRep.rep w Fx [.slice ax x.length cx] x) (p0 : tot x ≤ 2000000) : Calls Try.prog 100 #[.slice ax x.length cx] w (Ret (fun v w' => OwnNew w w' 108 v x) w) := by
 refine enter (n := 23) Try.func100 rfl Try.ntmps100 (Nat.le_of_ble_eq_true rfl) ?_
 have H := St.start w
 replace H := H.add (isF false Fx (.slice ax x.length cx) x) ⟨hx, by simp⟩ (start_lt hx)
 have nhx := rep_len hx
 clear hx
 have p1 := len_tot x
 refine c_seq ?_
 refine c_reg ?_
 refine sp (.slice none 0 0) ?_
 refine c_nil (t_n ?_)
 refine c_seq ?_
 refine c_reg ?_
 refine sp (.slice ax x.length cx) ?_
 refine sw (o_len Try.underlying85 ax x.length cx rfl ?_)
 refine sw (o_makeN H Try.underlying90 ti108 rfl (by decide) x.length rfl rfl (by omega) (by omega) fun b1 w2 H => ?_)
 replace H : St _ _ [.box b1 ((List.replicate x.length [.int .i64 0, .slice none 0 0]).flatten) 108] _ := H
 refine sp (.slice (some ⟨b1, 0, none⟩) x.length x.length) ?_
 refine c_nil (t_n ?_)
 refine c_seq ?_
 refine c_seq ?_
 refine c_reg ?_
 refine sp (.int .i64 0) ?_
 refine c_nil (t_n ?_)
 refine c_block ?_
 replace H := H.repsNil (α := IntoD)
 refine c_loop (fun m' ρ w3 => ∃ (junk : Env) (k : Nat) (xs3 : List Value) (Fr3 : List Nat), ρ = upd (upd (upd (upd junk 0 (.slice ax x.length cx)) 2 (.slice none 0 0)) 3 (.slice (some ⟨b1, 0, none⟩) x.length x.length)) 4 (.int .i64 k) ∧ (k ≤ x.length) ∧ (xs3.length = k * 2) ∧ (∀ b ∈ Fr3, w.heap.size ≤ b) ∧ (Fr3.Nodup) ∧ m' = x.length - k ∧ St w w3 [.box b1 (xs3 ++ (List.replicate (x.length - (k)) [.int .i64 0, .slice none 0 0]).flatten) 108] [repsF true Fr3 xs3 (x.take k), isF false Fx (.slice ax x.length cx) x]) (x.length - 0) ⟨_, 0, [], [], (by exact upd_eq (upd_eq (upd_eq (upd_eq (rfl) rfl) rfl) rfl) rfl), (by omega), (by rfl), (by simp), (by simp), rfl, H⟩ ?_
 clear H
 rintro m' ρ w4 ⟨junk, k, xs3, Fr3, rfl, i0, hl3, nf3, nd3, rfl, H⟩
 have p2 := fun h => tot_get (l := x) (k := k) h
 refine c_seq ?_
 refine c_seq ?_
 refine c_reg ?_
 refine sp (.int .i64 k) ?_
 refine sp (.slice ax x.length cx) ?_
 refine sw (o_len Try.underlying85 ax x.length cx rfl ?_)
 refine sp (.bool (decide ((k : Int) < x.length))) ?_
 refine c_nil (t_n ?_)
 refine c_cond (decide ((k : Int) < x.length)) rfl (fun h5 => ?_) (fun h5 => ?_)
 ·skip
  replace h5 := of_decide_eq_true h5
  refine c_skip (t_n ?_)
  refine c_seq ?_
  refine c_block ?_
  refine c_reg ?_
  refine sp (.slice (some ⟨b1, 0, none⟩) x.length x.length) ?_
  refine sp (.int .i64 k) ?_
  refine sp (.slice ax x.length cx) ?_
  refine sp (.int .i64 k) ?_
  obtain ⟨b6, o7, rfl⟩ := H.addr 1 rfl (by omega)
  obtain ⟨ae8Bag, ce8Bag, Fe8Bag, H⟩ := H.elem_IntoD 1 rfl k k (by omega) (by omega) (by omega)
  refine sw (o_idxAt k Try.underlying85 ti129 rfl rfl (by omega) (by omega) ?_)
  refine sw (o_loadN [.int .i64 ((x[k]!).fCell), .slice ae8Bag (((x[k]!).fBag).length) ce8Bag] Try.isAgg129 Try.sizeOf129 rfl (cellsAt_sub (H.get 1 rfl) 0 2) ?_)
  have szx10 := H.base.size
  have lt11 := H.repsLt 2 rfl
  refine sw (o_call #[.agg #[.int .i64 ((x[k]!).fCell), .slice ae8Bag (((x[k]!).fBag).length) ce8Bag]] rfl rfl Try.call118 (toInto_ok w4 (x[k]!) ae8Bag ce8Bag Fe8Bag (H.get 0 rfl).1 (by omega)) ?_)
  rintro v12 w9 r12 x10
  obtain ⟨a12Bag, c12Bag, F12Bag, rfl, f12, H⟩ := H.add_IntoD x10 r12
  have d12 := f12.2
  have q12 := f12.1
  replace f12 : ∀ b ∈ F12Bag, w.heap.size ≤ b := fun b hb => Nat.le_trans szx10 (f12.1 b hb)
  refine sw (o_idxAt k Try.underlying90 ti108 rfl rfl (by omega) (by omega) ?_)
  refine sw (o_store H 0 rfl (.agg #[.int .i64 ((x[k]!).fCell), .slice a12Bag (((x[k]!).fBag).length) c12Bag]) Try.sizeOf108 rfl rfl (by simp [Value.oneCell', Value.cells]) (by have : (xs3).length = k * 2 := (by (exact hl3)); simp [Value.cells]; have := fill_room (n := x.length) (k := k) (s := 2) (by omega); simp at this; omega) fun w14 H => ?_)
  replace H : St _ _ [.box b1 (xs3 ++ [.int .i64 ((x[k]!).fCell), .slice a12Bag (((x[k]!).fBag).length) c12Bag] ++ (List.replicate (x.length - (k + 1)) [.int .i64 0, .slice none 0 0]).flatten) 108] _ := (fill_put (vs := [.int .i64 ((x[k]!).fCell), .slice a12Bag (((x[k]!).fBag).length) c12Bag]) (zs := [.int .i64 0, .slice none 0 0]) (off := 0 + (k : Int).toNat * 2) (xs := xs3) (k := k) (s := 2) (n := x.length) (by (exact hl3)) (by simp) rfl rfl (by omega)) ▸ H
  replace H : St _ _ [.box b1 (xs3 ++ [.int .i64 ((x[k]!).fCell), .slice a12Bag (((x[k]!).fBag).length) c12Bag] ++ (List.replicate (x.length - (k + 1)) [.int .i64 0, .slice none 0 0]).flatten) 108] _ := H
  refine c_nil (b_n (t_n ?_))
  refine c_reg ?_
  refine sp (.int .i64 k) ?_
  refine sw (o_add k 1 rfl rfl (by omega) ?_)
  refine sp (.int .i64 (k + 1)) ?_
  refine c_nil (?_)
  replace H := H.snoc_IntoD 3 rfl ((x[k]!).fCell) 0 rfl
  rw [show (x.take k) ++ [⟨(x[k]!).fCell, (x[k]!).fBag⟩] = x.take (k + 1) from by exact take_snoc (by omega)] at H
  refine loop_end (m' := x.length - (k + 1)) (by omega) ⟨_, k + 1, (xs3 ++ [.int .i64 ((x[k]!).fCell), .slice a12Bag (((x[k]!).fBag).length) c12Bag]), (Fr3 ++ F12Bag), (by exact upd_eq (upd_eq (upd_eq (upd_eq (rfl) rfl) rfl) rfl) rfl), ?_, ?_, ?_, ?_, rfl, H.sel _ (.refl _) _ (by simp)⟩
  · omega
  · first | (simp only [List.length_append, List.length_cons, List.length_nil]; omega) | (simp [hl3]; done) | (simp; omega)
  · exact fresh_snoc nf3 f12
  · exact nodup_snoc nd3 d12 lt11 q12
 ·skip
  replace h5 := of_decide_eq_false h5
  refine c_exit (t_x (t_x (b_x (t_n ?_))))
  refine c_seq ?_
  refine c_reg ?_
  refine sp (.slice (some ⟨b1, 0, none⟩) x.length x.length) ?_
  refine sp (.slice (some ⟨b1, 0, none⟩) x.length x.length) ?_
  refine c_nil (t_n ?_)
  refine c_ret (?_)
  refine ret1 (.slice (some ⟨b1, 0, none⟩) x.length x.length) rfl rfl ⟨_, rfl, ?_, H.base⟩
  rw [List.take_of_length_le (by omega : x.length ≤ k)] at H
  rw [fill_endN (by omega)] at H
  replace H := H.boxRow 0 rfl 2 x.length (by omega) (by unfold maxLen; omega)
  exact H.newRow 0 rfl 0 rfl (by omega) (by assumption) (by assumption)

theorem toRule_ok (w : World) (x : RuleD) (axNeed : Option Addr) (cxNeed : Nat) (FxNeed : List Nat) (axHave : Option Addr) (cxHave : Nat) (FxHave : List Nat) (axLack : Option Addr) (cxLack : Nat) (FxLack : List Nat) (axHere : Option Addr) (cxHere : Nat) (FxHere : List Nat) (axOut : Option Addr) (cxOut : Nat) (FxOut : List Nat) (axInto : Option Addr) (cxInto : Nat) (FxInto : List Nat) (hxNeed : GoRep.rep w FxNeed [.slice axNeed x.fNeed.length cxNeed] x.fNeed) (hxHave : GoRep.rep w FxHave [.slice axHave x.fHave.length cxHave] x.fHave) (hxLack : GoRep.rep w FxLack [.slice axLack x.fLack.length cxLack] x.fLack) (hxHere : GoRep.rep w FxHere [.slice axHere x.fHere.length cxHere] x.fHere) (hxOut : GoRep.rep w FxOut [.slice axOut x.fOut.length cxOut] x.fOut) (hxInto : GoRep.rep w FxInto [.slice axInto x.fInto.length cxInto] x.fInto) (p0 : tot x ≤ 2000000) : Calls Try.prog 69 #[.agg #[.int .i64 x.fCell, .int .i64 x.fRank, .slice axNeed x.fNeed.length cxNeed, .slice axHave x.fHave.length cxHave, .slice axLack x.fLack.length cxLack, .slice axHere x.fHere.length cxHere, .slice axOut x.fOut.length cxOut, .slice axInto x.fInto.length cxInto, .bool x.fMelts]] w (Ret (fun v w' => New_RuleD w w' v x) w) := by
 refine enter (n := 38) Try.func69 rfl Try.ntmps69 (Nat.le_of_ble_eq_true rfl) ?_
 have H := St.start w
 replace H := H.add (isF false FxInto (.slice axInto x.fInto.length cxInto) x.fInto) ⟨hxInto, by simp⟩ (start_lt hxInto)
 replace H := H.add (isF false FxOut (.slice axOut x.fOut.length cxOut) x.fOut) ⟨hxOut, by simp⟩ (start_lt hxOut)
 replace H := H.add (isF false FxHere (.slice axHere x.fHere.length cxHere) x.fHere) ⟨hxHere, by simp⟩ (start_lt hxHere)
 replace H := H.add (isF false FxLack (.slice axLack x.fLack.length cxLack) x.fLack) ⟨hxLack, by simp⟩ (start_lt hxLack)
 replace H := H.add (isF false FxHave (.slice axHave x.fHave.length cxHave) x.fHave) ⟨hxHave, by simp⟩ (start_lt hxHave)
 replace H := H.add (isF false FxNeed (.slice axNeed x.fNeed.length cxNeed) x.fNeed) ⟨hxNeed, by simp⟩ (start_lt hxNeed)
 have nhxNeed := rep_len hxNeed
 have nhxHave := rep_len hxHave
 have nhxLack := rep_len hxLack
 have nhxHere := rep_len hxHere
 have nhxOut := rep_len hxOut
 have nhxInto := rep_len hxInto
 clear hxNeed hxHave hxLack hxHere hxOut hxInto
 have p1 := tot_RuleD x
 refine c_seq ?_
 refine c_reg ?_
 refine sw (o_box H (.agg #[.int .i64 x.fCell, .int .i64 x.fRank, .slice axNeed x.fNeed.length cxNeed, .slice axHave x.fHave.length cxHave, .slice axLack x.fLack.length cxLack, .slice axHere x.fHere.length cxHere, .slice axOut x.fOut.length cxOut, .slice axInto x.fInto.length cxInto, .bool x.fMelts]) rfl fun b1 w2 H => ?_)
 replace H : St _ _ [.box b1 [.int .i64 x.fCell, .int .i64 x.fRank, .slice axNeed x.fNeed.length cxNeed, .slice axHave x.fHave.length cxHave, .slice axLack x.fLack.length cxLack, .slice axHere x.fHere.length cxHere, .slice axOut x.fOut.length cxOut, .slice axInto x.fInto.length cxInto, .bool x.fMelts] 87] _ := H
 refine sw (o_alloc H ti92 fun b3 w4 H => ?_)
 replace H : St _ _ [.box b3 [.int .i64 0, .int .i64 0, .slice none 0 0, .slice none 0 0, .slice none 0 0, .slice none 0 0, .slice none 0 0, .slice none 0 0, .bool false] 92, .box b1 [.int .i64 x.fCell, .int .i64 x.fRank, .slice axNeed x.fNeed.length cxNeed, .slice axHave x.fHave.length cxHave, .slice axLack x.fLack.length cxLack, .slice axHere x.fHere.length cxHere, .slice axOut x.fOut.length cxOut, .slice axInto x.fInto.length cxInto, .bool x.fMelts] 87] _ := H
 refine c_nil (t_n ?_)
 refine c_seq ?_
 refine c_reg ?_
 refine sw (o_alloc H ti92 fun b5 w6 H => ?_)
 replace H : St _ _ [.box b5 [.int .i64 0, .int .i64 0, .slice none 0 0, .slice none 0 0, .slice none 0 0, .slice none 0 0, .slice none 0 0, .slice none 0 0, .bool false] 92, .box b3 [.int .i64 0, .int .i64 0, .slice none 0 0, .slice none 0 0, .slice none 0 0, .slice none 0 0, .slice none 0 0, .slice none 0 0, .bool false] 92, .box b1 [.int .i64 x.fCell, .int .i64 x.fRank, .slice axNeed x.fNeed.length cxNeed, .slice axHave x.fHave.length cxHave, .slice axLack x.fLack.length cxLack, .slice axHere x.fHere.length cxHere, .slice axOut x.fOut.length cxOut, .slice axInto x.fInto.length cxInto, .bool x.fMelts] 87] _ := H
 refine c_nil (t_n ?_)
 refine c_seq ?_
 refine c_reg ?_
 refine sw (o_field b1 (0) 0 Try.underlying87 rfl rfl Try.sizeOf2 rfl ?_)
 refine sw (o_load1 (.int .i64 x.fCell) Try.isAgg2 rfl (H.cell 2 rfl rfl) ?_)
 refine sw (o_field b5 (0) 0 Try.underlying92 rfl rfl Try.sizeOf2 rfl ?_)
 refine sw (o_store1 H 0 rfl (.int .i64 x.fCell) Try.sizeOf2 rfl rfl rfl (Nat.le_of_ble_eq_true rfl) fun w7 H => ?_)
 replace H : St _ _ [.box b5 [.int .i64 x.fCell, .int .i64 0, .slice none 0 0, .slice none 0 0, .slice none 0 0, .slice none 0 0, .slice none 0 0, .slice none 0 0, .bool false] 92, .box b3 [.int .i64 0, .int .i64 0, .slice none 0 0, .slice none 0 0, .slice none 0 0, .slice none 0 0, .slice none 0 0, .slice none 0 0, .bool false] 92, .box b1 [.int .i64 x.fCell, .int .i64 x.fRank, .slice axNeed x.fNeed.length cxNeed, .slice axHave x.fHave.length cxHave, .slice axLack x.fLack.length cxLack, .slice axHere x.fHere.length cxHere, .slice axOut x.fOut.length cxOut, .slice axInto x.fInto.length cxInto, .bool x.fMelts] 87] _ := H
 refine c_nil (t_n ?_)
 refine c_seq ?_
 refine c_reg ?_
 refine sw (o_field b1 (0) 1 Try.underlying87 rfl rfl Try.sizeOf2 rfl ?_)
 refine sw (o_load1 (.int .i64 x.fRank) Try.isAgg2 rfl (H.cell 2 rfl rfl) ?_)
 refine sw (o_field b5 (0) 1 Try.underlying92 rfl rfl Try.sizeOf2 rfl ?_)
 refine sw (o_store1 H 0 rfl (.int .i64 x.fRank) Try.sizeOf2 rfl rfl rfl (Nat.le_of_ble_eq_true rfl) fun w8 H => ?_)
 replace H : St _ _ [.box b5 [.int .i64 x.fCell, .int .i64 x.fRank, .slice none 0 0, .slice none 0 0, .slice none 0 0, .slice none 0 0, .slice none 0 0, .slice none 0 0, .bool false] 92, .box b3 [.int .i64 0, .int .i64 0, .slice none 0 0, .slice none 0 0, .slice none 0 0, .slice none 0 0, .slice none 0 0, .slice none 0 0, .bool false] 92, .box b1 [.int .i64 x.fCell, .int .i64 x.fRank, .slice axNeed x.fNeed.length cxNeed, .slice axHave x.fHave.length cxHave, .slice axLack x.fLack.length cxLack, .slice axHere x.fHere.length cxHere, .slice axOut x.fOut.length cxOut, .slice axInto x.fInto.length cxInto, .bool x.fMelts] 87] _ := H
 refine c_nil (t_n ?_)
 refine c_seq ?_
 refine c_reg ?_
 refine sw (o_field b1 (0) 2 Try.underlying87 rfl rfl Try.sizeOf22 rfl ?_)
 refine sw (o_load1 (.slice axNeed x.fNeed.length cxNeed) Try.isAgg22 rfl (H.cell 2 rfl rfl) ?_)
 have szx10 := H.base.size
 refine sw (o_call #[.slice axNeed x.fNeed.length cxNeed] rfl rfl Try.call9 (toInt64S_ok w8 x.fNeed axNeed cxNeed FxNeed (H.get 0 rfl).1 (by first | omega | (have := p2 (by omega); omega))) ?_)
 rintro v11 w9 r11 x10
 obtain ⟨a11, c11, F11, rfl, f11, H⟩ := H.add_is x10 r11.isNew
 have d11 := f11.2
 have q11 := f11.1
 replace f11 : ∀ b ∈ F11, w.heap.size ≤ b := fun b hb => Nat.le_trans szx10 (f11.1 b hb)
 refine sw (o_field b5 (0) 2 Try.underlying92 rfl rfl Try.sizeOf22 rfl ?_)
 refine sw (o_store1 H 0 rfl (.slice a11 x.fNeed.length c11) Try.sizeOf22 rfl rfl rfl (Nat.le_of_ble_eq_true rfl) fun w12 H => ?_)
 replace H : St _ _ [.box b5 [.int .i64 x.fCell, .int .i64 x.fRank, .slice a11 x.fNeed.length c11, .slice none 0 0, .slice none 0 0, .slice none 0 0, .slice none 0 0, .slice none 0 0, .bool false] 92, .box b3 [.int .i64 0, .int .i64 0, .slice none 0 0, .slice none 0 0, .slice none 0 0, .slice none 0 0, .slice none 0 0, .slice none 0 0, .bool false] 92, .box b1 [.int .i64 x.fCell, .int .i64 x.fRank, .slice axNeed x.fNeed.length cxNeed, .slice axHave x.fHave.length cxHave, .slice axLack x.fLack.length cxLack, .slice axHere x.fHere.length cxHere, .slice axOut x.fOut.length cxOut, .slice axInto x.fInto.length cxInto, .bool x.fMelts] 87] _ := H
 refine c_nil (t_n ?_)
 refine c_seq ?_
 refine c_reg ?_
 refine sw (o_field b1 (0) 3 Try.underlying87 rfl rfl Try.sizeOf22 rfl ?_)
 refine sw (o_load1 (.slice axHave x.fHave.length cxHave) Try.isAgg22 rfl (H.cell 2 rfl rfl) ?_)
 have szx14 := H.base.size
 have lt15 := H.isLt 0 rfl
 refine sw (o_call #[.slice axHave x.fHave.length cxHave] rfl rfl Try.call9 (toInt64S_ok w12 x.fHave axHave cxHave FxHave (H.get 2 rfl).1 (by first | omega | (have := p2 (by omega); omega))) ?_)
 rintro v16 w13 r16 x14
 obtain ⟨a16, c16, F16, rfl, f16, H⟩ := H.add_is x14 r16.isNew
 have d16 := f16.2
 have q16 := f16.1
 replace f16 : ∀ b ∈ F16, w.heap.size ≤ b := fun b hb => Nat.le_trans szx14 (f16.1 b hb)
 refine sw (o_field b5 (0) 3 Try.underlying92 rfl rfl Try.sizeOf22 rfl ?_)
 refine sw (o_store1 H 0 rfl (.slice a16 x.fHave.length c16) Try.sizeOf22 rfl rfl rfl (Nat.le_of_ble_eq_true rfl) fun w17 H => ?_)
 replace H : St _ _ [.box b5 [.int .i64 x.fCell, .int .i64 x.fRank, .slice a11 x.fNeed.length c11, .slice a16 x.fHave.length c16, .slice none 0 0, .slice none 0 0, .slice none 0 0, .slice none 0 0, .bool false] 92, .box b3 [.int .i64 0, .int .i64 0, .slice none 0 0, .slice none 0 0, .slice none 0 0, .slice none 0 0, .slice none 0 0, .slice none 0 0, .bool false] 92, .box b1 [.int .i64 x.fCell, .int .i64 x.fRank, .slice axNeed x.fNeed.length cxNeed, .slice axHave x.fHave.length cxHave, .slice axLack x.fLack.length cxLack, .slice axHere x.fHere.length cxHere, .slice axOut x.fOut.length cxOut, .slice axInto x.fInto.length cxInto, .bool x.fMelts] 87] _ := H
 refine c_nil (t_n ?_)
 refine c_seq ?_
 refine c_reg ?_
 refine sw (o_field b1 (0) 4 Try.underlying87 rfl rfl Try.sizeOf22 rfl ?_)
 refine sw (o_load1 (.slice axLack x.fLack.length cxLack) Try.isAgg22 rfl (H.cell 2 rfl rfl) ?_)
 have szx19 := H.base.size
 have lt20 := H.isLt 0 rfl
 have lt21 := H.isLt 1 rfl
 refine sw (o_call #[.slice axLack x.fLack.length cxLack] rfl rfl Try.call9 (toInt64S_ok w17 x.fLack axLack cxLack FxLack (H.get 4 rfl).1 (by first | omega | (have := p2 (by omega); omega))) ?_)
 rintro v22 w18 r22 x19
 obtain ⟨a22, c22, F22, rfl, f22, H⟩ := H.add_is x19 r22.isNew
 have d22 := f22.2
 have q22 := f22.1
 replace f22 : ∀ b ∈ F22, w.heap.size ≤ b := fun b hb => Nat.le_trans szx19 (f22.1 b hb)
 refine sw (o_field b5 (0) 4 Try.underlying92 rfl rfl Try.sizeOf22 rfl ?_)
 refine sw (o_store1 H 0 rfl (.slice a22 x.fLack.length c22) Try.sizeOf22 rfl rfl rfl (Nat.le_of_ble_eq_true rfl) fun w23 H => ?_)
 replace H : St _ _ [.box b5 [.int .i64 x.fCell, .int .i64 x.fRank, .slice a11 x.fNeed.length c11, .slice a16 x.fHave.length c16, .slice a22 x.fLack.length c22, .slice none 0 0, .slice none 0 0, .slice none 0 0, .bool false] 92, .box b3 [.int .i64 0, .int .i64 0, .slice none 0 0, .slice none 0 0, .slice none 0 0, .slice none 0 0, .slice none 0 0, .slice none 0 0, .bool false] 92, .box b1 [.int .i64 x.fCell, .int .i64 x.fRank, .slice axNeed x.fNeed.length cxNeed, .slice axHave x.fHave.length cxHave, .slice axLack x.fLack.length cxLack, .slice axHere x.fHere.length cxHere, .slice axOut x.fOut.length cxOut, .slice axInto x.fInto.length cxInto, .bool x.fMelts] 87] _ := H
 refine c_nil (t_n ?_)
 refine c_seq ?_
 refine c_reg ?_
 refine sw (o_field b1 (0) 5 Try.underlying87 rfl rfl Try.sizeOf22 rfl ?_)
 refine sw (o_load1 (.slice axHere x.fHere.length cxHere) Try.isAgg22 rfl (H.cell 2 rfl rfl) ?_)
 have szx25 := H.base.size
 have lt26 := H.isLt 0 rfl
 have lt27 := H.isLt 1 rfl
 have lt28 := H.isLt 2 rfl
 refine sw (o_call #[.slice axHere x.fHere.length cxHere] rfl rfl Try.call9 (toInt64S_ok w23 x.fHere axHere cxHere FxHere (H.get 6 rfl).1 (by first | omega | (have := p2 (by omega); omega))) ?_)
 rintro v29 w24 r29 x25
 obtain ⟨a29, c29, F29, rfl, f29, H⟩ := H.add_is x25 r29.isNew
 have d29 := f29.2
 have q29 := f29.1
 replace f29 : ∀ b ∈ F29, w.heap.size ≤ b := fun b hb => Nat.le_trans szx25 (f29.1 b hb)
 refine sw (o_field b5 (0) 5 Try.underlying92 rfl rfl Try.sizeOf22 rfl ?_)
 refine sw (o_store1 H 0 rfl (.slice a29 x.fHere.length c29) Try.sizeOf22 rfl rfl rfl (Nat.le_of_ble_eq_true rfl) fun w30 H => ?_)
 replace H : St _ _ [.box b5 [.int .i64 x.fCell, .int .i64 x.fRank, .slice a11 x.fNeed.length c11, .slice a16 x.fHave.length c16, .slice a22 x.fLack.length c22, .slice a29 x.fHere.length c29, .slice none 0 0, .slice none 0 0, .bool false] 92, .box b3 [.int .i64 0, .int .i64 0, .slice none 0 0, .slice none 0 0, .slice none 0 0, .slice none 0 0, .slice none 0 0, .slice none 0 0, .bool false] 92, .box b1 [.int .i64 x.fCell, .int .i64 x.fRank, .slice axNeed x.fNeed.length cxNeed, .slice axHave x.fHave.length cxHave, .slice axLack x.fLack.length cxLack, .slice axHere x.fHere.length cxHere, .slice axOut x.fOut.length cxOut, .slice axInto x.fInto.length cxInto, .bool x.fMelts] 87] _ := H
 refine c_nil (t_n ?_)
 refine c_seq ?_
 refine c_reg ?_
 refine sw (o_field b1 (0) 6 Try.underlying87 rfl rfl Try.sizeOf22 rfl ?_)
 refine sw (o_load1 (.slice axOut x.fOut.length cxOut) Try.isAgg22 rfl (H.cell 2 rfl rfl) ?_)
 have szx32 := H.base.size
 have lt33 := H.isLt 0 rfl
 have lt34 := H.isLt 1 rfl
 have lt35 := H.isLt 2 rfl
 have lt36 := H.isLt 3 rfl
 refine sw (o_call #[.slice axOut x.fOut.length cxOut] rfl rfl Try.call9 (toInt64S_ok w30 x.fOut axOut cxOut FxOut (H.get 8 rfl).1 (by first | omega | (have := p2 (by omega); omega))) ?_)
 rintro v37 w31 r37 x32
 obtain ⟨a37, c37, F37, rfl, f37, H⟩ := H.add_is x32 r37.isNew
 have d37 := f37.2
 have q37 := f37.1
 replace f37 : ∀ b ∈ F37, w.heap.size ≤ b := fun b hb => Nat.le_trans szx32 (f37.1 b hb)
 refine sw (o_field b5 (0) 6 Try.underlying92 rfl rfl Try.sizeOf22 rfl ?_)
 refine sw (o_store1 H 0 rfl (.slice a37 x.fOut.length c37) Try.sizeOf22 rfl rfl rfl (Nat.le_of_ble_eq_true rfl) fun w38 H => ?_)
 replace H : St _ _ [.box b5 [.int .i64 x.fCell, .int .i64 x.fRank, .slice a11 x.fNeed.length c11, .slice a16 x.fHave.length c16, .slice a22 x.fLack.length c22, .slice a29 x.fHere.length c29, .slice a37 x.fOut.length c37, .slice none 0 0, .bool false] 92, .box b3 [.int .i64 0, .int .i64 0, .slice none 0 0, .slice none 0 0, .slice none 0 0, .slice none 0 0, .slice none 0 0, .slice none 0 0, .bool false] 92, .box b1 [.int .i64 x.fCell, .int .i64 x.fRank, .slice axNeed x.fNeed.length cxNeed, .slice axHave x.fHave.length cxHave, .slice axLack x.fLack.length cxLack, .slice axHere x.fHere.length cxHere, .slice axOut x.fOut.length cxOut, .slice axInto x.fInto.length cxInto, .bool x.fMelts] 87] _ := H
 refine c_nil (t_n ?_)
 refine c_seq ?_
 refine c_reg ?_
 refine sw (o_field b1 (0) 7 Try.underlying87 rfl rfl Try.sizeOf85 rfl ?_)
 refine sw (o_load1 (.slice axInto x.fInto.length cxInto) Try.isAgg85 rfl (H.cell 2 rfl rfl) ?_)
 have szx40 := H.base.size
 have lt41 := H.isLt 0 rfl
 have lt42 := H.isLt 1 rfl
 have lt43 := H.isLt 2 rfl
 have lt44 := H.isLt 3 rfl
 have lt45 := H.isLt 4 rfl
 refine sw (o_call #[.slice axInto x.fInto.length cxInto] rfl rfl Try.call100 (toIntoS_ok w38 x.fInto axInto cxInto FxInto (H.get 10 rfl).1 (by first | omega | (have := p2 (by omega); omega))) ?_)
 rintro v46 w39 r46 x40
 obtain ⟨a46, c46, F46, rfl, f46, H⟩ := H.add_is x40 r46.isNew
 have d46 := f46.2
 have q46 := f46.1
 replace f46 : ∀ b ∈ F46, w.heap.size ≤ b := fun b hb => Nat.le_trans szx40 (f46.1 b hb)
 refine sw (o_field b5 (0) 7 Try.underlying92 rfl rfl Try.sizeOf90 rfl ?_)
 refine sw (o_store1 H 0 rfl (.slice a46 x.fInto.length c46) Try.sizeOf90 rfl rfl rfl (Nat.le_of_ble_eq_true rfl) fun w47 H => ?_)
 replace H : St _ _ [.box b5 [.int .i64 x.fCell, .int .i64 x.fRank, .slice a11 x.fNeed.length c11, .slice a16 x.fHave.length c16, .slice a22 x.fLack.length c22, .slice a29 x.fHere.length c29, .slice a37 x.fOut.length c37, .slice a46 x.fInto.length c46, .bool false] 92, .box b3 [.int .i64 0, .int .i64 0, .slice none 0 0, .slice none 0 0, .slice none 0 0, .slice none 0 0, .slice none 0 0, .slice none 0 0, .bool false] 92, .box b1 [.int .i64 x.fCell, .int .i64 x.fRank, .slice axNeed x.fNeed.length cxNeed, .slice axHave x.fHave.length cxHave, .slice axLack x.fLack.length cxLack, .slice axHere x.fHere.length cxHere, .slice axOut x.fOut.length cxOut, .slice axInto x.fInto.length cxInto, .bool x.fMelts] 87] _ := H
 refine c_nil (t_n ?_)
 refine c_seq ?_
 refine c_reg ?_
 refine sw (o_field b1 (0) 8 Try.underlying87 rfl rfl Try.sizeOf4 rfl ?_)
 refine sw (o_load1 (.bool x.fMelts) Try.isAgg4 rfl (H.cell 2 rfl rfl) ?_)
 refine sw (o_field b5 (0) 8 Try.underlying92 rfl rfl Try.sizeOf4 rfl ?_)
 refine sw (o_store1 H 0 rfl (.bool x.fMelts) Try.sizeOf4 rfl rfl rfl (Nat.le_of_ble_eq_true rfl) fun w48 H => ?_)
 replace H : St _ _ [.box b5 [.int .i64 x.fCell, .int .i64 x.fRank, .slice a11 x.fNeed.length c11, .slice a16 x.fHave.length c16, .slice a22 x.fLack.length c22, .slice a29 x.fHere.length c29, .slice a37 x.fOut.length c37, .slice a46 x.fInto.length c46, .bool x.fMelts] 92, .box b3 [.int .i64 0, .int .i64 0, .slice none 0 0, .slice none 0 0, .slice none 0 0, .slice none 0 0, .slice none 0 0, .slice none 0 0, .bool false] 92, .box b1 [.int .i64 x.fCell, .int .i64 x.fRank, .slice axNeed x.fNeed.length cxNeed, .slice axHave x.fHave.length cxHave, .slice axLack x.fLack.length cxLack, .slice axHere x.fHere.length cxHere, .slice axOut x.fOut.length cxOut, .slice axInto x.fInto.length cxInto, .bool x.fMelts] 87] _ := H
 refine c_nil (t_n ?_)
 refine c_seq ?_
 refine c_reg ?_
 refine sw (o_loadN [.int .i64 x.fCell, .int .i64 x.fRank, .slice a11 x.fNeed.length c11, .slice a16 x.fHave.length c16, .slice a22 x.fLack.length c22, .slice a29 x.fHere.length c29, .slice a37 x.fOut.length c37, .slice a46 x.fInto.length c46, .bool x.fMelts] Try.isAgg92 Try.sizeOf92 rfl (cellsAt_sub (H.cells 0 rfl) 0 9) ?_)
 refine sw (o_store H 1 rfl (.agg #[.int .i64 x.fCell, .int .i64 x.fRank, .slice a11 x.fNeed.length c11, .slice a16 x.fHave.length c16, .slice a22 x.fLack.length c22, .slice a29 x.fHere.length c29, .slice a37 x.fOut.length c37, .slice a46 x.fInto.length c46, .bool x.fMelts]) Try.sizeOf92 rfl rfl (by simp [Value.oneCell', Value.cells]) (Nat.le_of_ble_eq_true rfl) fun w49 H => ?_)
 replace H : St _ _ [.box b5 [.int .i64 x.fCell, .int .i64 x.fRank, .slice a11 x.fNeed.length c11, .slice a16 x.fHave.length c16, .slice a22 x.fLack.length c22, .slice a29 x.fHere.length c29, .slice a37 x.fOut.length c37, .slice a46 x.fInto.length c46, .bool x.fMelts] 92, .box b3 [.int .i64 x.fCell, .int .i64 x.fRank, .slice a11 x.fNeed.length c11, .slice a16 x.fHave.length c16, .slice a22 x.fLack.length c22, .slice a29 x.fHere.length c29, .slice a37 x.fOut.length c37, .slice a46 x.fInto.length c46, .bool x.fMelts] 92, .box b1 [.int .i64 x.fCell, .int .i64 x.fRank, .slice axNeed x.fNeed.length cxNeed, .slice axHave x.fHave.length cxHave, .slice axLack x.fLack.length cxLack, .slice axHere x.fHere.length cxHere, .slice axOut x.fOut.length cxOut, .slice axInto x.fInto.length cxInto, .bool x.fMelts] 87] _ := H
 refine c_nil (t_n ?_)
 refine c_ret (?_)
 refine retC H 1 rfl rfl Try.isAgg92 Try.sizeOf92 rfl ⟨_, rfl, ?_, H.base⟩
 exact ⟨_, _, _, _, _, _, _, _, _, _, _, _, _, _, _, _, _, _, rfl, (H.get 5 rfl).1, (H.get 4 rfl).1, (H.get 3 rfl).1, (H.get 2 rfl).1, (H.get 1 rfl).1, (H.get 0 rfl).1, (fresh_snoc (fresh_snoc (fresh_snoc (fresh_snoc (fresh_snoc f11 f16) f22) f29) f37) f46), (nodup_snoc (nodup_snoc (nodup_snoc (nodup_snoc (nodup_snoc d11 d16 lt15 q16) d22 (all_app lt21 lt20) q22) d29 (all_app (all_app lt28 lt27) lt26) q29) d37 (all_app (all_app (all_app lt36 lt35) lt34) lt33) q37) d46 (all_app (all_app (all_app (all_app lt45 lt44) lt43) lt42) lt41) q46), (((((((H.get 5 rfl).2 rfl).app ((H.get 4 rfl).2 rfl)).app ((H.get 3 rfl).2 rfl)).app ((H.get 2 rfl).2 rfl)).app ((H.get 1 rfl).2 rfl)).app ((H.get 0 rfl).2 rfl))⟩

theorem toRuleS_ok (w : World) (x : List RuleD) (ax : Option Addr) (cx : Nat) (Fx : List Nat) (hx : GoRep.rep w Fx [.slice ax x.length cx] x) (p0 : tot x ≤ 2000000) : Calls Try.prog 26 #[.slice ax x.length cx] w (Ret (fun v w' => OwnNew w w' 92 v x) w) := by
 refine enter (n := 23) Try.func26 rfl Try.ntmps26 (Nat.le_of_ble_eq_true rfl) ?_
 have H := St.start w
 replace H := H.add (isF false Fx (.slice ax x.length cx) x) ⟨hx, by simp⟩ (start_lt hx)
 have nhx := rep_len hx
 clear hx
 have p1 := len_tot x
 refine c_seq ?_
 refine c_reg ?_
 refine sp (.slice none 0 0) ?_
 refine c_nil (t_n ?_)
 refine c_seq ?_
 refine c_reg ?_
 refine sp (.slice ax x.length cx) ?_
 refine sw (o_len Try.underlying23 ax x.length cx rfl ?_)
 refine sw (o_makeN H Try.underlying28 ti92 rfl (by decide) x.length rfl rfl (by omega) (by omega) fun b1 w2 H => ?_)
 replace H : St _ _ [.box b1 ((List.replicate x.length [.int .i64 0, .int .i64 0, .slice none 0 0, .slice none 0 0, .slice none 0 0, .slice none 0 0, .slice none 0 0, .slice none 0 0, .bool false]).flatten) 92] _ := H
 refine sp (.slice (some ⟨b1, 0, none⟩) x.length x.length) ?_
 refine c_nil (t_n ?_)
 refine c_seq ?_
 refine c_seq ?_
 refine c_reg ?_
 refine sp (.int .i64 0) ?_
 refine c_nil (t_n ?_)
 refine c_block ?_
 replace H := H.repsNil (α := RuleD)
 refine c_loop (fun m' ρ w3 => ∃ (junk : Env) (k : Nat) (xs3 : List Value) (Fr3 : List Nat), ρ = upd (upd (upd (upd junk 0 (.slice ax x.length cx)) 2 (.slice none 0 0)) 3 (.slice (some ⟨b1, 0, none⟩) x.length x.length)) 4 (.int .i64 k) ∧ (k ≤ x.length) ∧ (xs3.length = k * 9) ∧ (∀ b ∈ Fr3, w.heap.size ≤ b) ∧ (Fr3.Nodup) ∧ m' = x.length - k ∧ St w w3 [.box b1 (xs3 ++ (List.replicate (x.length - (k)) [.int .i64 0, .int .i64 0, .slice none 0 0, .slice none 0 0, .slice none 0 0, .slice none 0 0, .slice none 0 0, .slice none 0 0, .bool false]).flatten) 92] [repsF true Fr3 xs3 (x.take k), isF false Fx (.slice ax x.length cx) x]) (x.length - 0) ⟨_, 0, [], [], (by exact upd_eq (upd_eq (upd_eq (upd_eq (rfl) rfl) rfl) rfl) rfl), (by omega), (by rfl), (by simp), (by simp), rfl, H⟩ ?_
 clear H
 rintro m' ρ w4 ⟨junk, k, xs3, Fr3, rfl, i0, hl3, nf3, nd3, rfl, H⟩
 have p2 := fun h => tot_get (l := x) (k := k) h
 refine c_seq ?_
 refine c_seq ?_
 refine c_reg ?_
 refine sp (.int .i64 k) ?_
 refine sp (.slice ax x.length cx) ?_
 refine sw (o_len Try.underlying23 ax x.length cx rfl ?_)
 refine sp (.bool (decide ((k : Int) < x.length))) ?_
 refine c_nil (t_n ?_)
 refine c_cond (decide ((k : Int) < x.length)) rfl (fun h5 => ?_) (fun h5 => ?_)
 ·skip
  replace h5 := of_decide_eq_true h5
  refine c_skip (t_n ?_)
  refine c_seq ?_
  refine c_block ?_
  refine c_reg ?_
  refine sp (.slice (some ⟨b1, 0, none⟩) x.length x.length) ?_
  refine sp (.int .i64 k) ?_
  refine sp (.slice ax x.length cx) ?_
  refine sp (.int .i64 k) ?_
  obtain ⟨b6, o7, rfl⟩ := H.addr 1 rfl (by omega)
  obtain ⟨ae8Need, ce8Need, Fe8Need, ae8Have, ce8Have, Fe8Have, ae8Lack, ce8Lack, Fe8Lack, ae8Here, ce8Here, Fe8Here, ae8Out, ce8Out, Fe8Out, ae8Into, ce8Into, Fe8Into, H⟩ := H.elem_RuleD 1 rfl k k (by omega) (by omega) (by omega)
  refine sw (o_idxAt k Try.underlying23 ti87 rfl rfl (by omega) (by omega) ?_)
  refine sw (o_loadN [.int .i64 ((x[k]!).fCell), .int .i64 ((x[k]!).fRank), .slice ae8Need (((x[k]!).fNeed).length) ce8Need, .slice ae8Have (((x[k]!).fHave).length) ce8Have, .slice ae8Lack (((x[k]!).fLack).length) ce8Lack, .slice ae8Here (((x[k]!).fHere).length) ce8Here, .slice ae8Out (((x[k]!).fOut).length) ce8Out, .slice ae8Into (((x[k]!).fInto).length) ce8Into, .bool ((x[k]!).fMelts)] Try.isAgg87 Try.sizeOf87 rfl (cellsAt_sub (H.get 6 rfl) 0 9) ?_)
  have szx10 := H.base.size
  have lt11 := H.repsLt 7 rfl
  refine sw (o_call #[.agg #[.int .i64 ((x[k]!).fCell), .int .i64 ((x[k]!).fRank), .slice ae8Need (((x[k]!).fNeed).length) ce8Need, .slice ae8Have (((x[k]!).fHave).length) ce8Have, .slice ae8Lack (((x[k]!).fLack).length) ce8Lack, .slice ae8Here (((x[k]!).fHere).length) ce8Here, .slice ae8Out (((x[k]!).fOut).length) ce8Out, .slice ae8Into (((x[k]!).fInto).length) ce8Into, .bool ((x[k]!).fMelts)]] rfl rfl Try.call69 (toRule_ok w4 (x[k]!) ae8Need ce8Need Fe8Need ae8Have ce8Have Fe8Have ae8Lack ce8Lack Fe8Lack ae8Here ce8Here Fe8Here ae8Out ce8Out Fe8Out ae8Into ce8Into Fe8Into (H.get 0 rfl).1 (H.get 1 rfl).1 (H.get 2 rfl).1 (H.get 3 rfl).1 (H.get 4 rfl).1 (H.get 5 rfl).1 (by omega)) ?_)
  rintro v12 w9 r12 x10
  obtain ⟨a12Need, c12Need, F12Need, a12Have, c12Have, F12Have, a12Lack, c12Lack, F12Lack, a12Here, c12Here, F12Here, a12Out, c12Out, F12Out, a12Into, c12Into, F12Into, rfl, f12, H⟩ := H.add_RuleD x10 r12
  have d12 := f12.2
  have q12 := f12.1
  replace f12 : ∀ b ∈ (F12Need ++ F12Have ++ F12Lack ++ F12Here ++ F12Out ++ F12Into), w.heap.size ≤ b := fun b hb => Nat.le_trans szx10 (f12.1 b hb)
  refine sw (o_idxAt k Try.underlying28 ti92 rfl rfl (by omega) (by omega) ?_)
  refine sw (o_store H 0 rfl (.agg #[.int .i64 ((x[k]!).fCell), .int .i64 ((x[k]!).fRank), .slice a12Need (((x[k]!).fNeed).length) c12Need, .slice a12Have (((x[k]!).fHave).length) c12Have, .slice a12Lack (((x[k]!).fLack).length) c12Lack, .slice a12Here (((x[k]!).fHere).length) c12Here, .slice a12Out (((x[k]!).fOut).length) c12Out, .slice a12Into (((x[k]!).fInto).length) c12Into, .bool ((x[k]!).fMelts)]) Try.sizeOf92 rfl rfl (by simp [Value.oneCell', Value.cells]) (by have : (xs3).length = k * 9 := (by (exact hl3)); simp [Value.cells]; have := fill_room (n := x.length) (k := k) (s := 9) (by omega); simp at this; omega) fun w14 H => ?_)
  replace H : St _ _ [.box b1 (xs3 ++ [.int .i64 ((x[k]!).fCell), .int .i64 ((x[k]!).fRank), .slice a12Need (((x[k]!).fNeed).length) c12Need, .slice a12Have (((x[k]!).fHave).length) c12Have, .slice a12Lack (((x[k]!).fLack).length) c12Lack, .slice a12Here (((x[k]!).fHere).length) c12Here, .slice a12Out (((x[k]!).fOut).length) c12Out, .slice a12Into (((x[k]!).fInto).length) c12Into, .bool ((x[k]!).fMelts)] ++ (List.replicate (x.length - (k + 1)) [.int .i64 0, .int .i64 0, .slice none 0 0, .slice none 0 0, .slice none 0 0, .slice none 0 0, .slice none 0 0, .slice none 0 0, .bool false]).flatten) 92] _ := (fill_put (vs := [.int .i64 ((x[k]!).fCell), .int .i64 ((x[k]!).fRank), .slice a12Need (((x[k]!).fNeed).length) c12Need, .slice a12Have (((x[k]!).fHave).length) c12Have, .slice a12Lack (((x[k]!).fLack).length) c12Lack, .slice a12Here (((x[k]!).fHere).length) c12Here, .slice a12Out (((x[k]!).fOut).length) c12Out, .slice a12Into (((x[k]!).fInto).length) c12Into, .bool ((x[k]!).fMelts)]) (zs := [.int .i64 0, .int .i64 0, .slice none 0 0, .slice none 0 0, .slice none 0 0, .slice none 0 0, .slice none 0 0, .slice none 0 0, .bool false]) (off := 0 + (k : Int).toNat * 9) (xs := xs3) (k := k) (s := 9) (n := x.length) (by (exact hl3)) (by simp) rfl rfl (by omega)) ▸ H
  replace H : St _ _ [.box b1 (xs3 ++ [.int .i64 ((x[k]!).fCell), .int .i64 ((x[k]!).fRank), .slice a12Need (((x[k]!).fNeed).length) c12Need, .slice a12Have (((x[k]!).fHave).length) c12Have, .slice a12Lack (((x[k]!).fLack).length) c12Lack, .slice a12Here (((x[k]!).fHere).length) c12Here, .slice a12Out (((x[k]!).fOut).length) c12Out, .slice a12Into (((x[k]!).fInto).length) c12Into, .bool ((x[k]!).fMelts)] ++ (List.replicate (x.length - (k + 1)) [.int .i64 0, .int .i64 0, .slice none 0 0, .slice none 0 0, .slice none 0 0, .slice none 0 0, .slice none 0 0, .slice none 0 0, .bool false]).flatten) 92] _ := H
  refine c_nil (b_n (t_n ?_))
  refine c_reg ?_
  refine sp (.int .i64 k) ?_
  refine sw (o_add k 1 rfl rfl (by omega) ?_)
  refine sp (.int .i64 (k + 1)) ?_
  refine c_nil (?_)
  replace H := H.snoc_RuleD 13 rfl ((x[k]!).fCell) ((x[k]!).fRank) 0 rfl 1 rfl 2 rfl 3 rfl 4 rfl 5 rfl ((x[k]!).fMelts)
  rw [show (x.take k) ++ [⟨(x[k]!).fCell, (x[k]!).fRank, (x[k]!).fNeed, (x[k]!).fHave, (x[k]!).fLack, (x[k]!).fHere, (x[k]!).fOut, (x[k]!).fInto, (x[k]!).fMelts⟩] = x.take (k + 1) from by exact take_snoc (by omega)] at H
  refine loop_end (m' := x.length - (k + 1)) (by omega) ⟨_, k + 1, (xs3 ++ [.int .i64 ((x[k]!).fCell), .int .i64 ((x[k]!).fRank), .slice a12Need (((x[k]!).fNeed).length) c12Need, .slice a12Have (((x[k]!).fHave).length) c12Have, .slice a12Lack (((x[k]!).fLack).length) c12Lack, .slice a12Here (((x[k]!).fHere).length) c12Here, .slice a12Out (((x[k]!).fOut).length) c12Out, .slice a12Into (((x[k]!).fInto).length) c12Into, .bool ((x[k]!).fMelts)]), (Fr3 ++ (F12Need ++ F12Have ++ F12Lack ++ F12Here ++ F12Out ++ F12Into)), (by exact upd_eq (upd_eq (upd_eq (upd_eq (rfl) rfl) rfl) rfl) rfl), ?_, ?_, ?_, ?_, rfl, H.sel _ (.refl _) _ (by simp)⟩
  · omega
  · first | (simp only [List.length_append, List.length_cons, List.length_nil]; omega) | (simp [hl3]; done) | (simp; omega)
  · exact fresh_snoc nf3 f12
  · exact nodup_snoc nd3 d12 lt11 q12
 ·skip
  replace h5 := of_decide_eq_false h5
  refine c_exit (t_x (t_x (b_x (t_n ?_))))
  refine c_seq ?_
  refine c_reg ?_
  refine sp (.slice (some ⟨b1, 0, none⟩) x.length x.length) ?_
  refine sp (.slice (some ⟨b1, 0, none⟩) x.length x.length) ?_
  refine c_nil (t_n ?_)
  refine c_ret (?_)
  refine ret1 (.slice (some ⟨b1, 0, none⟩) x.length x.length) rfl rfl ⟨_, rfl, ?_, H.base⟩
  rw [List.take_of_length_le (by omega : x.length ≤ k)] at H
  rw [fill_endN (by omega)] at H
  replace H := H.boxRow 0 rfl 9 x.length (by omega) (by unfold maxLen; omega)
  exact H.newRow 0 rfl 0 rfl (by omega) (by assumption) (by assumption)

theorem toSystem_ok (w : World) (x : SystemD) (axParents : Option Addr) (cxParents : Nat) (FxParents : List Nat) (axRules : Option Addr) (cxRules : Nat) (FxRules : List Nat) (hxParents : GoRep.rep w FxParents [.slice axParents x.fParents.length cxParents] x.fParents) (hxRules : GoRep.rep w FxRules [.slice axRules x.fRules.length cxRules] x.fRules) (p0 : tot x ≤ 2000000) : Calls Try.prog 8 #[.agg #[.int .i64 x.fKinds, .slice axParents x.fParents.length cxParents, .slice axRules x.fRules.length cxRules]] w (Ret (fun v w' => New_SystemD w w' v x) w) := by
 refine enter (n := 16) Try.func8 rfl Try.ntmps8 (Nat.le_of_ble_eq_true rfl) ?_
 have H := St.start w
 replace H := H.add (isF false FxRules (.slice axRules x.fRules.length cxRules) x.fRules) ⟨hxRules, by simp⟩ (start_lt hxRules)
 replace H := H.add (isF false FxParents (.slice axParents x.fParents.length cxParents) x.fParents) ⟨hxParents, by simp⟩ (start_lt hxParents)
 have nhxParents := rep_len hxParents
 have nhxRules := rep_len hxRules
 clear hxParents hxRules
 have p1 := tot_SystemD x
 refine c_seq ?_
 refine c_reg ?_
 refine sw (o_box H (.agg #[.int .i64 x.fKinds, .slice axParents x.fParents.length cxParents, .slice axRules x.fRules.length cxRules]) rfl fun b1 w2 H => ?_)
 replace H : St _ _ [.box b1 [.int .i64 x.fKinds, .slice axParents x.fParents.length cxParents, .slice axRules x.fRules.length cxRules] 25] _ := H
 refine sw (o_alloc H ti30 fun b3 w4 H => ?_)
 replace H : St _ _ [.box b3 [.int .i64 0, .slice none 0 0, .slice none 0 0] 30, .box b1 [.int .i64 x.fKinds, .slice axParents x.fParents.length cxParents, .slice axRules x.fRules.length cxRules] 25] _ := H
 refine c_nil (t_n ?_)
 refine c_seq ?_
 refine c_reg ?_
 refine sw (o_alloc H ti30 fun b5 w6 H => ?_)
 replace H : St _ _ [.box b5 [.int .i64 0, .slice none 0 0, .slice none 0 0] 30, .box b3 [.int .i64 0, .slice none 0 0, .slice none 0 0] 30, .box b1 [.int .i64 x.fKinds, .slice axParents x.fParents.length cxParents, .slice axRules x.fRules.length cxRules] 25] _ := H
 refine c_nil (t_n ?_)
 refine c_seq ?_
 refine c_reg ?_
 refine sw (o_field b1 (0) 0 Try.underlying25 rfl rfl Try.sizeOf2 rfl ?_)
 refine sw (o_load1 (.int .i64 x.fKinds) Try.isAgg2 rfl (H.cell 2 rfl rfl) ?_)
 refine sw (o_field b5 (0) 0 Try.underlying30 rfl rfl Try.sizeOf2 rfl ?_)
 refine sw (o_store1 H 0 rfl (.int .i64 x.fKinds) Try.sizeOf2 rfl rfl rfl (Nat.le_of_ble_eq_true rfl) fun w7 H => ?_)
 replace H : St _ _ [.box b5 [.int .i64 x.fKinds, .slice none 0 0, .slice none 0 0] 30, .box b3 [.int .i64 0, .slice none 0 0, .slice none 0 0] 30, .box b1 [.int .i64 x.fKinds, .slice axParents x.fParents.length cxParents, .slice axRules x.fRules.length cxRules] 25] _ := H
 refine c_nil (t_n ?_)
 refine c_seq ?_
 refine c_reg ?_
 refine sw (o_field b1 (0) 1 Try.underlying25 rfl rfl Try.sizeOf22 rfl ?_)
 refine sw (o_load1 (.slice axParents x.fParents.length cxParents) Try.isAgg22 rfl (H.cell 2 rfl rfl) ?_)
 have szx9 := H.base.size
 refine sw (o_call #[.slice axParents x.fParents.length cxParents] rfl rfl Try.call9 (toInt64S_ok w7 x.fParents axParents cxParents FxParents (H.get 0 rfl).1 (by first | omega | (have := p2 (by omega); omega))) ?_)
 rintro v10 w8 r10 x9
 obtain ⟨a10, c10, F10, rfl, f10, H⟩ := H.add_is x9 r10.isNew
 have d10 := f10.2
 have q10 := f10.1
 replace f10 : ∀ b ∈ F10, w.heap.size ≤ b := fun b hb => Nat.le_trans szx9 (f10.1 b hb)
 refine sw (o_field b5 (0) 1 Try.underlying30 rfl rfl Try.sizeOf22 rfl ?_)
 refine sw (o_store1 H 0 rfl (.slice a10 x.fParents.length c10) Try.sizeOf22 rfl rfl rfl (Nat.le_of_ble_eq_true rfl) fun w11 H => ?_)
 replace H : St _ _ [.box b5 [.int .i64 x.fKinds, .slice a10 x.fParents.length c10, .slice none 0 0] 30, .box b3 [.int .i64 0, .slice none 0 0, .slice none 0 0] 30, .box b1 [.int .i64 x.fKinds, .slice axParents x.fParents.length cxParents, .slice axRules x.fRules.length cxRules] 25] _ := H
 refine c_nil (t_n ?_)
 refine c_seq ?_
 refine c_reg ?_
 refine sw (o_field b1 (0) 2 Try.underlying25 rfl rfl Try.sizeOf23 rfl ?_)
 refine sw (o_load1 (.slice axRules x.fRules.length cxRules) Try.isAgg23 rfl (H.cell 2 rfl rfl) ?_)
 have szx13 := H.base.size
 have lt14 := H.isLt 0 rfl
 refine sw (o_call #[.slice axRules x.fRules.length cxRules] rfl rfl Try.call26 (toRuleS_ok w11 x.fRules axRules cxRules FxRules (H.get 2 rfl).1 (by first | omega | (have := p2 (by omega); omega))) ?_)
 rintro v15 w12 r15 x13
 obtain ⟨a15, c15, F15, rfl, f15, H⟩ := H.add_is x13 r15.isNew
 have d15 := f15.2
 have q15 := f15.1
 replace f15 : ∀ b ∈ F15, w.heap.size ≤ b := fun b hb => Nat.le_trans szx13 (f15.1 b hb)
 refine sw (o_field b5 (0) 2 Try.underlying30 rfl rfl Try.sizeOf28 rfl ?_)
 refine sw (o_store1 H 0 rfl (.slice a15 x.fRules.length c15) Try.sizeOf28 rfl rfl rfl (Nat.le_of_ble_eq_true rfl) fun w16 H => ?_)
 replace H : St _ _ [.box b5 [.int .i64 x.fKinds, .slice a10 x.fParents.length c10, .slice a15 x.fRules.length c15] 30, .box b3 [.int .i64 0, .slice none 0 0, .slice none 0 0] 30, .box b1 [.int .i64 x.fKinds, .slice axParents x.fParents.length cxParents, .slice axRules x.fRules.length cxRules] 25] _ := H
 refine c_nil (t_n ?_)
 refine c_seq ?_
 refine c_reg ?_
 refine sw (o_loadN [.int .i64 x.fKinds, .slice a10 x.fParents.length c10, .slice a15 x.fRules.length c15] Try.isAgg30 Try.sizeOf30 rfl (cellsAt_sub (H.cells 0 rfl) 0 3) ?_)
 refine sw (o_store H 1 rfl (.agg #[.int .i64 x.fKinds, .slice a10 x.fParents.length c10, .slice a15 x.fRules.length c15]) Try.sizeOf30 rfl rfl (by simp [Value.oneCell', Value.cells]) (Nat.le_of_ble_eq_true rfl) fun w17 H => ?_)
 replace H : St _ _ [.box b5 [.int .i64 x.fKinds, .slice a10 x.fParents.length c10, .slice a15 x.fRules.length c15] 30, .box b3 [.int .i64 x.fKinds, .slice a10 x.fParents.length c10, .slice a15 x.fRules.length c15] 30, .box b1 [.int .i64 x.fKinds, .slice axParents x.fParents.length cxParents, .slice axRules x.fRules.length cxRules] 25] _ := H
 refine c_nil (t_n ?_)
 refine c_ret (?_)
 refine retC H 1 rfl rfl Try.isAgg30 Try.sizeOf30 rfl ⟨_, rfl, ?_, H.base⟩
 exact ⟨_, _, _, _, _, _, rfl, (H.get 1 rfl).1, (H.get 0 rfl).1, (fresh_snoc f10 f15), (nodup_snoc d10 d15 lt14 q15), (((H.get 1 rfl).2 rfl).app ((H.get 0 rfl).2 rfl))⟩

theorem toState_ok (w : World) (x : StateD) (axAlive : Option Addr) (cxAlive : Nat) (FxAlive : List Nat) (axBags : Option Addr) (cxBags : Nat) (FxBags : List Nat) (axAround : Option Addr) (cxAround : Nat) (FxAround : List Nat) (hxAlive : GoRep.rep w FxAlive [.slice axAlive x.fAlive.length cxAlive] x.fAlive) (hxBags : GoRep.rep w FxBags [.slice axBags x.fBags.length cxBags] x.fBags) (hxAround : GoRep.rep w FxAround [.slice axAround x.fAround.length cxAround] x.fAround) (p0 : tot x ≤ 2000000) : Calls Try.prog 15 #[.agg #[.slice axAlive x.fAlive.length cxAlive, .slice axBags x.fBags.length cxBags, .slice axAround x.fAround.length cxAround]] w (Ret (fun v w' => New_StateD w w' v x) w) := by
 refine enter (n := 17) Try.func15 rfl Try.ntmps15 (Nat.le_of_ble_eq_true rfl) ?_
 have H := St.start w
 replace H := H.add (isF false FxAround (.slice axAround x.fAround.length cxAround) x.fAround) ⟨hxAround, by simp⟩ (start_lt hxAround)
 replace H := H.add (isF false FxBags (.slice axBags x.fBags.length cxBags) x.fBags) ⟨hxBags, by simp⟩ (start_lt hxBags)
 replace H := H.add (isF false FxAlive (.slice axAlive x.fAlive.length cxAlive) x.fAlive) ⟨hxAlive, by simp⟩ (start_lt hxAlive)
 have nhxAlive := rep_len hxAlive
 have nhxBags := rep_len hxBags
 have nhxAround := rep_len hxAround
 clear hxAlive hxBags hxAround
 have p1 := tot_StateD x
 refine c_seq ?_
 refine c_reg ?_
 refine sw (o_box H (.agg #[.slice axAlive x.fAlive.length cxAlive, .slice axBags x.fBags.length cxBags, .slice axAround x.fAround.length cxAround]) rfl fun b1 w2 H => ?_)
 replace H : St _ _ [.box b1 [.slice axAlive x.fAlive.length cxAlive, .slice axBags x.fBags.length cxBags, .slice axAround x.fAround.length cxAround] 39] _ := H
 refine sw (o_alloc H ti41 fun b3 w4 H => ?_)
 replace H : St _ _ [.box b3 [.slice none 0 0, .slice none 0 0, .slice none 0 0] 41, .box b1 [.slice axAlive x.fAlive.length cxAlive, .slice axBags x.fBags.length cxBags, .slice axAround x.fAround.length cxAround] 39] _ := H
 refine c_nil (t_n ?_)
 refine c_seq ?_
 refine c_reg ?_
 refine sw (o_alloc H ti41 fun b5 w6 H => ?_)
 replace H : St _ _ [.box b5 [.slice none 0 0, .slice none 0 0, .slice none 0 0] 41, .box b3 [.slice none 0 0, .slice none 0 0, .slice none 0 0] 41, .box b1 [.slice axAlive x.fAlive.length cxAlive, .slice axBags x.fBags.length cxBags, .slice axAround x.fAround.length cxAround] 39] _ := H
 refine c_nil (t_n ?_)
 refine c_seq ?_
 refine c_reg ?_
 refine sw (o_field b1 (0) 0 Try.underlying39 rfl rfl Try.sizeOf36 rfl ?_)
 refine sw (o_load1 (.slice axAlive x.fAlive.length cxAlive) Try.isAgg36 rfl (H.cell 2 rfl rfl) ?_)
 have szx8 := H.base.size
 refine sw (o_call #[.slice axAlive x.fAlive.length cxAlive] rfl rfl Try.call39 (toBoolS_ok w6 x.fAlive axAlive cxAlive FxAlive (H.get 0 rfl).1 (by first | omega | (have := p2 (by omega); omega))) ?_)
 rintro v9 w7 r9 x8
 obtain ⟨a9, c9, F9, rfl, f9, H⟩ := H.add_is x8 r9.isNew
 have d9 := f9.2
 have q9 := f9.1
 replace f9 : ∀ b ∈ F9, w.heap.size ≤ b := fun b hb => Nat.le_trans szx8 (f9.1 b hb)
 refine sw (o_field b5 (0) 0 Try.underlying41 rfl rfl Try.sizeOf36 rfl ?_)
 refine sw (o_store1 H 0 rfl (.slice a9 x.fAlive.length c9) Try.sizeOf36 rfl rfl rfl (Nat.le_of_ble_eq_true rfl) fun w10 H => ?_)
 replace H : St _ _ [.box b5 [.slice a9 x.fAlive.length c9, .slice none 0 0, .slice none 0 0] 41, .box b3 [.slice none 0 0, .slice none 0 0, .slice none 0 0] 41, .box b1 [.slice axAlive x.fAlive.length cxAlive, .slice axBags x.fBags.length cxBags, .slice axAround x.fAround.length cxAround] 39] _ := H
 refine c_nil (t_n ?_)
 refine c_seq ?_
 refine c_reg ?_
 refine sw (o_field b1 (0) 1 Try.underlying39 rfl rfl Try.sizeOf37 rfl ?_)
 refine sw (o_load1 (.slice axBags x.fBags.length cxBags) Try.isAgg37 rfl (H.cell 2 rfl rfl) ?_)
 have szx12 := H.base.size
 have lt13 := H.isLt 0 rfl
 refine sw (o_call #[.slice axBags x.fBags.length cxBags] rfl rfl Try.call40 (toInt64SS_ok w10 x.fBags axBags cxBags FxBags (H.get 2 rfl).1 (by first | omega | (have := p2 (by omega); omega))) ?_)
 rintro v14 w11 r14 x12
 obtain ⟨a14, c14, F14, rfl, f14, H⟩ := H.add_is x12 r14.isNew
 have d14 := f14.2
 have q14 := f14.1
 replace f14 : ∀ b ∈ F14, w.heap.size ≤ b := fun b hb => Nat.le_trans szx12 (f14.1 b hb)
 refine sw (o_field b5 (0) 1 Try.underlying41 rfl rfl Try.sizeOf37 rfl ?_)
 refine sw (o_store1 H 0 rfl (.slice a14 x.fBags.length c14) Try.sizeOf37 rfl rfl rfl (Nat.le_of_ble_eq_true rfl) fun w15 H => ?_)
 replace H : St _ _ [.box b5 [.slice a9 x.fAlive.length c9, .slice a14 x.fBags.length c14, .slice none 0 0] 41, .box b3 [.slice none 0 0, .slice none 0 0, .slice none 0 0] 41, .box b1 [.slice axAlive x.fAlive.length cxAlive, .slice axBags x.fBags.length cxBags, .slice axAround x.fAround.length cxAround] 39] _ := H
 refine c_nil (t_n ?_)
 refine c_seq ?_
 refine c_reg ?_
 refine sw (o_field b1 (0) 2 Try.underlying39 rfl rfl Try.sizeOf22 rfl ?_)
 refine sw (o_load1 (.slice axAround x.fAround.length cxAround) Try.isAgg22 rfl (H.cell 2 rfl rfl) ?_)
 have szx17 := H.base.size
 have lt18 := H.isLt 0 rfl
 have lt19 := H.isLt 1 rfl
 refine sw (o_call #[.slice axAround x.fAround.length cxAround] rfl rfl Try.call9 (toInt64S_ok w15 x.fAround axAround cxAround FxAround (H.get 4 rfl).1 (by first | omega | (have := p2 (by omega); omega))) ?_)
 rintro v20 w16 r20 x17
 obtain ⟨a20, c20, F20, rfl, f20, H⟩ := H.add_is x17 r20.isNew
 have d20 := f20.2
 have q20 := f20.1
 replace f20 : ∀ b ∈ F20, w.heap.size ≤ b := fun b hb => Nat.le_trans szx17 (f20.1 b hb)
 refine sw (o_field b5 (0) 2 Try.underlying41 rfl rfl Try.sizeOf22 rfl ?_)
 refine sw (o_store1 H 0 rfl (.slice a20 x.fAround.length c20) Try.sizeOf22 rfl rfl rfl (Nat.le_of_ble_eq_true rfl) fun w21 H => ?_)
 replace H : St _ _ [.box b5 [.slice a9 x.fAlive.length c9, .slice a14 x.fBags.length c14, .slice a20 x.fAround.length c20] 41, .box b3 [.slice none 0 0, .slice none 0 0, .slice none 0 0] 41, .box b1 [.slice axAlive x.fAlive.length cxAlive, .slice axBags x.fBags.length cxBags, .slice axAround x.fAround.length cxAround] 39] _ := H
 refine c_nil (t_n ?_)
 refine c_seq ?_
 refine c_reg ?_
 refine sw (o_loadN [.slice a9 x.fAlive.length c9, .slice a14 x.fBags.length c14, .slice a20 x.fAround.length c20] Try.isAgg41 Try.sizeOf41 rfl (cellsAt_sub (H.cells 0 rfl) 0 3) ?_)
 refine sw (o_store H 1 rfl (.agg #[.slice a9 x.fAlive.length c9, .slice a14 x.fBags.length c14, .slice a20 x.fAround.length c20]) Try.sizeOf41 rfl rfl (by simp [Value.oneCell', Value.cells]) (Nat.le_of_ble_eq_true rfl) fun w22 H => ?_)
 replace H : St _ _ [.box b5 [.slice a9 x.fAlive.length c9, .slice a14 x.fBags.length c14, .slice a20 x.fAround.length c20] 41, .box b3 [.slice a9 x.fAlive.length c9, .slice a14 x.fBags.length c14, .slice a20 x.fAround.length c20] 41, .box b1 [.slice axAlive x.fAlive.length cxAlive, .slice axBags x.fBags.length cxBags, .slice axAround x.fAround.length cxAround] 39] _ := H
 refine c_nil (t_n ?_)
 refine c_ret (?_)
 refine retC H 1 rfl rfl Try.isAgg41 Try.sizeOf41 rfl ⟨_, rfl, ?_, H.base⟩
 exact ⟨_, _, _, _, _, _, _, _, _, rfl, (H.get 2 rfl).1, (H.get 1 rfl).1, (H.get 0 rfl).1, (fresh_snoc (fresh_snoc f9 f14) f20), (nodup_snoc (nodup_snoc d9 d14 lt13 q14) d20 (all_app lt19 lt18) q20), ((((H.get 2 rfl).2 rfl).app ((H.get 1 rfl).2 rfl)).app ((H.get 0 rfl).2 rfl))⟩

theorem eqInt64S_ok (w : World) (x : List Int) (y : List Int) (ax : Option Addr) (cx : Nat) (Fx : List Nat) (ay : Option Addr) (cy : Nat) (Fy : List Nat) (hx : GoRep.rep w Fx [.slice ax x.length cx] x) (hy : GoRep.rep w Fy [.slice ay y.length cy] y) : Calls Try.prog 12 #[.slice ax x.length cx, .slice ay y.length cy] w (Ret (fun v w' => v = .bool (decide (x = y))) w) := by
 refine enter (n := 26) Try.func12 rfl Try.ntmps12 (Nat.le_of_ble_eq_true rfl) ?_
 have H := St.start w
 replace H := H.add (isF false Fy (.slice ay y.length cy) y) ⟨hy, by simp⟩ (start_lt hy)
 replace H := H.add (isF false Fx (.slice ax x.length cx) x) ⟨hx, by simp⟩ (start_lt hx)
 have nhx := rep_len hx
 have nhy := rep_len hy
 clear hx hy
 refine c_seq ?_
 refine c_reg ?_
 refine sp (.bool false) ?_
 refine c_nil (t_n ?_)
 refine c_seq ?_
 refine c_seq ?_
 refine c_reg ?_
 refine sp (.slice ax x.length cx) ?_
 refine sw (o_len Try.underlying22 ax x.length cx rfl ?_)
 refine sp (.slice ay y.length cy) ?_
 refine sw (o_len Try.underlying22 ay y.length cy rfl ?_)
 refine sp (.bool ((x.length : Int) != y.length)) ?_
 refine c_nil (t_n ?_)
 refine c_cond ((x.length : Int) != y.length) rfl (fun h1 => ?_) (fun h1 => ?_)
 ·skip
  replace h1 := bne_iff_ne.1 h1
  refine c_seq ?_
  refine c_reg ?_
  refine sp (.bool false) ?_
  refine c_nil (t_n ?_)
  refine c_ret (t_r (?_))
  refine ret1 (.bool false) rfl rfl ⟨_, rfl, ?_, H.base⟩
  first | rw [decide_eq_false (fun e => by subst e; omega)] | rw [decide_eq_false (ne_of_get (k := k) ‹_›)] | rw [decide_eq_true (eq_of_take (k := k) (by omega) (by omega) ‹_›)]
 ·skip
  replace h1 := eq_of_bne_false h1
  refine c_skip (t_n ?_)
  refine c_seq ?_
  refine c_seq ?_
  refine c_reg ?_
  refine sp (.int .i64 0) ?_
  refine c_nil (t_n ?_)
  refine c_block ?_
  refine c_loop (fun m' ρ w2 => ∃ (junk : Env) (k : Nat), ρ = upd (upd (upd junk 0 (.slice ax x.length cx)) 1 (.slice ay y.length cy)) 5 (.int .i64 k) ∧ (k ≤ x.length) ∧ (x.take k = y.take k) ∧ m' = x.length - k ∧ St w w2 [] [isF false Fx (.slice ax x.length cx) x, isF false Fy (.slice ay y.length cy) y]) (x.length - 0) ⟨_, 0, (by exact upd_eq (upd_eq (upd_eq (rfl) rfl) rfl) rfl), (by omega), (by rfl), rfl, H⟩ ?_
  clear H
  rintro m' ρ w3 ⟨junk, k, rfl, i0, i1, rfl, H⟩
  refine c_seq ?_
  refine c_seq ?_
  refine c_reg ?_
  refine sp (.int .i64 k) ?_
  refine sp (.slice ax x.length cx) ?_
  refine sw (o_len Try.underlying22 ax x.length cx rfl ?_)
  refine sp (.bool (decide ((k : Int) < x.length))) ?_
  refine c_nil (t_n ?_)
  refine c_cond (decide ((k : Int) < x.length)) rfl (fun h4 => ?_) (fun h4 => ?_)
  ·skip
   replace h4 := of_decide_eq_true h4
   refine c_skip (t_n ?_)
   refine c_seq ?_
   refine c_block ?_
   refine c_seq ?_
   refine c_drawH rfl H fun H => ?_
   refine rtp 0 (.slice ax x.length cx) H ?_
   refine rtp 1 (.int .i64 k) H ?_
   obtain ⟨b6, o7, rfl⟩ := H.addr 0 rfl (by omega)
   refine rt 2 (.pointer (some ⟨b6, o7 + (k : Int).toNat * 1, none⟩)) (y_idxAt b6 (o7) x.length cx k Try.underlying22 ti2 rfl rfl (by omega) (by omega)) H ?_
   refine rt 3 (.int .i64 (x[k]!)) (y_load1 Try.isAgg2 rfl (fun _ h => h.elemInt 0 rfl k (by omega) (by omega))) H ?_
   refine rtp 4 (.slice ay y.length cy) H ?_
   refine rtp 5 (.int .i64 k) H ?_
   obtain ⟨b8, o9, rfl⟩ := H.addr 1 rfl (by omega)
   refine rt 6 (.pointer (some ⟨b8, o9 + (k : Int).toNat * 1, none⟩)) (y_idxAt b8 (o9) y.length cy k Try.underlying22 ti2 rfl rfl (by omega) (by omega)) H ?_
   refine rt 7 (.int .i64 (y[k]!)) (y_load1 Try.isAgg2 rfl (fun _ h => h.elemInt 1 rfl k (by omega) (by omega))) H ?_
   refine rtp 8 (.bool ((x[k]! : Int) != (y[k]!))) H ?_
   refine r_done (by kernel_rfl) (t_n ?_)
   refine c_cond ((x[k]! : Int) != (y[k]!)) rfl (fun h10 => ?_) (fun h10 => ?_)
   ·skip
    replace h10 := bne_iff_ne.1 h10
    refine c_seq ?_
    refine c_reg ?_
    refine sp (.bool false) ?_
    refine c_nil (t_n ?_)
    refine c_ret (b_r (t_r (t_r (b_r (t_r (?_))))))
    refine ret1 (.bool false) rfl rfl ⟨_, rfl, ?_, H.base⟩
    first | rw [decide_eq_false (fun e => by subst e; omega)] | rw [decide_eq_false (ne_of_get (k := k) ‹_›)] | rw [decide_eq_true (eq_of_take (k := k) (by omega) (by omega) ‹_›)]
   ·skip
    replace h10 := eq_of_bne_false h10
    refine c_skip (b_n (t_n ?_))
    refine c_reg ?_
    refine sp (.int .i64 k) ?_
    refine sw (o_add k 1 rfl rfl (by omega) ?_)
    refine sp (.int .i64 (k + 1)) ?_
    refine c_nil (?_)
    refine loop_end (m' := x.length - (k + 1)) (by omega) ⟨_, k + 1, (by exact upd_eq (upd_eq (upd_eq (rfl) rfl) rfl) rfl), ?_, ?_, rfl, H⟩
    · omega
    · exact eqTo_succ (by omega) (by omega) ‹_› (by first | assumption | omega)
  ·skip
   replace h4 := of_decide_eq_false h4
   refine c_exit (t_x (t_x (b_x (t_n ?_))))
   refine c_seq ?_
   refine c_reg ?_
   refine sp (.bool true) ?_
   refine c_nil (t_n ?_)
   refine c_ret (?_)
   refine ret1 (.bool true) rfl rfl ⟨_, rfl, ?_, H.base⟩
   first | rw [decide_eq_false (fun e => by subst e; omega)] | rw [decide_eq_false (ne_of_get (k := k) ‹_›)] | rw [decide_eq_true (eq_of_take (k := k) (by omega) (by omega) ‹_›)]

theorem eqBoolS_ok (w : World) (x : List Bool) (y : List Bool) (ax : Option Addr) (cx : Nat) (Fx : List Nat) (ay : Option Addr) (cy : Nat) (Fy : List Nat) (hx : GoRep.rep w Fx [.slice ax x.length cx] x) (hy : GoRep.rep w Fy [.slice ay y.length cy] y) : Calls Try.prog 45 #[.slice ax x.length cx, .slice ay y.length cy] w (Ret (fun v w' => v = .bool (decide (x = y))) w) := by
 refine enter (n := 26) Try.func45 rfl Try.ntmps45 (Nat.le_of_ble_eq_true rfl) ?_
 have H := St.start w
 replace H := H.add (isF false Fy (.slice ay y.length cy) y) ⟨hy, by simp⟩ (start_lt hy)
 replace H := H.add (isF false Fx (.slice ax x.length cx) x) ⟨hx, by simp⟩ (start_lt hx)
 have nhx := rep_len hx
 have nhy := rep_len hy
 clear hx hy
 refine c_seq ?_
 refine c_reg ?_
 refine sp (.bool false) ?_
 refine c_nil (t_n ?_)
 refine c_seq ?_
 refine c_seq ?_
 refine c_reg ?_
 refine sp (.slice ax x.length cx) ?_
 refine sw (o_len Try.underlying36 ax x.length cx rfl ?_)
 refine sp (.slice ay y.length cy) ?_
 refine sw (o_len Try.underlying36 ay y.length cy rfl ?_)
 refine sp (.bool ((x.length : Int) != y.length)) ?_
 refine c_nil (t_n ?_)
 refine c_cond ((x.length : Int) != y.length) rfl (fun h1 => ?_) (fun h1 => ?_)
 ·skip
  replace h1 := bne_iff_ne.1 h1
  refine c_seq ?_
  refine c_reg ?_
  refine sp (.bool false) ?_
  refine c_nil (t_n ?_)
  refine c_ret (t_r (?_))
  refine ret1 (.bool false) rfl rfl ⟨_, rfl, ?_, H.base⟩
  first | rw [decide_eq_false (fun e => by subst e; omega)] | rw [decide_eq_false (ne_of_get (k := k) ‹_›)] | rw [decide_eq_true (eq_of_take (k := k) (by omega) (by omega) ‹_›)]
 ·skip
  replace h1 := eq_of_bne_false h1
  refine c_skip (t_n ?_)
  refine c_seq ?_
  refine c_seq ?_
  refine c_reg ?_
  refine sp (.int .i64 0) ?_
  refine c_nil (t_n ?_)
  refine c_block ?_
  refine c_loop (fun m' ρ w2 => ∃ (junk : Env) (k : Nat), ρ = upd (upd (upd junk 0 (.slice ax x.length cx)) 1 (.slice ay y.length cy)) 5 (.int .i64 k) ∧ (k ≤ x.length) ∧ (x.take k = y.take k) ∧ m' = x.length - k ∧ St w w2 [] [isF false Fx (.slice ax x.length cx) x, isF false Fy (.slice ay y.length cy) y]) (x.length - 0) ⟨_, 0, (by exact upd_eq (upd_eq (upd_eq (rfl) rfl) rfl) rfl), (by omega), (by rfl), rfl, H⟩ ?_
  clear H
  rintro m' ρ w3 ⟨junk, k, rfl, i0, i1, rfl, H⟩
  refine c_seq ?_
  refine c_seq ?_
  refine c_reg ?_
  refine sp (.int .i64 k) ?_
  refine sp (.slice ax x.length cx) ?_
  refine sw (o_len Try.underlying36 ax x.length cx rfl ?_)
  refine sp (.bool (decide ((k : Int) < x.length))) ?_
  refine c_nil (t_n ?_)
  refine c_cond (decide ((k : Int) < x.length)) rfl (fun h4 => ?_) (fun h4 => ?_)
  ·skip
   replace h4 := of_decide_eq_true h4
   refine c_skip (t_n ?_)
   refine c_seq ?_
   refine c_block ?_
   refine c_seq ?_
   refine c_drawH rfl H fun H => ?_
   refine rtp 0 (.slice ax x.length cx) H ?_
   refine rtp 1 (.int .i64 k) H ?_
   obtain ⟨b6, o7, rfl⟩ := H.addr 0 rfl (by omega)
   refine rt 2 (.pointer (some ⟨b6, o7 + (k : Int).toNat * 1, none⟩)) (y_idxAt b6 (o7) x.length cx k Try.underlying36 ti4 rfl rfl (by omega) (by omega)) H ?_
   refine rt 3 (.bool (x[k]!)) (y_load1 Try.isAgg4 rfl (fun _ h => h.elemBool 0 rfl k (by omega) (by omega))) H ?_
   refine rtp 4 (.slice ay y.length cy) H ?_
   refine rtp 5 (.int .i64 k) H ?_
   obtain ⟨b8, o9, rfl⟩ := H.addr 1 rfl (by omega)
   refine rt 6 (.pointer (some ⟨b8, o9 + (k : Int).toNat * 1, none⟩)) (y_idxAt b8 (o9) y.length cy k Try.underlying36 ti4 rfl rfl (by omega) (by omega)) H ?_
   refine rt 7 (.bool (y[k]!)) (y_load1 Try.isAgg4 rfl (fun _ h => h.elemBool 1 rfl k (by omega) (by omega))) H ?_
   refine rt 8 (.bool ((x[k]!) != (y[k]!))) (y_neB Try.underlying4 (x[k]!) (y[k]!) rfl rfl) H ?_
   refine r_done (by kernel_rfl) (t_n ?_)
   refine c_cond ((x[k]!) != (y[k]!)) rfl (fun h10 => ?_) (fun h10 => ?_)
   ·skip
    replace h10 := bne_iff_ne.1 h10
    refine c_seq ?_
    refine c_reg ?_
    refine sp (.bool false) ?_
    refine c_nil (t_n ?_)
    refine c_ret (b_r (t_r (t_r (b_r (t_r (?_))))))
    refine ret1 (.bool false) rfl rfl ⟨_, rfl, ?_, H.base⟩
    first | rw [decide_eq_false (fun e => by subst e; omega)] | rw [decide_eq_false (ne_of_get (k := k) ‹_›)] | rw [decide_eq_true (eq_of_take (k := k) (by omega) (by omega) ‹_›)]
   ·skip
    replace h10 := eq_of_bne_false h10
    refine c_skip (b_n (t_n ?_))
    refine c_reg ?_
    refine sp (.int .i64 k) ?_
    refine sw (o_add k 1 rfl rfl (by omega) ?_)
    refine sp (.int .i64 (k + 1)) ?_
    refine c_nil (?_)
    refine loop_end (m' := x.length - (k + 1)) (by omega) ⟨_, k + 1, (by exact upd_eq (upd_eq (upd_eq (rfl) rfl) rfl) rfl), ?_, ?_, rfl, H⟩
    · omega
    · exact eqTo_succ (by omega) (by omega) ‹_› (by first | assumption | omega)
  ·skip
   replace h4 := of_decide_eq_false h4
   refine c_exit (t_x (t_x (b_x (t_n ?_))))
   refine c_seq ?_
   refine c_reg ?_
   refine sp (.bool true) ?_
   refine c_nil (t_n ?_)
   refine c_ret (?_)
   refine ret1 (.bool true) rfl rfl ⟨_, rfl, ?_, H.base⟩
   first | rw [decide_eq_false (fun e => by subst e; omega)] | rw [decide_eq_false (ne_of_get (k := k) ‹_›)] | rw [decide_eq_true (eq_of_take (k := k) (by omega) (by omega) ‹_›)]

theorem eqInt64SS_ok (w : World) (x : List (List Int)) (y : List (List Int)) (ax : Option Addr) (cx : Nat) (Fx : List Nat) (ay : Option Addr) (cy : Nat) (Fy : List Nat) (hx : GoRep.rep w Fx [.slice ax x.length cx] x) (hy : GoRep.rep w Fy [.slice ay y.length cy] y) : Calls Try.prog 46 #[.slice ax x.length cx, .slice ay y.length cy] w (Ret (fun v w' => v = .bool (decide (x = y))) w) := by
 refine enter (n := 27) Try.func46 rfl Try.ntmps46 (Nat.le_of_ble_eq_true rfl) ?_
 have H := St.start w
 replace H := H.add (isF false Fy (.slice ay y.length cy) y) ⟨hy, by simp⟩ (start_lt hy)
 replace H := H.add (isF false Fx (.slice ax x.length cx) x) ⟨hx, by simp⟩ (start_lt hx)
 have nhx := rep_len hx
 have nhy := rep_len hy
 clear hx hy
 refine c_seq ?_
 refine c_reg ?_
 refine sp (.bool false) ?_
 refine c_nil (t_n ?_)
 refine c_seq ?_
 refine c_seq ?_
 refine c_reg ?_
 refine sp (.slice ax x.length cx) ?_
 refine sw (o_len Try.underlying37 ax x.length cx rfl ?_)
 refine sp (.slice ay y.length cy) ?_
 refine sw (o_len Try.underlying37 ay y.length cy rfl ?_)
 refine sp (.bool ((x.length : Int) != y.length)) ?_
 refine c_nil (t_n ?_)
 refine c_cond ((x.length : Int) != y.length) rfl (fun h1 => ?_) (fun h1 => ?_)
 ·skip
  replace h1 := bne_iff_ne.1 h1
  refine c_seq ?_
  refine c_reg ?_
  refine sp (.bool false) ?_
  refine c_nil (t_n ?_)
  refine c_ret (t_r (?_))
  refine ret1 (.bool false) rfl rfl ⟨_, rfl, ?_, H.base⟩
  first | rw [decide_eq_false (fun e => by subst e; omega)] | rw [decide_eq_false (ne_of_get (k := k) ‹_›)] | rw [decide_eq_true (eq_of_take (k := k) (by omega) (by omega) ‹_›)]
 ·skip
  replace h1 := eq_of_bne_false h1
  refine c_skip (t_n ?_)
  refine c_seq ?_
  refine c_seq ?_
  refine c_reg ?_
  refine sp (.int .i64 0) ?_
  refine c_nil (t_n ?_)
  refine c_block ?_
  refine c_loop (fun m' ρ w2 => ∃ (junk : Env) (k : Nat), ρ = upd (upd (upd junk 0 (.slice ax x.length cx)) 1 (.slice ay y.length cy)) 5 (.int .i64 k) ∧ (k ≤ x.length) ∧ (x.take k = y.take k) ∧ m' = x.length - k ∧ St w w2 [] [isF false Fx (.slice ax x.length cx) x, isF false Fy (.slice ay y.length cy) y]) (x.length - 0) ⟨_, 0, (by exact upd_eq (upd_eq (upd_eq (rfl) rfl) rfl) rfl), (by omega), (by rfl), rfl, H⟩ ?_
  clear H
  rintro m' ρ w3 ⟨junk, k, rfl, i0, i1, rfl, H⟩
  refine c_seq ?_
  refine c_seq ?_
  refine c_reg ?_
  refine sp (.int .i64 k) ?_
  refine sp (.slice ax x.length cx) ?_
  refine sw (o_len Try.underlying37 ax x.length cx rfl ?_)
  refine sp (.bool (decide ((k : Int) < x.length))) ?_
  refine c_nil (t_n ?_)
  refine c_cond (decide ((k : Int) < x.length)) rfl (fun h4 => ?_) (fun h4 => ?_)
  ·skip
   replace h4 := of_decide_eq_true h4
   refine c_skip (t_n ?_)
   refine c_seq ?_
   refine c_block ?_
   refine c_seq ?_
   refine c_drawH rfl H fun H => ?_
   refine rtp 0 (.slice ax x.length cx) H ?_
   refine rtp 1 (.int .i64 k) H ?_
   obtain ⟨b6, o7, rfl⟩ := H.addr 0 rfl (by omega)
   obtain ⟨ae8, ce8, Fe8, H⟩ := H.elemList 0 rfl k k (by omega) (by omega) (by omega)
   refine rt 2 (.pointer (some ⟨b6, o7 + (k : Int).toNat * 1, none⟩)) (y_idxAt b6 (o7) x.length cx k Try.underlying37 ti22 rfl rfl (by omega) (by omega)) (H.sel _ (.refl _) _ (fun _ h => List.mem_cons_of_mem _ (List.mem_cons_of_mem _ (h)))) ?_
   refine rtp 4 (.slice ay y.length cy) (H.sel _ (.refl _) _ (fun _ h => List.mem_cons_of_mem _ (List.mem_cons_of_mem _ (h)))) ?_
   refine rtp 5 (.int .i64 k) (H.sel _ (.refl _) _ (fun _ h => List.mem_cons_of_mem _ (List.mem_cons_of_mem _ (h)))) ?_
   obtain ⟨b9, o10, rfl⟩ := H.addr 3 rfl (by omega)
   obtain ⟨ae11, ce11, Fe11, H⟩ := H.elemList 3 rfl k k (by omega) (by omega) (by omega)
   refine rt 6 (.pointer (some ⟨b9, o10 + (k : Int).toNat * 1, none⟩)) (y_idxAt b9 (o10) y.length cy k Try.underlying37 ti22 rfl rfl (by omega) (by omega)) (H.sel _ (.refl _) _ (fun _ h => List.mem_cons_of_mem _ (List.mem_cons_of_mem _ (List.mem_cons_of_mem _ (List.mem_cons_of_mem _ (h)))))) ?_
   refine r_ops [3, 7] (by kernel_rfl) (by simp) (r_op rfl ?_ (r_op rfl ?_ r_nil))
   ·skip
    refine o_load1 (.slice ae8 ((x[k]!).length) ce8) Try.isAgg22 rfl (H.cellF 3 rfl 0 rfl) ?_
    refine ⟨H.sel _ (.refl _) _ (fun _ h => List.mem_cons_of_mem _ (List.mem_cons_of_mem _ (List.mem_cons_of_mem _ (List.mem_cons_of_mem _ (h))))), ?_⟩
    refine r_ops [7] (by kernel_rfl) (by simp) (r_op rfl ?_ r_nil)
    refine o_load1 (.slice ae11 ((y[k]!).length) ce11) Try.isAgg22 rfl (H.cellF 1 rfl 0 rfl) ?_
    refine ⟨H.sel _ (.refl _) _ (fun _ h => List.mem_cons_of_mem _ (List.mem_cons_of_mem _ (List.mem_cons_of_mem _ (List.mem_cons_of_mem _ (h))))), ?_⟩
    refine r_ops [8] (by kernel_rfl) (by simp) (r_op rfl ?_ r_nil)
    refine o_call #[.slice ae8 ((x[k]!).length) ce8, .slice ae11 ((y[k]!).length) ce11] rfl rfl Try.call12 (eqInt64S_ok w3.drew (x[k]!) (y[k]!) ae8 ce8 Fe8 ae11 ce11 Fe11 (H.get 2 rfl).1 (H.get 0 rfl).1) ?_
    rintro _ w12 rfl x13
    replace H := H.ext x13
    refine ⟨H.sel _ (.refl _) _ (fun _ h => List.mem_cons_of_mem _ (List.mem_cons_of_mem _ (List.mem_cons_of_mem _ (List.mem_cons_of_mem _ (h))))), ?_⟩
    refine rtp 9 (.bool (!(decide ((x[k]!) = (y[k]!))))) (H.sel _ (.refl _) _ (fun _ h => List.mem_cons_of_mem _ (List.mem_cons_of_mem _ (List.mem_cons_of_mem _ (List.mem_cons_of_mem _ (h)))))) ?_
    refine r_done (by kernel_rfl) (t_n ?_)
    refine c_cond (!(decide ((x[k]!) = (y[k]!)))) rfl (fun h14 => ?_) (fun h14 => ?_)
    ·skip
     replace h14 := not_true_of h14
     replace h14 := of_decide_eq_false h14
     refine c_seq ?_
     refine c_reg ?_
     refine sp (.bool false) ?_
     refine c_nil (t_n ?_)
     refine c_ret (b_r (t_r (t_r (b_r (t_r (?_))))))
     refine ret1 (.bool false) rfl rfl ⟨_, rfl, ?_, H.base⟩
     first | rw [decide_eq_false (fun e => by subst e; omega)] | rw [decide_eq_false (ne_of_get (k := k) ‹_›)] | rw [decide_eq_true (eq_of_take (k := k) (by omega) (by omega) ‹_›)]
    ·skip
     replace h14 := not_false_of h14
     replace h14 := of_decide_eq_true h14
     refine c_skip (b_n (t_n ?_))
     refine c_reg ?_
     refine sp (.int .i64 k) ?_
     refine sw (o_add k 1 rfl rfl (by omega) ?_)
     refine sp (.int .i64 (k + 1)) ?_
     refine c_nil (?_)
     refine loop_end (m' := x.length - (k + 1)) (by omega) ⟨_, k + 1, (by exact upd_eq (upd_eq (upd_eq (rfl) rfl) rfl) rfl), ?_, ?_, rfl, H.sel _ (.refl _) _ (by simp)⟩
     · omega
     · exact eqTo_succ (by omega) (by omega) ‹_› (by first | assumption | omega)
   ·skip
    refine o_load1 (.slice ae11 ((y[k]!).length) ce11) Try.isAgg22 rfl (H.cellF 1 rfl 0 rfl) ?_
    refine ⟨H.sel _ (.refl _) _ (fun _ h => List.mem_cons_of_mem _ (List.mem_cons_of_mem _ (List.mem_cons_of_mem _ (List.mem_cons_of_mem _ (h))))), ?_⟩
    refine r_ops [3] (by kernel_rfl) (by simp) (r_op rfl ?_ r_nil)
    refine o_load1 (.slice ae8 ((x[k]!).length) ce8) Try.isAgg22 rfl (H.cellF 3 rfl 0 rfl) ?_
    refine ⟨H.sel _ (.refl _) _ (fun _ h => List.mem_cons_of_mem _ (List.mem_cons_of_mem _ (List.mem_cons_of_mem _ (List.mem_cons_of_mem _ (h))))), ?_⟩
    refine r_ops [8] (by kernel_rfl) (by simp) (r_op rfl ?_ r_nil)
    refine o_call #[.slice ae8 ((x[k]!).length) ce8, .slice ae11 ((y[k]!).length) ce11] rfl rfl Try.call12 (eqInt64S_ok w3.drew (x[k]!) (y[k]!) ae8 ce8 Fe8 ae11 ce11 Fe11 (H.get 2 rfl).1 (H.get 0 rfl).1) ?_
    rintro _ w15 rfl x16
    replace H := H.ext x16
    refine ⟨H.sel _ (.refl _) _ (fun _ h => List.mem_cons_of_mem _ (List.mem_cons_of_mem _ (List.mem_cons_of_mem _ (List.mem_cons_of_mem _ (h))))), ?_⟩
    refine rtp 9 (.bool (!(decide ((x[k]!) = (y[k]!))))) (H.sel _ (.refl _) _ (fun _ h => List.mem_cons_of_mem _ (List.mem_cons_of_mem _ (List.mem_cons_of_mem _ (List.mem_cons_of_mem _ (h)))))) ?_
    refine r_done (by kernel_rfl) (t_n ?_)
    refine c_cond (!(decide ((x[k]!) = (y[k]!)))) rfl (fun h17 => ?_) (fun h17 => ?_)
    ·skip
     replace h17 := not_true_of h17
     replace h17 := of_decide_eq_false h17
     refine c_seq ?_
     refine c_reg ?_
     refine sp (.bool false) ?_
     refine c_nil (t_n ?_)
     refine c_ret (b_r (t_r (t_r (b_r (t_r (?_))))))
     refine ret1 (.bool false) rfl rfl ⟨_, rfl, ?_, H.base⟩
     first | rw [decide_eq_false (fun e => by subst e; omega)] | rw [decide_eq_false (ne_of_get (k := k) ‹_›)] | rw [decide_eq_true (eq_of_take (k := k) (by omega) (by omega) ‹_›)]
    ·skip
     replace h17 := not_false_of h17
     replace h17 := of_decide_eq_true h17
     refine c_skip (b_n (t_n ?_))
     refine c_reg ?_
     refine sp (.int .i64 k) ?_
     refine sw (o_add k 1 rfl rfl (by omega) ?_)
     refine sp (.int .i64 (k + 1)) ?_
     refine c_nil (?_)
     refine loop_end (m' := x.length - (k + 1)) (by omega) ⟨_, k + 1, (by exact upd_eq (upd_eq (upd_eq (rfl) rfl) rfl) rfl), ?_, ?_, rfl, H.sel _ (.refl _) _ (by simp)⟩
     · omega
     · exact eqTo_succ (by omega) (by omega) ‹_› (by first | assumption | omega)
  ·skip
   replace h4 := of_decide_eq_false h4
   refine c_exit (t_x (t_x (b_x (t_n ?_))))
   refine c_seq ?_
   refine c_reg ?_
   refine sp (.bool true) ?_
   refine c_nil (t_n ?_)
   refine c_ret (?_)
   refine ret1 (.bool true) rfl rfl ⟨_, rfl, ?_, H.base⟩
   first | rw [decide_eq_false (fun e => by subst e; omega)] | rw [decide_eq_false (ne_of_get (k := k) ‹_›)] | rw [decide_eq_true (eq_of_take (k := k) (by omega) (by omega) ‹_›)]

theorem eqInto_ok (w : World) (x : IntoD) (y : IntoD) (axBag : Option Addr) (cxBag : Nat) (FxBag : List Nat) (ayBag : Option Addr) (cyBag : Nat) (FyBag : List Nat) (hxBag : GoRep.rep w FxBag [.slice axBag x.fBag.length cxBag] x.fBag) (hyBag : GoRep.rep w FyBag [.slice ayBag y.fBag.length cyBag] y.fBag) : Calls Try.prog 119 #[.agg #[.int .i64 x.fCell, .slice axBag x.fBag.length cxBag], .agg #[.int .i64 y.fCell, .slice ayBag y.fBag.length cyBag]] w (Ret (fun v w' => v = .bool (decide (x = y))) w) := by
 refine enter (n := 16) Try.func119 rfl Try.ntmps119 (Nat.le_of_ble_eq_true rfl) ?_
 have H := St.start w
 replace H := H.add (isF false FyBag (.slice ayBag y.fBag.length cyBag) y.fBag) ⟨hyBag, by simp⟩ (start_lt hyBag)
 replace H := H.add (isF false FxBag (.slice axBag x.fBag.length cxBag) x.fBag) ⟨hxBag, by simp⟩ (start_lt hxBag)
 have nhxBag := rep_len hxBag
 have nhyBag := rep_len hyBag
 clear hxBag hyBag
 refine c_seq ?_
 refine c_reg ?_
 refine sw (o_box H (.agg #[.int .i64 x.fCell, .slice axBag x.fBag.length cxBag]) rfl fun b1 w2 H => ?_)
 replace H : St _ _ [.box b1 [.int .i64 x.fCell, .slice axBag x.fBag.length cxBag] 108] _ := H
 refine sw (o_box H (.agg #[.int .i64 y.fCell, .slice ayBag y.fBag.length cyBag]) rfl fun b3 w4 H => ?_)
 replace H : St _ _ [.box b3 [.int .i64 y.fCell, .slice ayBag y.fBag.length cyBag] 108, .box b1 [.int .i64 x.fCell, .slice axBag x.fBag.length cxBag] 108] _ := H
 refine sp (.bool false) ?_
 refine c_nil (t_n ?_)
 refine c_seq ?_
 refine c_seq ?_
 refine c_reg ?_
 refine sw (o_field b1 (0) 0 Try.underlying108 rfl rfl Try.sizeOf2 rfl ?_)
 refine sw (o_load1 (.int .i64 x.fCell) Try.isAgg2 rfl (H.cell 1 rfl rfl) ?_)
 refine sw (o_field b3 (0) 0 Try.underlying108 rfl rfl Try.sizeOf2 rfl ?_)
 refine sw (o_load1 (.int .i64 y.fCell) Try.isAgg2 rfl (H.cell 0 rfl rfl) ?_)
 refine sp (.bool ((x.fCell : Int) != y.fCell)) ?_
 refine c_nil (t_n ?_)
 refine c_cond ((x.fCell : Int) != y.fCell) rfl (fun h5 => ?_) (fun h5 => ?_)
 ·skip
  replace h5 := bne_iff_ne.1 h5
  refine c_seq ?_
  refine c_reg ?_
  refine sp (.bool false) ?_
  refine c_nil (t_n ?_)
  refine c_ret (t_r (?_))
  refine ret1 (.bool false) rfl rfl ⟨_, rfl, ?_, H.base⟩
  rw [decide_eq_false (fun e => by subst e; simp_all)]
 ·skip
  replace h5 := eq_of_bne_false h5
  refine c_skip (t_n ?_)
  refine c_seq ?_
  refine c_seq ?_
  refine c_reg ?_
  refine sw (o_field b1 (0) 1 Try.underlying108 rfl rfl Try.sizeOf22 rfl ?_)
  refine sw (o_load1 (.slice axBag x.fBag.length cxBag) Try.isAgg22 rfl (H.cell 1 rfl rfl) ?_)
  refine sw (o_field b3 (0) 1 Try.underlying108 rfl rfl Try.sizeOf22 rfl ?_)
  refine sw (o_load1 (.slice ayBag y.fBag.length cyBag) Try.isAgg22 rfl (H.cell 0 rfl rfl) ?_)
  refine sw (o_call #[.slice axBag x.fBag.length cxBag, .slice ayBag y.fBag.length cyBag] rfl rfl Try.call12 (eqInt64S_ok w4 x.fBag y.fBag axBag cxBag FxBag ayBag cyBag FyBag (H.get 0 rfl).1 (H.get 1 rfl).1) ?_)
  rintro _ w6 rfl x7
  replace H := H.ext x7
  refine sp (.bool (!(decide (x.fBag = y.fBag)))) ?_
  refine c_nil (t_n ?_)
  refine c_cond (!(decide (x.fBag = y.fBag))) rfl (fun h8 => ?_) (fun h8 => ?_)
  ·skip
   replace h8 := not_true_of h8
   replace h8 := of_decide_eq_false h8
   refine c_seq ?_
   refine c_reg ?_
   refine sp (.bool false) ?_
   refine c_nil (t_n ?_)
   refine c_ret (t_r (?_))
   refine ret1 (.bool false) rfl rfl ⟨_, rfl, ?_, H.base⟩
   rw [decide_eq_false (fun e => by subst e; simp_all)]
  ·skip
   replace h8 := not_false_of h8
   replace h8 := of_decide_eq_true h8
   refine c_skip (t_n ?_)
   refine c_seq ?_
   refine c_reg ?_
   refine sp (.bool true) ?_
   refine c_nil (t_n ?_)
   refine c_ret (?_)
   refine ret1 (.bool true) rfl rfl ⟨_, rfl, ?_, H.base⟩
   rw [decide_eq_true (by cases x; cases y; simp_all)]

theorem eqIntoS_ok (w : World) (x : List IntoD) (y : List IntoD) (ax : Option Addr) (cx : Nat) (Fx : List Nat) (ay : Option Addr) (cy : Nat) (Fy : List Nat) (hx : GoRep.rep w Fx [.slice ax x.length cx] x) (hy : GoRep.rep w Fy [.slice ay y.length cy] y) : Calls Try.prog 104 #[.slice ax x.length cx, .slice ay y.length cy] w (Ret (fun v w' => v = .bool (decide (x = y))) w) := by
 refine enter (n := 27) Try.func104 rfl Try.ntmps104 (Nat.le_of_ble_eq_true rfl) ?_
 have H := St.start w
 replace H := H.add (isF false Fy (.slice ay y.length cy) y) ⟨hy, by simp⟩ (start_lt hy)
 replace H := H.add (isF false Fx (.slice ax x.length cx) x) ⟨hx, by simp⟩ (start_lt hx)
 have nhx := rep_len hx
 have nhy := rep_len hy
 clear hx hy
 refine c_seq ?_
 refine c_reg ?_
 refine sp (.bool false) ?_
 refine c_nil (t_n ?_)
 refine c_seq ?_
 refine c_seq ?_
 refine c_reg ?_
 refine sp (.slice ax x.length cx) ?_
 refine sw (o_len Try.underlying90 ax x.length cx rfl ?_)
 refine sp (.slice ay y.length cy) ?_
 refine sw (o_len Try.underlying90 ay y.length cy rfl ?_)
 refine sp (.bool ((x.length : Int) != y.length)) ?_
 refine c_nil (t_n ?_)
 refine c_cond ((x.length : Int) != y.length) rfl (fun h1 => ?_) (fun h1 => ?_)
 ·skip
  replace h1 := bne_iff_ne.1 h1
  refine c_seq ?_
  refine c_reg ?_
  refine sp (.bool false) ?_
  refine c_nil (t_n ?_)
  refine c_ret (t_r (?_))
  refine ret1 (.bool false) rfl rfl ⟨_, rfl, ?_, H.base⟩
  first | rw [decide_eq_false (fun e => by subst e; omega)] | rw [decide_eq_false (ne_of_get (k := k) ‹_›)] | rw [decide_eq_true (eq_of_take (k := k) (by omega) (by omega) ‹_›)]
 ·skip
  replace h1 := eq_of_bne_false h1
  refine c_skip (t_n ?_)
  refine c_seq ?_
  refine c_seq ?_
  refine c_reg ?_
  refine sp (.int .i64 0) ?_
  refine c_nil (t_n ?_)
  refine c_block ?_
  refine c_loop (fun m' ρ w2 => ∃ (junk : Env) (k : Nat), ρ = upd (upd (upd junk 0 (.slice ax x.length cx)) 1 (.slice ay y.length cy)) 5 (.int .i64 k) ∧ (k ≤ x.length) ∧ (x.take k = y.take k) ∧ m' = x.length - k ∧ St w w2 [] [isF false Fx (.slice ax x.length cx) x, isF false Fy (.slice ay y.length cy) y]) (x.length - 0) ⟨_, 0, (by exact upd_eq (upd_eq (upd_eq (rfl) rfl) rfl) rfl), (by omega), (by rfl), rfl, H⟩ ?_
  clear H
  rintro m' ρ w3 ⟨junk, k, rfl, i0, i1, rfl, H⟩
  refine c_seq ?_
  refine c_seq ?_
  refine c_reg ?_
  refine sp (.int .i64 k) ?_
  refine sp (.slice ax x.length cx) ?_
  refine sw (o_len Try.underlying90 ax x.length cx rfl ?_)
  refine sp (.bool (decide ((k : Int) < x.length))) ?_
  refine c_nil (t_n ?_)
  refine c_cond (decide ((k : Int) < x.length)) rfl (fun h4 => ?_) (fun h4 => ?_)
  ·skip
   replace h4 := of_decide_eq_true h4
   refine c_skip (t_n ?_)
   refine c_seq ?_
   refine c_block ?_
   refine c_seq ?_
   refine c_drawH rfl H fun H => ?_
   refine rtp 0 (.slice ax x.length cx) H ?_
   refine rtp 1 (.int .i64 k) H ?_
   obtain ⟨b6, o7, rfl⟩ := H.addr 0 rfl (by omega)
   obtain ⟨ae8Bag, ce8Bag, Fe8Bag, H⟩ := H.elem_IntoD 0 rfl k k (by omega) (by omega) (by omega)
   refine rt 2 (.pointer (some ⟨b6, o7 + (k : Int).toNat * 2, none⟩)) (y_idxAt b6 (o7) x.length cx k Try.underlying90 ti108 rfl rfl (by omega) (by omega)) (H.sel _ (.refl _) _ (fun _ h => List.mem_cons_of_mem _ (List.mem_cons_of_mem _ (h)))) ?_
   refine rtp 4 (.slice ay y.length cy) (H.sel _ (.refl _) _ (fun _ h => List.mem_cons_of_mem _ (List.mem_cons_of_mem _ (h)))) ?_
   refine rtp 5 (.int .i64 k) (H.sel _ (.refl _) _ (fun _ h => List.mem_cons_of_mem _ (List.mem_cons_of_mem _ (h)))) ?_
   obtain ⟨b9, o10, rfl⟩ := H.addr 3 rfl (by omega)
   obtain ⟨ae11Bag, ce11Bag, Fe11Bag, H⟩ := H.elem_IntoD 3 rfl k k (by omega) (by omega) (by omega)
   refine rt 6 (.pointer (some ⟨b9, o10 + (k : Int).toNat * 2, none⟩)) (y_idxAt b9 (o10) y.length cy k Try.underlying90 ti108 rfl rfl (by omega) (by omega)) (H.sel _ (.refl _) _ (fun _ h => List.mem_cons_of_mem _ (List.mem_cons_of_mem _ (List.mem_cons_of_mem _ (List.mem_cons_of_mem _ (h)))))) ?_
   refine r_ops [3, 7] (by kernel_rfl) (by simp) (r_op rfl ?_ (r_op rfl ?_ r_nil))
   ·skip
    refine o_loadN [.int .i64 ((x[k]!).fCell), .slice ae8Bag (((x[k]!).fBag).length) ce8Bag] Try.isAgg108 Try.sizeOf108 rfl (cellsAt_sub (H.get 3 rfl) 0 2) ?_
    refine ⟨H.sel _ (.refl _) _ (fun _ h => List.mem_cons_of_mem _ (List.mem_cons_of_mem _ (List.mem_cons_of_mem _ (List.mem_cons_of_mem _ (h))))), ?_⟩
    refine r_ops [7] (by kernel_rfl) (by simp) (r_op rfl ?_ r_nil)
    refine o_loadN [.int .i64 ((y[k]!).fCell), .slice ae11Bag (((y[k]!).fBag).length) ce11Bag] Try.isAgg108 Try.sizeOf108 rfl (cellsAt_sub (H.get 1 rfl) 0 2) ?_
    refine ⟨H.sel _ (.refl _) _ (fun _ h => List.mem_cons_of_mem _ (List.mem_cons_of_mem _ (List.mem_cons_of_mem _ (List.mem_cons_of_mem _ (h))))), ?_⟩
    refine r_ops [8] (by kernel_rfl) (by simp) (r_op rfl ?_ r_nil)
    refine o_call #[.agg #[.int .i64 ((x[k]!).fCell), .slice ae8Bag (((x[k]!).fBag).length) ce8Bag], .agg #[.int .i64 ((y[k]!).fCell), .slice ae11Bag (((y[k]!).fBag).length) ce11Bag]] rfl rfl Try.call119 (eqInto_ok w3.drew (x[k]!) (y[k]!) ae8Bag ce8Bag Fe8Bag ae11Bag ce11Bag Fe11Bag (H.get 2 rfl).1 (H.get 0 rfl).1) ?_
    rintro _ w12 rfl x13
    replace H := H.ext x13
    refine ⟨H.sel _ (.refl _) _ (fun _ h => List.mem_cons_of_mem _ (List.mem_cons_of_mem _ (List.mem_cons_of_mem _ (List.mem_cons_of_mem _ (h))))), ?_⟩
    refine rtp 9 (.bool (!(decide ((x[k]!) = (y[k]!))))) (H.sel _ (.refl _) _ (fun _ h => List.mem_cons_of_mem _ (List.mem_cons_of_mem _ (List.mem_cons_of_mem _ (List.mem_cons_of_mem _ (h)))))) ?_
    refine r_done (by kernel_rfl) (t_n ?_)
    refine c_cond (!(decide ((x[k]!) = (y[k]!)))) rfl (fun h14 => ?_) (fun h14 => ?_)
    ·skip
     replace h14 := not_true_of h14
     replace h14 := of_decide_eq_false h14
     refine c_seq ?_
     refine c_reg ?_
     refine sp (.bool false) ?_
     refine c_nil (t_n ?_)
     refine c_ret (b_r (t_r (t_r (b_r (t_r (?_))))))
     refine ret1 (.bool false) rfl rfl ⟨_, rfl, ?_, H.base⟩
     first | rw [decide_eq_false (fun e => by subst e; omega)] | rw [decide_eq_false (ne_of_get (k := k) ‹_›)] | rw [decide_eq_true (eq_of_take (k := k) (by omega) (by omega) ‹_›)]
    ·skip
     replace h14 := not_false_of h14
     replace h14 := of_decide_eq_true h14
     refine c_skip (b_n (t_n ?_))
     refine c_reg ?_
     refine sp (.int .i64 k) ?_
     refine sw (o_add k 1 rfl rfl (by omega) ?_)
     refine sp (.int .i64 (k + 1)) ?_
     refine c_nil (?_)
     refine loop_end (m' := x.length - (k + 1)) (by omega) ⟨_, k + 1, (by exact upd_eq (upd_eq (upd_eq (rfl) rfl) rfl) rfl), ?_, ?_, rfl, H.sel _ (.refl _) _ (by simp)⟩
     · omega
     · exact eqTo_succ (by omega) (by omega) ‹_› (by first | assumption | omega)
   ·skip
    refine o_loadN [.int .i64 ((y[k]!).fCell), .slice ae11Bag (((y[k]!).fBag).length) ce11Bag] Try.isAgg108 Try.sizeOf108 rfl (cellsAt_sub (H.get 1 rfl) 0 2) ?_
    refine ⟨H.sel _ (.refl _) _ (fun _ h => List.mem_cons_of_mem _ (List.mem_cons_of_mem _ (List.mem_cons_of_mem _ (List.mem_cons_of_mem _ (h))))), ?_⟩
    refine r_ops [3] (by kernel_rfl) (by simp) (r_op rfl ?_ r_nil)
    refine o_loadN [.int .i64 ((x[k]!).fCell), .slice ae8Bag (((x[k]!).fBag).length) ce8Bag] Try.isAgg108 Try.sizeOf108 rfl (cellsAt_sub (H.get 3 rfl) 0 2) ?_
    refine ⟨H.sel _ (.refl _) _ (fun _ h => List.mem_cons_of_mem _ (List.mem_cons_of_mem _ (List.mem_cons_of_mem _ (List.mem_cons_of_mem _ (h))))), ?_⟩
    refine r_ops [8] (by kernel_rfl) (by simp) (r_op rfl ?_ r_nil)
    refine o_call #[.agg #[.int .i64 ((x[k]!).fCell), .slice ae8Bag (((x[k]!).fBag).length) ce8Bag], .agg #[.int .i64 ((y[k]!).fCell), .slice ae11Bag (((y[k]!).fBag).length) ce11Bag]] rfl rfl Try.call119 (eqInto_ok w3.drew (x[k]!) (y[k]!) ae8Bag ce8Bag Fe8Bag ae11Bag ce11Bag Fe11Bag (H.get 2 rfl).1 (H.get 0 rfl).1) ?_
    rintro _ w15 rfl x16
    replace H := H.ext x16
    refine ⟨H.sel _ (.refl _) _ (fun _ h => List.mem_cons_of_mem _ (List.mem_cons_of_mem _ (List.mem_cons_of_mem _ (List.mem_cons_of_mem _ (h))))), ?_⟩
    refine rtp 9 (.bool (!(decide ((x[k]!) = (y[k]!))))) (H.sel _ (.refl _) _ (fun _ h => List.mem_cons_of_mem _ (List.mem_cons_of_mem _ (List.mem_cons_of_mem _ (List.mem_cons_of_mem _ (h)))))) ?_
    refine r_done (by kernel_rfl) (t_n ?_)
    refine c_cond (!(decide ((x[k]!) = (y[k]!)))) rfl (fun h17 => ?_) (fun h17 => ?_)
    ·skip
     replace h17 := not_true_of h17
     replace h17 := of_decide_eq_false h17
     refine c_seq ?_
     refine c_reg ?_
     refine sp (.bool false) ?_
     refine c_nil (t_n ?_)
     refine c_ret (b_r (t_r (t_r (b_r (t_r (?_))))))
     refine ret1 (.bool false) rfl rfl ⟨_, rfl, ?_, H.base⟩
     first | rw [decide_eq_false (fun e => by subst e; omega)] | rw [decide_eq_false (ne_of_get (k := k) ‹_›)] | rw [decide_eq_true (eq_of_take (k := k) (by omega) (by omega) ‹_›)]
    ·skip
     replace h17 := not_false_of h17
     replace h17 := of_decide_eq_true h17
     refine c_skip (b_n (t_n ?_))
     refine c_reg ?_
     refine sp (.int .i64 k) ?_
     refine sw (o_add k 1 rfl rfl (by omega) ?_)
     refine sp (.int .i64 (k + 1)) ?_
     refine c_nil (?_)
     refine loop_end (m' := x.length - (k + 1)) (by omega) ⟨_, k + 1, (by exact upd_eq (upd_eq (upd_eq (rfl) rfl) rfl) rfl), ?_, ?_, rfl, H.sel _ (.refl _) _ (by simp)⟩
     · omega
     · exact eqTo_succ (by omega) (by omega) ‹_› (by first | assumption | omega)
  ·skip
   replace h4 := of_decide_eq_false h4
   refine c_exit (t_x (t_x (b_x (t_n ?_))))
   refine c_seq ?_
   refine c_reg ?_
   refine sp (.bool true) ?_
   refine c_nil (t_n ?_)
   refine c_ret (?_)
   refine ret1 (.bool true) rfl rfl ⟨_, rfl, ?_, H.base⟩
   first | rw [decide_eq_false (fun e => by subst e; omega)] | rw [decide_eq_false (ne_of_get (k := k) ‹_›)] | rw [decide_eq_true (eq_of_take (k := k) (by omega) (by omega) ‹_›)]

theorem eqRule_ok (w : World) (x : RuleD) (y : RuleD) (axNeed : Option Addr) (cxNeed : Nat) (FxNeed : List Nat) (axHave : Option Addr) (cxHave : Nat) (FxHave : List Nat) (axLack : Option Addr) (cxLack : Nat) (FxLack : List Nat) (axHere : Option Addr) (cxHere : Nat) (FxHere : List Nat) (axOut : Option Addr) (cxOut : Nat) (FxOut : List Nat) (axInto : Option Addr) (cxInto : Nat) (FxInto : List Nat) (ayNeed : Option Addr) (cyNeed : Nat) (FyNeed : List Nat) (ayHave : Option Addr) (cyHave : Nat) (FyHave : List Nat) (ayLack : Option Addr) (cyLack : Nat) (FyLack : List Nat) (ayHere : Option Addr) (cyHere : Nat) (FyHere : List Nat) (ayOut : Option Addr) (cyOut : Nat) (FyOut : List Nat) (ayInto : Option Addr) (cyInto : Nat) (FyInto : List Nat) (hxNeed : GoRep.rep w FxNeed [.slice axNeed x.fNeed.length cxNeed] x.fNeed) (hxHave : GoRep.rep w FxHave [.slice axHave x.fHave.length cxHave] x.fHave) (hxLack : GoRep.rep w FxLack [.slice axLack x.fLack.length cxLack] x.fLack) (hxHere : GoRep.rep w FxHere [.slice axHere x.fHere.length cxHere] x.fHere) (hxOut : GoRep.rep w FxOut [.slice axOut x.fOut.length cxOut] x.fOut) (hxInto : GoRep.rep w FxInto [.slice axInto x.fInto.length cxInto] x.fInto) (hyNeed : GoRep.rep w FyNeed [.slice ayNeed y.fNeed.length cyNeed] y.fNeed) (hyHave : GoRep.rep w FyHave [.slice ayHave y.fHave.length cyHave] y.fHave) (hyLack : GoRep.rep w FyLack [.slice ayLack y.fLack.length cyLack] y.fLack) (hyHere : GoRep.rep w FyHere [.slice ayHere y.fHere.length cyHere] y.fHere) (hyOut : GoRep.rep w FyOut [.slice ayOut y.fOut.length cyOut] y.fOut) (hyInto : GoRep.rep w FyInto [.slice ayInto y.fInto.length cyInto] y.fInto) : Calls Try.prog 75 #[.agg #[.int .i64 x.fCell, .int .i64 x.fRank, .slice axNeed x.fNeed.length cxNeed, .slice axHave x.fHave.length cxHave, .slice axLack x.fLack.length cxLack, .slice axHere x.fHere.length cxHere, .slice axOut x.fOut.length cxOut, .slice axInto x.fInto.length cxInto, .bool x.fMelts], .agg #[.int .i64 y.fCell, .int .i64 y.fRank, .slice ayNeed y.fNeed.length cyNeed, .slice ayHave y.fHave.length cyHave, .slice ayLack y.fLack.length cyLack, .slice ayHere y.fHere.length cyHere, .slice ayOut y.fOut.length cyOut, .slice ayInto y.fInto.length cyInto, .bool y.fMelts]] w (Ret (fun v w' => v = .bool (decide (x = y))) w) := by
 refine enter (n := 56) Try.func75 rfl Try.ntmps75 (Nat.le_of_ble_eq_true rfl) ?_
 have H := St.start w
 replace H := H.add (isF false FyInto (.slice ayInto y.fInto.length cyInto) y.fInto) ⟨hyInto, by simp⟩ (start_lt hyInto)
 replace H := H.add (isF false FyOut (.slice ayOut y.fOut.length cyOut) y.fOut) ⟨hyOut, by simp⟩ (start_lt hyOut)
 replace H := H.add (isF false FyHere (.slice ayHere y.fHere.length cyHere) y.fHere) ⟨hyHere, by simp⟩ (start_lt hyHere)
 replace H := H.add (isF false FyLack (.slice ayLack y.fLack.length cyLack) y.fLack) ⟨hyLack, by simp⟩ (start_lt hyLack)
 replace H := H.add (isF false FyHave (.slice ayHave y.fHave.length cyHave) y.fHave) ⟨hyHave, by simp⟩ (start_lt hyHave)
 replace H := H.add (isF false FyNeed (.slice ayNeed y.fNeed.length cyNeed) y.fNeed) ⟨hyNeed, by simp⟩ (start_lt hyNeed)
 replace H := H.add (isF false FxInto (.slice axInto x.fInto.length cxInto) x.fInto) ⟨hxInto, by simp⟩ (start_lt hxInto)
 replace H := H.add (isF false FxOut (.slice axOut x.fOut.length cxOut) x.fOut) ⟨hxOut, by simp⟩ (start_lt hxOut)
 replace H := H.add (isF false FxHere (.slice axHere x.fHere.length cxHere) x.fHere) ⟨hxHere, by simp⟩ (start_lt hxHere)
 replace H := H.add (isF false FxLack (.slice axLack x.fLack.length cxLack) x.fLack) ⟨hxLack, by simp⟩ (start_lt hxLack)
 replace H := H.add (isF false FxHave (.slice axHave x.fHave.length cxHave) x.fHave) ⟨hxHave, by simp⟩ (start_lt hxHave)
 replace H := H.add (isF false FxNeed (.slice axNeed x.fNeed.length cxNeed) x.fNeed) ⟨hxNeed, by simp⟩ (start_lt hxNeed)
 have nhxNeed := rep_len hxNeed
 have nhxHave := rep_len hxHave
 have nhxLack := rep_len hxLack
 have nhxHere := rep_len hxHere
 have nhxOut := rep_len hxOut
 have nhxInto := rep_len hxInto
 have nhyNeed := rep_len hyNeed
 have nhyHave := rep_len hyHave
 have nhyLack := rep_len hyLack
 have nhyHere := rep_len hyHere
 have nhyOut := rep_len hyOut
 have nhyInto := rep_len hyInto
 clear hxNeed hxHave hxLack hxHere hxOut hxInto hyNeed hyHave hyLack hyHere hyOut hyInto
 refine c_seq ?_
 refine c_reg ?_
 refine sw (o_box H (.agg #[.int .i64 x.fCell, .int .i64 x.fRank, .slice axNeed x.fNeed.length cxNeed, .slice axHave x.fHave.length cxHave, .slice axLack x.fLack.length cxLack, .slice axHere x.fHere.length cxHere, .slice axOut x.fOut.length cxOut, .slice axInto x.fInto.length cxInto, .bool x.fMelts]) rfl fun b1 w2 H => ?_)
 replace H : St _ _ [.box b1 [.int .i64 x.fCell, .int .i64 x.fRank, .slice axNeed x.fNeed.length cxNeed, .slice axHave x.fHave.length cxHave, .slice axLack x.fLack.length cxLack, .slice axHere x.fHere.length cxHere, .slice axOut x.fOut.length cxOut, .slice axInto x.fInto.length cxInto, .bool x.fMelts] 92] _ := H
 refine sw (o_box H (.agg #[.int .i64 y.fCell, .int .i64 y.fRank, .slice ayNeed y.fNeed.length cyNeed, .slice ayHave y.fHave.length cyHave, .slice ayLack y.fLack.length cyLack, .slice ayHere y.fHere.length cyHere, .slice ayOut y.fOut.length cyOut, .slice ayInto y.fInto.length cyInto, .bool y.fMelts]) rfl fun b3 w4 H => ?_)
 replace H : St _ _ [.box b3 [.int .i64 y.fCell, .int .i64 y.fRank, .slice ayNeed y.fNeed.length cyNeed, .slice ayHave y.fHave.length cyHave, .slice ayLack y.fLack.length cyLack, .slice ayHere y.fHere.length cyHere, .slice ayOut y.fOut.length cyOut, .slice ayInto y.fInto.length cyInto, .bool y.fMelts] 92, .box b1 [.int .i64 x.fCell, .int .i64 x.fRank, .slice axNeed x.fNeed.length cxNeed, .slice axHave x.fHave.length cxHave, .slice axLack x.fLack.length cxLack, .slice axHere x.fHere.length cxHere, .slice axOut x.fOut.length cxOut, .slice axInto x.fInto.length cxInto, .bool x.fMelts] 92] _ := H
 refine sp (.bool false) ?_
 refine c_nil (t_n ?_)
 refine c_seq ?_
 refine c_seq ?_
 refine c_reg ?_
 refine sw (o_field b1 (0) 0 Try.underlying92 rfl rfl Try.sizeOf2 rfl ?_)
 refine sw (o_load1 (.int .i64 x.fCell) Try.isAgg2 rfl (H.cell 1 rfl rfl) ?_)
 refine sw (o_field b3 (0) 0 Try.underlying92 rfl rfl Try.sizeOf2 rfl ?_)
 refine sw (o_load1 (.int .i64 y.fCell) Try.isAgg2 rfl (H.cell 0 rfl rfl) ?_)
 refine sp (.bool ((x.fCell : Int) != y.fCell)) ?_
 refine c_nil (t_n ?_)
 refine c_cond ((x.fCell : Int) != y.fCell) rfl (fun h5 => ?_) (fun h5 => ?_)
 ·skip
  replace h5 := bne_iff_ne.1 h5
  refine c_seq ?_
  refine c_reg ?_
  refine sp (.bool false) ?_
  refine c_nil (t_n ?_)
  refine c_ret (t_r (?_))
  refine ret1 (.bool false) rfl rfl ⟨_, rfl, ?_, H.base⟩
  rw [decide_eq_false (fun e => by subst e; simp_all)]
 ·skip
  replace h5 := eq_of_bne_false h5
  refine c_skip (t_n ?_)
  refine c_seq ?_
  refine c_seq ?_
  refine c_reg ?_
  refine sw (o_field b1 (0) 1 Try.underlying92 rfl rfl Try.sizeOf2 rfl ?_)
  refine sw (o_load1 (.int .i64 x.fRank) Try.isAgg2 rfl (H.cell 1 rfl rfl) ?_)
  refine sw (o_field b3 (0) 1 Try.underlying92 rfl rfl Try.sizeOf2 rfl ?_)
  refine sw (o_load1 (.int .i64 y.fRank) Try.isAgg2 rfl (H.cell 0 rfl rfl) ?_)
  refine sp (.bool ((x.fRank : Int) != y.fRank)) ?_
  refine c_nil (t_n ?_)
  refine c_cond ((x.fRank : Int) != y.fRank) rfl (fun h6 => ?_) (fun h6 => ?_)
  ·skip
   replace h6 := bne_iff_ne.1 h6
   refine c_seq ?_
   refine c_reg ?_
   refine sp (.bool false) ?_
   refine c_nil (t_n ?_)
   refine c_ret (t_r (?_))
   refine ret1 (.bool false) rfl rfl ⟨_, rfl, ?_, H.base⟩
   rw [decide_eq_false (fun e => by subst e; simp_all)]
  ·skip
   replace h6 := eq_of_bne_false h6
   refine c_skip (t_n ?_)
   refine c_seq ?_
   refine c_seq ?_
   refine c_reg ?_
   refine sw (o_field b1 (0) 2 Try.underlying92 rfl rfl Try.sizeOf22 rfl ?_)
   refine sw (o_load1 (.slice axNeed x.fNeed.length cxNeed) Try.isAgg22 rfl (H.cell 1 rfl rfl) ?_)
   refine sw (o_field b3 (0) 2 Try.underlying92 rfl rfl Try.sizeOf22 rfl ?_)
   refine sw (o_load1 (.slice ayNeed y.fNeed.length cyNeed) Try.isAgg22 rfl (H.cell 0 rfl rfl) ?_)
   refine sw (o_call #[.slice axNeed x.fNeed.length cxNeed, .slice ayNeed y.fNeed.length cyNeed] rfl rfl Try.call12 (eqInt64S_ok w4 x.fNeed y.fNeed axNeed cxNeed FxNeed ayNeed cyNeed FyNeed (H.get 0 rfl).1 (H.get 6 rfl).1) ?_)
   rintro _ w7 rfl x8
   replace H := H.ext x8
   refine sp (.bool (!(decide (x.fNeed = y.fNeed)))) ?_
   refine c_nil (t_n ?_)
   refine c_cond (!(decide (x.fNeed = y.fNeed))) rfl (fun h9 => ?_) (fun h9 => ?_)
   ·skip
    replace h9 := not_true_of h9
    replace h9 := of_decide_eq_false h9
    refine c_seq ?_
    refine c_reg ?_
    refine sp (.bool false) ?_
    refine c_nil (t_n ?_)
    refine c_ret (t_r (?_))
    refine ret1 (.bool false) rfl rfl ⟨_, rfl, ?_, H.base⟩
    rw [decide_eq_false (fun e => by subst e; simp_all)]
   ·skip
    replace h9 := not_false_of h9
    replace h9 := of_decide_eq_true h9
    refine c_skip (t_n ?_)
    refine c_seq ?_
    refine c_seq ?_
    refine c_reg ?_
    refine sw (o_field b1 (0) 3 Try.underlying92 rfl rfl Try.sizeOf22 rfl ?_)
    refine sw (o_load1 (.slice axHave x.fHave.length cxHave) Try.isAgg22 rfl (H.cell 1 rfl rfl) ?_)
    refine sw (o_field b3 (0) 3 Try.underlying92 rfl rfl Try.sizeOf22 rfl ?_)
    refine sw (o_load1 (.slice ayHave y.fHave.length cyHave) Try.isAgg22 rfl (H.cell 0 rfl rfl) ?_)
    refine sw (o_call #[.slice axHave x.fHave.length cxHave, .slice ayHave y.fHave.length cyHave] rfl rfl Try.call12 (eqInt64S_ok w7 x.fHave y.fHave axHave cxHave FxHave ayHave cyHave FyHave (H.get 1 rfl).1 (H.get 7 rfl).1) ?_)
    rintro _ w10 rfl x11
    replace H := H.ext x11
    refine sp (.bool (!(decide (x.fHave = y.fHave)))) ?_
    refine c_nil (t_n ?_)
    refine c_cond (!(decide (x.fHave = y.fHave))) rfl (fun h12 => ?_) (fun h12 => ?_)
    ·skip
     replace h12 := not_true_of h12
     replace h12 := of_decide_eq_false h12
     refine c_seq ?_
     refine c_reg ?_
     refine sp (.bool false) ?_
     refine c_nil (t_n ?_)
     refine c_ret (t_r (?_))
     refine ret1 (.bool false) rfl rfl ⟨_, rfl, ?_, H.base⟩
     rw [decide_eq_false (fun e => by subst e; simp_all)]
    ·skip
     replace h12 := not_false_of h12
     replace h12 := of_decide_eq_true h12
     refine c_skip (t_n ?_)
     refine c_seq ?_
     refine c_seq ?_
     refine c_reg ?_
     refine sw (o_field b1 (0) 4 Try.underlying92 rfl rfl Try.sizeOf22 rfl ?_)
     refine sw (o_load1 (.slice axLack x.fLack.length cxLack) Try.isAgg22 rfl (H.cell 1 rfl rfl) ?_)
     refine sw (o_field b3 (0) 4 Try.underlying92 rfl rfl Try.sizeOf22 rfl ?_)
     refine sw (o_load1 (.slice ayLack y.fLack.length cyLack) Try.isAgg22 rfl (H.cell 0 rfl rfl) ?_)
     refine sw (o_call #[.slice axLack x.fLack.length cxLack, .slice ayLack y.fLack.length cyLack] rfl rfl Try.call12 (eqInt64S_ok w10 x.fLack y.fLack axLack cxLack FxLack ayLack cyLack FyLack (H.get 2 rfl).1 (H.get 8 rfl).1) ?_)
     rintro _ w13 rfl x14
     replace H := H.ext x14
     refine sp (.bool (!(decide (x.fLack = y.fLack)))) ?_
     refine c_nil (t_n ?_)
     refine c_cond (!(decide (x.fLack = y.fLack))) rfl (fun h15 => ?_) (fun h15 => ?_)
     ·skip
      replace h15 := not_true_of h15
      replace h15 := of_decide_eq_false h15
      refine c_seq ?_
      refine c_reg ?_
      refine sp (.bool false) ?_
      refine c_nil (t_n ?_)
      refine c_ret (t_r (?_))
      refine ret1 (.bool false) rfl rfl ⟨_, rfl, ?_, H.base⟩
      rw [decide_eq_false (fun e => by subst e; simp_all)]
     ·skip
      replace h15 := not_false_of h15
      replace h15 := of_decide_eq_true h15
      refine c_skip (t_n ?_)
      refine c_seq ?_
      refine c_seq ?_
      refine c_reg ?_
      refine sw (o_field b1 (0) 5 Try.underlying92 rfl rfl Try.sizeOf22 rfl ?_)
      refine sw (o_load1 (.slice axHere x.fHere.length cxHere) Try.isAgg22 rfl (H.cell 1 rfl rfl) ?_)
      refine sw (o_field b3 (0) 5 Try.underlying92 rfl rfl Try.sizeOf22 rfl ?_)
      refine sw (o_load1 (.slice ayHere y.fHere.length cyHere) Try.isAgg22 rfl (H.cell 0 rfl rfl) ?_)
      refine sw (o_call #[.slice axHere x.fHere.length cxHere, .slice ayHere y.fHere.length cyHere] rfl rfl Try.call12 (eqInt64S_ok w13 x.fHere y.fHere axHere cxHere FxHere ayHere cyHere FyHere (H.get 3 rfl).1 (H.get 9 rfl).1) ?_)
      rintro _ w16 rfl x17
      replace H := H.ext x17
      refine sp (.bool (!(decide (x.fHere = y.fHere)))) ?_
      refine c_nil (t_n ?_)
      refine c_cond (!(decide (x.fHere = y.fHere))) rfl (fun h18 => ?_) (fun h18 => ?_)
      ·skip
       replace h18 := not_true_of h18
       replace h18 := of_decide_eq_false h18
       refine c_seq ?_
       refine c_reg ?_
       refine sp (.bool false) ?_
       refine c_nil (t_n ?_)
       refine c_ret (t_r (?_))
       refine ret1 (.bool false) rfl rfl ⟨_, rfl, ?_, H.base⟩
       rw [decide_eq_false (fun e => by subst e; simp_all)]
      ·skip
       replace h18 := not_false_of h18
       replace h18 := of_decide_eq_true h18
       refine c_skip (t_n ?_)
       refine c_seq ?_
       refine c_seq ?_
       refine c_reg ?_
       refine sw (o_field b1 (0) 6 Try.underlying92 rfl rfl Try.sizeOf22 rfl ?_)
       refine sw (o_load1 (.slice axOut x.fOut.length cxOut) Try.isAgg22 rfl (H.cell 1 rfl rfl) ?_)
       refine sw (o_field b3 (0) 6 Try.underlying92 rfl rfl Try.sizeOf22 rfl ?_)
       refine sw (o_load1 (.slice ayOut y.fOut.length cyOut) Try.isAgg22 rfl (H.cell 0 rfl rfl) ?_)
       refine sw (o_call #[.slice axOut x.fOut.length cxOut, .slice ayOut y.fOut.length cyOut] rfl rfl Try.call12 (eqInt64S_ok w16 x.fOut y.fOut axOut cxOut FxOut ayOut cyOut FyOut (H.get 4 rfl).1 (H.get 10 rfl).1) ?_)
       rintro _ w19 rfl x20
       replace H := H.ext x20
       refine sp (.bool (!(decide (x.fOut = y.fOut)))) ?_
       refine c_nil (t_n ?_)
       refine c_cond (!(decide (x.fOut = y.fOut))) rfl (fun h21 => ?_) (fun h21 => ?_)
       ·skip
        replace h21 := not_true_of h21
        replace h21 := of_decide_eq_false h21
        refine c_seq ?_
        refine c_reg ?_
        refine sp (.bool false) ?_
        refine c_nil (t_n ?_)
        refine c_ret (t_r (?_))
        refine ret1 (.bool false) rfl rfl ⟨_, rfl, ?_, H.base⟩
        rw [decide_eq_false (fun e => by subst e; simp_all)]
       ·skip
        replace h21 := not_false_of h21
        replace h21 := of_decide_eq_true h21
        refine c_skip (t_n ?_)
        refine c_seq ?_
        refine c_seq ?_
        refine c_reg ?_
        refine sw (o_field b1 (0) 7 Try.underlying92 rfl rfl Try.sizeOf90 rfl ?_)
        refine sw (o_load1 (.slice axInto x.fInto.length cxInto) Try.isAgg90 rfl (H.cell 1 rfl rfl) ?_)
        refine sw (o_field b3 (0) 7 Try.underlying92 rfl rfl Try.sizeOf90 rfl ?_)
        refine sw (o_load1 (.slice ayInto y.fInto.length cyInto) Try.isAgg90 rfl (H.cell 0 rfl rfl) ?_)
        refine sw (o_call #[.slice axInto x.fInto.length cxInto, .slice ayInto y.fInto.length cyInto] rfl rfl Try.call104 (eqIntoS_ok w19 x.fInto y.fInto axInto cxInto FxInto ayInto cyInto FyInto (H.get 5 rfl).1 (H.get 11 rfl).1) ?_)
        rintro _ w22 rfl x23
        replace H := H.ext x23
        refine sp (.bool (!(decide (x.fInto = y.fInto)))) ?_
        refine c_nil (t_n ?_)
        refine c_cond (!(decide (x.fInto = y.fInto))) rfl (fun h24 => ?_) (fun h24 => ?_)
        ·skip
         replace h24 := not_true_of h24
         replace h24 := of_decide_eq_false h24
         refine c_seq ?_
         refine c_reg ?_
         refine sp (.bool false) ?_
         refine c_nil (t_n ?_)
         refine c_ret (t_r (?_))
         refine ret1 (.bool false) rfl rfl ⟨_, rfl, ?_, H.base⟩
         rw [decide_eq_false (fun e => by subst e; simp_all)]
        ·skip
         replace h24 := not_false_of h24
         replace h24 := of_decide_eq_true h24
         refine c_skip (t_n ?_)
         refine c_seq ?_
         refine c_seq ?_
         refine c_reg ?_
         refine sw (o_field b1 (0) 8 Try.underlying92 rfl rfl Try.sizeOf4 rfl ?_)
         refine sw (o_load1 (.bool x.fMelts) Try.isAgg4 rfl (H.cell 1 rfl rfl) ?_)
         refine sw (o_field b3 (0) 8 Try.underlying92 rfl rfl Try.sizeOf4 rfl ?_)
         refine sw (o_load1 (.bool y.fMelts) Try.isAgg4 rfl (H.cell 0 rfl rfl) ?_)
         refine sw (o_neB Try.underlying4 x.fMelts y.fMelts rfl rfl ?_)
         refine c_nil (t_n ?_)
         refine c_cond (x.fMelts != y.fMelts) rfl (fun h25 => ?_) (fun h25 => ?_)
         ·skip
          replace h25 := bne_iff_ne.1 h25
          refine c_seq ?_
          refine c_reg ?_
          refine sp (.bool false) ?_
          refine c_nil (t_n ?_)
          refine c_ret (t_r (?_))
          refine ret1 (.bool false) rfl rfl ⟨_, rfl, ?_, H.base⟩
          rw [decide_eq_false (fun e => by subst e; simp_all)]
         ·skip
          replace h25 := eq_of_bne_false h25
          refine c_skip (t_n ?_)
          refine c_seq ?_
          refine c_reg ?_
          refine sp (.bool true) ?_
          refine c_nil (t_n ?_)
          refine c_ret (?_)
          refine ret1 (.bool true) rfl rfl ⟨_, rfl, ?_, H.base⟩
          rw [decide_eq_true (by cases x; cases y; simp_all)]

theorem eqRuleS_ok (w : World) (x : List RuleD) (y : List RuleD) (ax : Option Addr) (cx : Nat) (Fx : List Nat) (ay : Option Addr) (cy : Nat) (Fy : List Nat) (hx : GoRep.rep w Fx [.slice ax x.length cx] x) (hy : GoRep.rep w Fy [.slice ay y.length cy] y) : Calls Try.prog 32 #[.slice ax x.length cx, .slice ay y.length cy] w (Ret (fun v w' => v = .bool (decide (x = y))) w) := by
 refine enter (n := 27) Try.func32 rfl Try.ntmps32 (Nat.le_of_ble_eq_true rfl) ?_
 have H := St.start w
 replace H := H.add (isF false Fy (.slice ay y.length cy) y) ⟨hy, by simp⟩ (start_lt hy)
 replace H := H.add (isF false Fx (.slice ax x.length cx) x) ⟨hx, by simp⟩ (start_lt hx)
 have nhx := rep_len hx
 have nhy := rep_len hy
 clear hx hy
 refine c_seq ?_
 refine c_reg ?_
 refine sp (.bool false) ?_
 refine c_nil (t_n ?_)
 refine c_seq ?_
 refine c_seq ?_
 refine c_reg ?_
 refine sp (.slice ax x.length cx) ?_
 refine sw (o_len Try.underlying28 ax x.length cx rfl ?_)
 refine sp (.slice ay y.length cy) ?_
 refine sw (o_len Try.underlying28 ay y.length cy rfl ?_)
 refine sp (.bool ((x.length : Int) != y.length)) ?_
 refine c_nil (t_n ?_)
 refine c_cond ((x.length : Int) != y.length) rfl (fun h1 => ?_) (fun h1 => ?_)
 ·skip
  replace h1 := bne_iff_ne.1 h1
  refine c_seq ?_
  refine c_reg ?_
  refine sp (.bool false) ?_
  refine c_nil (t_n ?_)
  refine c_ret (t_r (?_))
  refine ret1 (.bool false) rfl rfl ⟨_, rfl, ?_, H.base⟩
  first | rw [decide_eq_false (fun e => by subst e; omega)] | rw [decide_eq_false (ne_of_get (k := k) ‹_›)] | rw [decide_eq_true (eq_of_take (k := k) (by omega) (by omega) ‹_›)]
 ·skip
  replace h1 := eq_of_bne_false h1
  refine c_skip (t_n ?_)
  refine c_seq ?_
  refine c_seq ?_
  refine c_reg ?_
  refine sp (.int .i64 0) ?_
  refine c_nil (t_n ?_)
  refine c_block ?_
  refine c_loop (fun m' ρ w2 => ∃ (junk : Env) (k : Nat), ρ = upd (upd (upd junk 0 (.slice ax x.length cx)) 1 (.slice ay y.length cy)) 5 (.int .i64 k) ∧ (k ≤ x.length) ∧ (x.take k = y.take k) ∧ m' = x.length - k ∧ St w w2 [] [isF false Fx (.slice ax x.length cx) x, isF false Fy (.slice ay y.length cy) y]) (x.length - 0) ⟨_, 0, (by exact upd_eq (upd_eq (upd_eq (rfl) rfl) rfl) rfl), (by omega), (by rfl), rfl, H⟩ ?_
  clear H
  rintro m' ρ w3 ⟨junk, k, rfl, i0, i1, rfl, H⟩
  refine c_seq ?_
  refine c_seq ?_
  refine c_reg ?_
  refine sp (.int .i64 k) ?_
  refine sp (.slice ax x.length cx) ?_
  refine sw (o_len Try.underlying28 ax x.length cx rfl ?_)
  refine sp (.bool (decide ((k : Int) < x.length))) ?_
  refine c_nil (t_n ?_)
  refine c_cond (decide ((k : Int) < x.length)) rfl (fun h4 => ?_) (fun h4 => ?_)
  ·skip
   replace h4 := of_decide_eq_true h4
   refine c_skip (t_n ?_)
   refine c_seq ?_
   refine c_block ?_
   refine c_seq ?_
   refine c_drawH rfl H fun H => ?_
   refine rtp 0 (.slice ax x.length cx) H ?_
   refine rtp 1 (.int .i64 k) H ?_
   obtain ⟨b6, o7, rfl⟩ := H.addr 0 rfl (by omega)
   obtain ⟨ae8Need, ce8Need, Fe8Need, ae8Have, ce8Have, Fe8Have, ae8Lack, ce8Lack, Fe8Lack, ae8Here, ce8Here, Fe8Here, ae8Out, ce8Out, Fe8Out, ae8Into, ce8Into, Fe8Into, H⟩ := H.elem_RuleD 0 rfl k k (by omega) (by omega) (by omega)
   refine rt 2 (.pointer (some ⟨b6, o7 + (k : Int).toNat * 9, none⟩)) (y_idxAt b6 (o7) x.length cx k Try.underlying28 ti92 rfl rfl (by omega) (by omega)) (H.sel _ (.refl _) _ (fun _ h => List.mem_cons_of_mem _ (List.mem_cons_of_mem _ (List.mem_cons_of_mem _ (List.mem_cons_of_mem _ (List.mem_cons_of_mem _ (List.mem_cons_of_mem _ (List.mem_cons_of_mem _ (h))))))))) ?_
   refine rtp 4 (.slice ay y.length cy) (H.sel _ (.refl _) _ (fun _ h => List.mem_cons_of_mem _ (List.mem_cons_of_mem _ (List.mem_cons_of_mem _ (List.mem_cons_of_mem _ (List.mem_cons_of_mem _ (List.mem_cons_of_mem _ (List.mem_cons_of_mem _ (h))))))))) ?_
   refine rtp 5 (.int .i64 k) (H.sel _ (.refl _) _ (fun _ h => List.mem_cons_of_mem _ (List.mem_cons_of_mem _ (List.mem_cons_of_mem _ (List.mem_cons_of_mem _ (List.mem_cons_of_mem _ (List.mem_cons_of_mem _ (List.mem_cons_of_mem _ (h))))))))) ?_
   obtain ⟨b9, o10, rfl⟩ := H.addr 8 rfl (by omega)
   obtain ⟨ae11Need, ce11Need, Fe11Need, ae11Have, ce11Have, Fe11Have, ae11Lack, ce11Lack, Fe11Lack, ae11Here, ce11Here, Fe11Here, ae11Out, ce11Out, Fe11Out, ae11Into, ce11Into, Fe11Into, H⟩ := H.elem_RuleD 8 rfl k k (by omega) (by omega) (by omega)
   refine rt 6 (.pointer (some ⟨b9, o10 + (k : Int).toNat * 9, none⟩)) (y_idxAt b9 (o10) y.length cy k Try.underlying28 ti92 rfl rfl (by omega) (by omega)) (H.sel _ (.refl _) _ (fun _ h => List.mem_cons_of_mem _ (List.mem_cons_of_mem _ (List.mem_cons_of_mem _ (List.mem_cons_of_mem _ (List.mem_cons_of_mem _ (List.mem_cons_of_mem _ (List.mem_cons_of_mem _ (List.mem_cons_of_mem _ (List.mem_cons_of_mem _ (List.mem_cons_of_mem _ (List.mem_cons_of_mem _ (List.mem_cons_of_mem _ (List.mem_cons_of_mem _ (List.mem_cons_of_mem _ (h)))))))))))))))) ?_
   refine r_ops [3, 7] (by kernel_rfl) (by simp) (r_op rfl ?_ (r_op rfl ?_ r_nil))
   ·skip
    refine o_loadN [.int .i64 ((x[k]!).fCell), .int .i64 ((x[k]!).fRank), .slice ae8Need (((x[k]!).fNeed).length) ce8Need, .slice ae8Have (((x[k]!).fHave).length) ce8Have, .slice ae8Lack (((x[k]!).fLack).length) ce8Lack, .slice ae8Here (((x[k]!).fHere).length) ce8Here, .slice ae8Out (((x[k]!).fOut).length) ce8Out, .slice ae8Into (((x[k]!).fInto).length) ce8Into, .bool ((x[k]!).fMelts)] Try.isAgg92 Try.sizeOf92 rfl (cellsAt_sub (H.get 13 rfl) 0 9) ?_
    refine ⟨H.sel _ (.refl _) _ (fun _ h => List.mem_cons_of_mem _ (List.mem_cons_of_mem _ (List.mem_cons_of_mem _ (List.mem_cons_of_mem _ (List.mem_cons_of_mem _ (List.mem_cons_of_mem _ (List.mem_cons_of_mem _ (List.mem_cons_of_mem _ (List.mem_cons_of_mem _ (List.mem_cons_of_mem _ (List.mem_cons_of_mem _ (List.mem_cons_of_mem _ (List.mem_cons_of_mem _ (List.mem_cons_of_mem _ (h))))))))))))))), ?_⟩
    refine r_ops [7] (by kernel_rfl) (by simp) (r_op rfl ?_ r_nil)
    refine o_loadN [.int .i64 ((y[k]!).fCell), .int .i64 ((y[k]!).fRank), .slice ae11Need (((y[k]!).fNeed).length) ce11Need, .slice ae11Have (((y[k]!).fHave).length) ce11Have, .slice ae11Lack (((y[k]!).fLack).length) ce11Lack, .slice ae11Here (((y[k]!).fHere).length) ce11Here, .slice ae11Out (((y[k]!).fOut).length) ce11Out, .slice ae11Into (((y[k]!).fInto).length) ce11Into, .bool ((y[k]!).fMelts)] Try.isAgg92 Try.sizeOf92 rfl (cellsAt_sub (H.get 6 rfl) 0 9) ?_
    refine ⟨H.sel _ (.refl _) _ (fun _ h => List.mem_cons_of_mem _ (List.mem_cons_of_mem _ (List.mem_cons_of_mem _ (List.mem_cons_of_mem _ (List.mem_cons_of_mem _ (List.mem_cons_of_mem _ (List.mem_cons_of_mem _ (List.mem_cons_of_mem _ (List.mem_cons_of_mem _ (List.mem_cons_of_mem _ (List.mem_cons_of_mem _ (List.mem_cons_of_mem _ (List.mem_cons_of_mem _ (List.mem_cons_of_mem _ (h))))))))))))))), ?_⟩
    refine r_ops [8] (by kernel_rfl) (by simp) (r_op rfl ?_ r_nil)
    refine o_call #[.agg #[.int .i64 ((x[k]!).fCell), .int .i64 ((x[k]!).fRank), .slice ae8Need (((x[k]!).fNeed).length) ce8Need, .slice ae8Have (((x[k]!).fHave).length) ce8Have, .slice ae8Lack (((x[k]!).fLack).length) ce8Lack, .slice ae8Here (((x[k]!).fHere).length) ce8Here, .slice ae8Out (((x[k]!).fOut).length) ce8Out, .slice ae8Into (((x[k]!).fInto).length) ce8Into, .bool ((x[k]!).fMelts)], .agg #[.int .i64 ((y[k]!).fCell), .int .i64 ((y[k]!).fRank), .slice ae11Need (((y[k]!).fNeed).length) ce11Need, .slice ae11Have (((y[k]!).fHave).length) ce11Have, .slice ae11Lack (((y[k]!).fLack).length) ce11Lack, .slice ae11Here (((y[k]!).fHere).length) ce11Here, .slice ae11Out (((y[k]!).fOut).length) ce11Out, .slice ae11Into (((y[k]!).fInto).length) ce11Into, .bool ((y[k]!).fMelts)]] rfl rfl Try.call75 (eqRule_ok w3.drew (x[k]!) (y[k]!) ae8Need ce8Need Fe8Need ae8Have ce8Have Fe8Have ae8Lack ce8Lack Fe8Lack ae8Here ce8Here Fe8Here ae8Out ce8Out Fe8Out ae8Into ce8Into Fe8Into ae11Need ce11Need Fe11Need ae11Have ce11Have Fe11Have ae11Lack ce11Lack Fe11Lack ae11Here ce11Here Fe11Here ae11Out ce11Out Fe11Out ae11Into ce11Into Fe11Into (H.get 7 rfl).1 (H.get 8 rfl).1 (H.get 9 rfl).1 (H.get 10 rfl).1 (H.get 11 rfl).1 (H.get 12 rfl).1 (H.get 0 rfl).1 (H.get 1 rfl).1 (H.get 2 rfl).1 (H.get 3 rfl).1 (H.get 4 rfl).1 (H.get 5 rfl).1) ?_
    rintro _ w12 rfl x13
    replace H := H.ext x13
    refine ⟨H.sel _ (.refl _) _ (fun _ h => List.mem_cons_of_mem _ (List.mem_cons_of_mem _ (List.mem_cons_of_mem _ (List.mem_cons_of_mem _ (List.mem_cons_of_mem _ (List.mem_cons_of_mem _ (List.mem_cons_of_mem _ (List.mem_cons_of_mem _ (List.mem_cons_of_mem _ (List.mem_cons_of_mem _ (List.mem_cons_of_mem _ (List.mem_cons_of_mem _ (List.mem_cons_of_mem _ (List.mem_cons_of_mem _ (h))))))))))))))), ?_⟩
    refine rtp 9 (.bool (!(decide ((x[k]!) = (y[k]!))))) (H.sel _ (.refl _) _ (fun _ h => List.mem_cons_of_mem _ (List.mem_cons_of_mem _ (List.mem_cons_of_mem _ (List.mem_cons_of_mem _ (List.mem_cons_of_mem _ (List.mem_cons_of_mem _ (List.mem_cons_of_mem _ (List.mem_cons_of_mem _ (List.mem_cons_of_mem _ (List.mem_cons_of_mem _ (List.mem_cons_of_mem _ (List.mem_cons_of_mem _ (List.mem_cons_of_mem _ (List.mem_cons_of_mem _ (h)))))))))))))))) ?_
    refine r_done (by kernel_rfl) (t_n ?_)
    refine c_cond (!(decide ((x[k]!) = (y[k]!)))) rfl (fun h14 => ?_) (fun h14 => ?_)
    ·skip
     replace h14 := not_true_of h14
     replace h14 := of_decide_eq_false h14
     refine c_seq ?_
     refine c_reg ?_
     refine sp (.bool false) ?_
     refine c_nil (t_n ?_)
     refine c_ret (b_r (t_r (t_r (b_r (t_r (?_))))))
     refine ret1 (.bool false) rfl rfl ⟨_, rfl, ?_, H.base⟩
     first | rw [decide_eq_false (fun e => by subst e; omega)] | rw [decide_eq_false (ne_of_get (k := k) ‹_›)] | rw [decide_eq_true (eq_of_take (k := k) (by omega) (by omega) ‹_›)]
    ·skip
     replace h14 := not_false_of h14
     replace h14 := of_decide_eq_true h14
     refine c_skip (b_n (t_n ?_))
     refine c_reg ?_
     refine sp (.int .i64 k) ?_
     refine sw (o_add k 1 rfl rfl (by omega) ?_)
     refine sp (.int .i64 (k + 1)) ?_
     refine c_nil (?_)
     refine loop_end (m' := x.length - (k + 1)) (by omega) ⟨_, k + 1, (by exact upd_eq (upd_eq (upd_eq (rfl) rfl) rfl) rfl), ?_, ?_, rfl, H.sel _ (.refl _) _ (by simp)⟩
     · omega
     · exact eqTo_succ (by omega) (by omega) ‹_› (by first | assumption | omega)
   ·skip
    refine o_loadN [.int .i64 ((y[k]!).fCell), .int .i64 ((y[k]!).fRank), .slice ae11Need (((y[k]!).fNeed).length) ce11Need, .slice ae11Have (((y[k]!).fHave).length) ce11Have, .slice ae11Lack (((y[k]!).fLack).length) ce11Lack, .slice ae11Here (((y[k]!).fHere).length) ce11Here, .slice ae11Out (((y[k]!).fOut).length) ce11Out, .slice ae11Into (((y[k]!).fInto).length) ce11Into, .bool ((y[k]!).fMelts)] Try.isAgg92 Try.sizeOf92 rfl (cellsAt_sub (H.get 6 rfl) 0 9) ?_
    refine ⟨H.sel _ (.refl _) _ (fun _ h => List.mem_cons_of_mem _ (List.mem_cons_of_mem _ (List.mem_cons_of_mem _ (List.mem_cons_of_mem _ (List.mem_cons_of_mem _ (List.mem_cons_of_mem _ (List.mem_cons_of_mem _ (List.mem_cons_of_mem _ (List.mem_cons_of_mem _ (List.mem_cons_of_mem _ (List.mem_cons_of_mem _ (List.mem_cons_of_mem _ (List.mem_cons_of_mem _ (List.mem_cons_of_mem _ (h))))))))))))))), ?_⟩
    refine r_ops [3] (by kernel_rfl) (by simp) (r_op rfl ?_ r_nil)
    refine o_loadN [.int .i64 ((x[k]!).fCell), .int .i64 ((x[k]!).fRank), .slice ae8Need (((x[k]!).fNeed).length) ce8Need, .slice ae8Have (((x[k]!).fHave).length) ce8Have, .slice ae8Lack (((x[k]!).fLack).length) ce8Lack, .slice ae8Here (((x[k]!).fHere).length) ce8Here, .slice ae8Out (((x[k]!).fOut).length) ce8Out, .slice ae8Into (((x[k]!).fInto).length) ce8Into, .bool ((x[k]!).fMelts)] Try.isAgg92 Try.sizeOf92 rfl (cellsAt_sub (H.get 13 rfl) 0 9) ?_
    refine ⟨H.sel _ (.refl _) _ (fun _ h => List.mem_cons_of_mem _ (List.mem_cons_of_mem _ (List.mem_cons_of_mem _ (List.mem_cons_of_mem _ (List.mem_cons_of_mem _ (List.mem_cons_of_mem _ (List.mem_cons_of_mem _ (List.mem_cons_of_mem _ (List.mem_cons_of_mem _ (List.mem_cons_of_mem _ (List.mem_cons_of_mem _ (List.mem_cons_of_mem _ (List.mem_cons_of_mem _ (List.mem_cons_of_mem _ (h))))))))))))))), ?_⟩
    refine r_ops [8] (by kernel_rfl) (by simp) (r_op rfl ?_ r_nil)
    refine o_call #[.agg #[.int .i64 ((x[k]!).fCell), .int .i64 ((x[k]!).fRank), .slice ae8Need (((x[k]!).fNeed).length) ce8Need, .slice ae8Have (((x[k]!).fHave).length) ce8Have, .slice ae8Lack (((x[k]!).fLack).length) ce8Lack, .slice ae8Here (((x[k]!).fHere).length) ce8Here, .slice ae8Out (((x[k]!).fOut).length) ce8Out, .slice ae8Into (((x[k]!).fInto).length) ce8Into, .bool ((x[k]!).fMelts)], .agg #[.int .i64 ((y[k]!).fCell), .int .i64 ((y[k]!).fRank), .slice ae11Need (((y[k]!).fNeed).length) ce11Need, .slice ae11Have (((y[k]!).fHave).length) ce11Have, .slice ae11Lack (((y[k]!).fLack).length) ce11Lack, .slice ae11Here (((y[k]!).fHere).length) ce11Here, .slice ae11Out (((y[k]!).fOut).length) ce11Out, .slice ae11Into (((y[k]!).fInto).length) ce11Into, .bool ((y[k]!).fMelts)]] rfl rfl Try.call75 (eqRule_ok w3.drew (x[k]!) (y[k]!) ae8Need ce8Need Fe8Need ae8Have ce8Have Fe8Have ae8Lack ce8Lack Fe8Lack ae8Here ce8Here Fe8Here ae8Out ce8Out Fe8Out ae8Into ce8Into Fe8Into ae11Need ce11Need Fe11Need ae11Have ce11Have Fe11Have ae11Lack ce11Lack Fe11Lack ae11Here ce11Here Fe11Here ae11Out ce11Out Fe11Out ae11Into ce11Into Fe11Into (H.get 7 rfl).1 (H.get 8 rfl).1 (H.get 9 rfl).1 (H.get 10 rfl).1 (H.get 11 rfl).1 (H.get 12 rfl).1 (H.get 0 rfl).1 (H.get 1 rfl).1 (H.get 2 rfl).1 (H.get 3 rfl).1 (H.get 4 rfl).1 (H.get 5 rfl).1) ?_
    rintro _ w15 rfl x16
    replace H := H.ext x16
    refine ⟨H.sel _ (.refl _) _ (fun _ h => List.mem_cons_of_mem _ (List.mem_cons_of_mem _ (List.mem_cons_of_mem _ (List.mem_cons_of_mem _ (List.mem_cons_of_mem _ (List.mem_cons_of_mem _ (List.mem_cons_of_mem _ (List.mem_cons_of_mem _ (List.mem_cons_of_mem _ (List.mem_cons_of_mem _ (List.mem_cons_of_mem _ (List.mem_cons_of_mem _ (List.mem_cons_of_mem _ (List.mem_cons_of_mem _ (h))))))))))))))), ?_⟩
    refine rtp 9 (.bool (!(decide ((x[k]!) = (y[k]!))))) (H.sel _ (.refl _) _ (fun _ h => List.mem_cons_of_mem _ (List.mem_cons_of_mem _ (List.mem_cons_of_mem _ (List.mem_cons_of_mem _ (List.mem_cons_of_mem _ (List.mem_cons_of_mem _ (List.mem_cons_of_mem _ (List.mem_cons_of_mem _ (List.mem_cons_of_mem _ (List.mem_cons_of_mem _ (List.mem_cons_of_mem _ (List.mem_cons_of_mem _ (List.mem_cons_of_mem _ (List.mem_cons_of_mem _ (h)))))))))))))))) ?_
    refine r_done (by kernel_rfl) (t_n ?_)
    refine c_cond (!(decide ((x[k]!) = (y[k]!)))) rfl (fun h17 => ?_) (fun h17 => ?_)
    ·skip
     replace h17 := not_true_of h17
     replace h17 := of_decide_eq_false h17
     refine c_seq ?_
     refine c_reg ?_
     refine sp (.bool false) ?_
     refine c_nil (t_n ?_)
     refine c_ret (b_r (t_r (t_r (b_r (t_r (?_))))))
     refine ret1 (.bool false) rfl rfl ⟨_, rfl, ?_, H.base⟩
     first | rw [decide_eq_false (fun e => by subst e; omega)] | rw [decide_eq_false (ne_of_get (k := k) ‹_›)] | rw [decide_eq_true (eq_of_take (k := k) (by omega) (by omega) ‹_›)]
    ·skip
     replace h17 := not_false_of h17
     replace h17 := of_decide_eq_true h17
     refine c_skip (b_n (t_n ?_))
     refine c_reg ?_
     refine sp (.int .i64 k) ?_
     refine sw (o_add k 1 rfl rfl (by omega) ?_)
     refine sp (.int .i64 (k + 1)) ?_
     refine c_nil (?_)
     refine loop_end (m' := x.length - (k + 1)) (by omega) ⟨_, k + 1, (by exact upd_eq (upd_eq (upd_eq (rfl) rfl) rfl) rfl), ?_, ?_, rfl, H.sel _ (.refl _) _ (by simp)⟩
     · omega
     · exact eqTo_succ (by omega) (by omega) ‹_› (by first | assumption | omega)
  ·skip
   replace h4 := of_decide_eq_false h4
   refine c_exit (t_x (t_x (b_x (t_n ?_))))
   refine c_seq ?_
   refine c_reg ?_
   refine sp (.bool true) ?_
   refine c_nil (t_n ?_)
   refine c_ret (?_)
   refine ret1 (.bool true) rfl rfl ⟨_, rfl, ?_, H.base⟩
   first | rw [decide_eq_false (fun e => by subst e; omega)] | rw [decide_eq_false (ne_of_get (k := k) ‹_›)] | rw [decide_eq_true (eq_of_take (k := k) (by omega) (by omega) ‹_›)]

theorem eqSystem_ok (w : World) (x : SystemD) (y : SystemD) (axParents : Option Addr) (cxParents : Nat) (FxParents : List Nat) (axRules : Option Addr) (cxRules : Nat) (FxRules : List Nat) (ayParents : Option Addr) (cyParents : Nat) (FyParents : List Nat) (ayRules : Option Addr) (cyRules : Nat) (FyRules : List Nat) (hxParents : GoRep.rep w FxParents [.slice axParents x.fParents.length cxParents] x.fParents) (hxRules : GoRep.rep w FxRules [.slice axRules x.fRules.length cxRules] x.fRules) (hyParents : GoRep.rep w FyParents [.slice ayParents y.fParents.length cyParents] y.fParents) (hyRules : GoRep.rep w FyRules [.slice ayRules y.fRules.length cyRules] y.fRules) : Calls Try.prog 11 #[.agg #[.int .i64 x.fKinds, .slice axParents x.fParents.length cxParents, .slice axRules x.fRules.length cxRules], .agg #[.int .i64 y.fKinds, .slice ayParents y.fParents.length cyParents, .slice ayRules y.fRules.length cyRules]] w (Ret (fun v w' => v = .bool (decide (x = y))) w) := by
 refine enter (n := 22) Try.func11 rfl Try.ntmps11 (Nat.le_of_ble_eq_true rfl) ?_
 have H := St.start w
 replace H := H.add (isF false FyRules (.slice ayRules y.fRules.length cyRules) y.fRules) ⟨hyRules, by simp⟩ (start_lt hyRules)
 replace H := H.add (isF false FyParents (.slice ayParents y.fParents.length cyParents) y.fParents) ⟨hyParents, by simp⟩ (start_lt hyParents)
 replace H := H.add (isF false FxRules (.slice axRules x.fRules.length cxRules) x.fRules) ⟨hxRules, by simp⟩ (start_lt hxRules)
 replace H := H.add (isF false FxParents (.slice axParents x.fParents.length cxParents) x.fParents) ⟨hxParents, by simp⟩ (start_lt hxParents)
 have nhxParents := rep_len hxParents
 have nhxRules := rep_len hxRules
 have nhyParents := rep_len hyParents
 have nhyRules := rep_len hyRules
 clear hxParents hxRules hyParents hyRules
 refine c_seq ?_
 refine c_reg ?_
 refine sw (o_box H (.agg #[.int .i64 x.fKinds, .slice axParents x.fParents.length cxParents, .slice axRules x.fRules.length cxRules]) rfl fun b1 w2 H => ?_)
 replace H : St _ _ [.box b1 [.int .i64 x.fKinds, .slice axParents x.fParents.length cxParents, .slice axRules x.fRules.length cxRules] 30] _ := H
 refine sw (o_box H (.agg #[.int .i64 y.fKinds, .slice ayParents y.fParents.length cyParents, .slice ayRules y.fRules.length cyRules]) rfl fun b3 w4 H => ?_)
 replace H : St _ _ [.box b3 [.int .i64 y.fKinds, .slice ayParents y.fParents.length cyParents, .slice ayRules y.fRules.length cyRules] 30, .box b1 [.int .i64 x.fKinds, .slice axParents x.fParents.length cxParents, .slice axRules x.fRules.length cxRules] 30] _ := H
 refine sp (.bool false) ?_
 refine c_nil (t_n ?_)
 refine c_seq ?_
 refine c_seq ?_
 refine c_reg ?_
 refine sw (o_field b1 (0) 0 Try.underlying30 rfl rfl Try.sizeOf2 rfl ?_)
 refine sw (o_load1 (.int .i64 x.fKinds) Try.isAgg2 rfl (H.cell 1 rfl rfl) ?_)
 refine sw (o_field b3 (0) 0 Try.underlying30 rfl rfl Try.sizeOf2 rfl ?_)
 refine sw (o_load1 (.int .i64 y.fKinds) Try.isAgg2 rfl (H.cell 0 rfl rfl) ?_)
 refine sp (.bool ((x.fKinds : Int) != y.fKinds)) ?_
 refine c_nil (t_n ?_)
 refine c_cond ((x.fKinds : Int) != y.fKinds) rfl (fun h5 => ?_) (fun h5 => ?_)
 ·skip
  replace h5 := bne_iff_ne.1 h5
  refine c_seq ?_
  refine c_reg ?_
  refine sp (.bool false) ?_
  refine c_nil (t_n ?_)
  refine c_ret (t_r (?_))
  refine ret1 (.bool false) rfl rfl ⟨_, rfl, ?_, H.base⟩
  rw [decide_eq_false (fun e => by subst e; simp_all)]
 ·skip
  replace h5 := eq_of_bne_false h5
  refine c_skip (t_n ?_)
  refine c_seq ?_
  refine c_seq ?_
  refine c_reg ?_
  refine sw (o_field b1 (0) 1 Try.underlying30 rfl rfl Try.sizeOf22 rfl ?_)
  refine sw (o_load1 (.slice axParents x.fParents.length cxParents) Try.isAgg22 rfl (H.cell 1 rfl rfl) ?_)
  refine sw (o_field b3 (0) 1 Try.underlying30 rfl rfl Try.sizeOf22 rfl ?_)
  refine sw (o_load1 (.slice ayParents y.fParents.length cyParents) Try.isAgg22 rfl (H.cell 0 rfl rfl) ?_)
  refine sw (o_call #[.slice axParents x.fParents.length cxParents, .slice ayParents y.fParents.length cyParents] rfl rfl Try.call12 (eqInt64S_ok w4 x.fParents y.fParents axParents cxParents FxParents ayParents cyParents FyParents (H.get 0 rfl).1 (H.get 2 rfl).1) ?_)
  rintro _ w6 rfl x7
  replace H := H.ext x7
  refine sp (.bool (!(decide (x.fParents = y.fParents)))) ?_
  refine c_nil (t_n ?_)
  refine c_cond (!(decide (x.fParents = y.fParents))) rfl (fun h8 => ?_) (fun h8 => ?_)
  ·skip
   replace h8 := not_true_of h8
   replace h8 := of_decide_eq_false h8
   refine c_seq ?_
   refine c_reg ?_
   refine sp (.bool false) ?_
   refine c_nil (t_n ?_)
   refine c_ret (t_r (?_))
   refine ret1 (.bool false) rfl rfl ⟨_, rfl, ?_, H.base⟩
   rw [decide_eq_false (fun e => by subst e; simp_all)]
  ·skip
   replace h8 := not_false_of h8
   replace h8 := of_decide_eq_true h8
   refine c_skip (t_n ?_)
   refine c_seq ?_
   refine c_seq ?_
   refine c_reg ?_
   refine sw (o_field b1 (0) 2 Try.underlying30 rfl rfl Try.sizeOf28 rfl ?_)
   refine sw (o_load1 (.slice axRules x.fRules.length cxRules) Try.isAgg28 rfl (H.cell 1 rfl rfl) ?_)
   refine sw (o_field b3 (0) 2 Try.underlying30 rfl rfl Try.sizeOf28 rfl ?_)
   refine sw (o_load1 (.slice ayRules y.fRules.length cyRules) Try.isAgg28 rfl (H.cell 0 rfl rfl) ?_)
   refine sw (o_call #[.slice axRules x.fRules.length cxRules, .slice ayRules y.fRules.length cyRules] rfl rfl Try.call32 (eqRuleS_ok w6 x.fRules y.fRules axRules cxRules FxRules ayRules cyRules FyRules (H.get 1 rfl).1 (H.get 3 rfl).1) ?_)
   rintro _ w9 rfl x10
   replace H := H.ext x10
   refine sp (.bool (!(decide (x.fRules = y.fRules)))) ?_
   refine c_nil (t_n ?_)
   refine c_cond (!(decide (x.fRules = y.fRules))) rfl (fun h11 => ?_) (fun h11 => ?_)
   ·skip
    replace h11 := not_true_of h11
    replace h11 := of_decide_eq_false h11
    refine c_seq ?_
    refine c_reg ?_
    refine sp (.bool false) ?_
    refine c_nil (t_n ?_)
    refine c_ret (t_r (?_))
    refine ret1 (.bool false) rfl rfl ⟨_, rfl, ?_, H.base⟩
    rw [decide_eq_false (fun e => by subst e; simp_all)]
   ·skip
    replace h11 := not_false_of h11
    replace h11 := of_decide_eq_true h11
    refine c_skip (t_n ?_)
    refine c_seq ?_
    refine c_reg ?_
    refine sp (.bool true) ?_
    refine c_nil (t_n ?_)
    refine c_ret (?_)
    refine ret1 (.bool true) rfl rfl ⟨_, rfl, ?_, H.base⟩
    rw [decide_eq_true (by cases x; cases y; simp_all)]

theorem eqState_ok (w : World) (x : StateD) (y : StateD) (axAlive : Option Addr) (cxAlive : Nat) (FxAlive : List Nat) (axBags : Option Addr) (cxBags : Nat) (FxBags : List Nat) (axAround : Option Addr) (cxAround : Nat) (FxAround : List Nat) (ayAlive : Option Addr) (cyAlive : Nat) (FyAlive : List Nat) (ayBags : Option Addr) (cyBags : Nat) (FyBags : List Nat) (ayAround : Option Addr) (cyAround : Nat) (FyAround : List Nat) (hxAlive : GoRep.rep w FxAlive [.slice axAlive x.fAlive.length cxAlive] x.fAlive) (hxBags : GoRep.rep w FxBags [.slice axBags x.fBags.length cxBags] x.fBags) (hxAround : GoRep.rep w FxAround [.slice axAround x.fAround.length cxAround] x.fAround) (hyAlive : GoRep.rep w FyAlive [.slice ayAlive y.fAlive.length cyAlive] y.fAlive) (hyBags : GoRep.rep w FyBags [.slice ayBags y.fBags.length cyBags] y.fBags) (hyAround : GoRep.rep w FyAround [.slice ayAround y.fAround.length cyAround] y.fAround) : Calls Try.prog 17 #[.agg #[.slice axAlive x.fAlive.length cxAlive, .slice axBags x.fBags.length cxBags, .slice axAround x.fAround.length cxAround], .agg #[.slice ayAlive y.fAlive.length cyAlive, .slice ayBags y.fBags.length cyBags, .slice ayAround y.fAround.length cyAround]] w (Ret (fun v w' => v = .bool (decide (x = y))) w) := by
 refine enter (n := 23) Try.func17 rfl Try.ntmps17 (Nat.le_of_ble_eq_true rfl) ?_
 have H := St.start w
 replace H := H.add (isF false FyAround (.slice ayAround y.fAround.length cyAround) y.fAround) ⟨hyAround, by simp⟩ (start_lt hyAround)
 replace H := H.add (isF false FyBags (.slice ayBags y.fBags.length cyBags) y.fBags) ⟨hyBags, by simp⟩ (start_lt hyBags)
 replace H := H.add (isF false FyAlive (.slice ayAlive y.fAlive.length cyAlive) y.fAlive) ⟨hyAlive, by simp⟩ (start_lt hyAlive)
 replace H := H.add (isF false FxAround (.slice axAround x.fAround.length cxAround) x.fAround) ⟨hxAround, by simp⟩ (start_lt hxAround)
 replace H := H.add (isF false FxBags (.slice axBags x.fBags.length cxBags) x.fBags) ⟨hxBags, by simp⟩ (start_lt hxBags)
 replace H := H.add (isF false FxAlive (.slice axAlive x.fAlive.length cxAlive) x.fAlive) ⟨hxAlive, by simp⟩ (start_lt hxAlive)
 have nhxAlive := rep_len hxAlive
 have nhxBags := rep_len hxBags
 have nhxAround := rep_len hxAround
 have nhyAlive := rep_len hyAlive
 have nhyBags := rep_len hyBags
 have nhyAround := rep_len hyAround
 clear hxAlive hxBags hxAround hyAlive hyBags hyAround
 refine c_seq ?_
 refine c_reg ?_
 refine sw (o_box H (.agg #[.slice axAlive x.fAlive.length cxAlive, .slice axBags x.fBags.length cxBags, .slice axAround x.fAround.length cxAround]) rfl fun b1 w2 H => ?_)
 replace H : St _ _ [.box b1 [.slice axAlive x.fAlive.length cxAlive, .slice axBags x.fBags.length cxBags, .slice axAround x.fAround.length cxAround] 41] _ := H
 refine sw (o_box H (.agg #[.slice ayAlive y.fAlive.length cyAlive, .slice ayBags y.fBags.length cyBags, .slice ayAround y.fAround.length cyAround]) rfl fun b3 w4 H => ?_)
 replace H : St _ _ [.box b3 [.slice ayAlive y.fAlive.length cyAlive, .slice ayBags y.fBags.length cyBags, .slice ayAround y.fAround.length cyAround] 41, .box b1 [.slice axAlive x.fAlive.length cxAlive, .slice axBags x.fBags.length cxBags, .slice axAround x.fAround.length cxAround] 41] _ := H
 refine sp (.bool false) ?_
 refine c_nil (t_n ?_)
 refine c_seq ?_
 refine c_seq ?_
 refine c_reg ?_
 refine sw (o_field b1 (0) 0 Try.underlying41 rfl rfl Try.sizeOf36 rfl ?_)
 refine sw (o_load1 (.slice axAlive x.fAlive.length cxAlive) Try.isAgg36 rfl (H.cell 1 rfl rfl) ?_)
 refine sw (o_field b3 (0) 0 Try.underlying41 rfl rfl Try.sizeOf36 rfl ?_)
 refine sw (o_load1 (.slice ayAlive y.fAlive.length cyAlive) Try.isAgg36 rfl (H.cell 0 rfl rfl) ?_)
 refine sw (o_call #[.slice axAlive x.fAlive.length cxAlive, .slice ayAlive y.fAlive.length cyAlive] rfl rfl Try.call45 (eqBoolS_ok w4 x.fAlive y.fAlive axAlive cxAlive FxAlive ayAlive cyAlive FyAlive (H.get 0 rfl).1 (H.get 3 rfl).1) ?_)
 rintro _ w5 rfl x6
 replace H := H.ext x6
 refine sp (.bool (!(decide (x.fAlive = y.fAlive)))) ?_
 refine c_nil (t_n ?_)
 refine c_cond (!(decide (x.fAlive = y.fAlive))) rfl (fun h7 => ?_) (fun h7 => ?_)
 ·skip
  replace h7 := not_true_of h7
  replace h7 := of_decide_eq_false h7
  refine c_seq ?_
  refine c_reg ?_
  refine sp (.bool false) ?_
  refine c_nil (t_n ?_)
  refine c_ret (t_r (?_))
  refine ret1 (.bool false) rfl rfl ⟨_, rfl, ?_, H.base⟩
  rw [decide_eq_false (fun e => by subst e; simp_all)]
 ·skip
  replace h7 := not_false_of h7
  replace h7 := of_decide_eq_true h7
  refine c_skip (t_n ?_)
  refine c_seq ?_
  refine c_seq ?_
  refine c_reg ?_
  refine sw (o_field b1 (0) 1 Try.underlying41 rfl rfl Try.sizeOf37 rfl ?_)
  refine sw (o_load1 (.slice axBags x.fBags.length cxBags) Try.isAgg37 rfl (H.cell 1 rfl rfl) ?_)
  refine sw (o_field b3 (0) 1 Try.underlying41 rfl rfl Try.sizeOf37 rfl ?_)
  refine sw (o_load1 (.slice ayBags y.fBags.length cyBags) Try.isAgg37 rfl (H.cell 0 rfl rfl) ?_)
  refine sw (o_call #[.slice axBags x.fBags.length cxBags, .slice ayBags y.fBags.length cyBags] rfl rfl Try.call46 (eqInt64SS_ok w5 x.fBags y.fBags axBags cxBags FxBags ayBags cyBags FyBags (H.get 1 rfl).1 (H.get 4 rfl).1) ?_)
  rintro _ w8 rfl x9
  replace H := H.ext x9
  refine sp (.bool (!(decide (x.fBags = y.fBags)))) ?_
  refine c_nil (t_n ?_)
  refine c_cond (!(decide (x.fBags = y.fBags))) rfl (fun h10 => ?_) (fun h10 => ?_)
  ·skip
   replace h10 := not_true_of h10
   replace h10 := of_decide_eq_false h10
   refine c_seq ?_
   refine c_reg ?_
   refine sp (.bool false) ?_
   refine c_nil (t_n ?_)
   refine c_ret (t_r (?_))
   refine ret1 (.bool false) rfl rfl ⟨_, rfl, ?_, H.base⟩
   rw [decide_eq_false (fun e => by subst e; simp_all)]
  ·skip
   replace h10 := not_false_of h10
   replace h10 := of_decide_eq_true h10
   refine c_skip (t_n ?_)
   refine c_seq ?_
   refine c_seq ?_
   refine c_reg ?_
   refine sw (o_field b1 (0) 2 Try.underlying41 rfl rfl Try.sizeOf22 rfl ?_)
   refine sw (o_load1 (.slice axAround x.fAround.length cxAround) Try.isAgg22 rfl (H.cell 1 rfl rfl) ?_)
   refine sw (o_field b3 (0) 2 Try.underlying41 rfl rfl Try.sizeOf22 rfl ?_)
   refine sw (o_load1 (.slice ayAround y.fAround.length cyAround) Try.isAgg22 rfl (H.cell 0 rfl rfl) ?_)
   refine sw (o_call #[.slice axAround x.fAround.length cxAround, .slice ayAround y.fAround.length cyAround] rfl rfl Try.call12 (eqInt64S_ok w8 x.fAround y.fAround axAround cxAround FxAround ayAround cyAround FyAround (H.get 2 rfl).1 (H.get 5 rfl).1) ?_)
   rintro _ w11 rfl x12
   replace H := H.ext x12
   refine sp (.bool (!(decide (x.fAround = y.fAround)))) ?_
   refine c_nil (t_n ?_)
   refine c_cond (!(decide (x.fAround = y.fAround))) rfl (fun h13 => ?_) (fun h13 => ?_)
   ·skip
    replace h13 := not_true_of h13
    replace h13 := of_decide_eq_false h13
    refine c_seq ?_
    refine c_reg ?_
    refine sp (.bool false) ?_
    refine c_nil (t_n ?_)
    refine c_ret (t_r (?_))
    refine ret1 (.bool false) rfl rfl ⟨_, rfl, ?_, H.base⟩
    rw [decide_eq_false (fun e => by subst e; simp_all)]
   ·skip
    replace h13 := not_false_of h13
    replace h13 := of_decide_eq_true h13
    refine c_skip (t_n ?_)
    refine c_seq ?_
    refine c_reg ?_
    refine sp (.bool true) ?_
    refine c_nil (t_n ?_)
    refine c_ret (?_)
    refine ret1 (.bool true) rfl rfl ⟨_, rfl, ?_, H.base⟩
    rw [decide_eq_true (by cases x; cases y; simp_all)]

end Go.Proofs.Ytkmlihdacnfhdaa
