/- Walks, printed by program (wip/tools/gv.py): what each function comes to, for all arguments. -/
import Derived.Test.YtkmlihdacnfhdaaGreatRows
import Derived.Test.YtkmlihdacnfhdaaGreatR
namespace Go.Proofs.YtkmlihdacnfhdaaGreat
open Go.Proofs.YtkmlihdacnfhdaaGreat.Tot (tot)
open Go.Proofs.YtkmlihdacnfhdaaGreat.Mark (cnt mrk mkd mkd_mark cnt_mark)
open Go.RowKit
set_option linter.unusedVariables false
set_option linter.unusedSimpArgs false
set_option maxRecDepth 100000
set_option maxHeartbeats 4000000

theorem ti2 : TI Tryz.prog 2 (.int .i64 0) 1 8 := by unfold TI; kernel_rfl


theorem inRange_ok (w : World) (n : Int) (lo : Int) (hi : Int) : Calls Tryz.prog 94 #[.int .i64 n, .int .i64 lo, .int .i64 hi] w (Ret (fun v w' => v = .bool (inR n lo hi)) w) := by
 refine enter (n := 15) Tryz.func94 rfl Tryz.ntmps94 (Nat.le_of_ble_eq_true rfl) ?_
 have H := St.start w
 refine qm (qy ?_)
 refine sp (.bool false) ?_
 refine qw (t_n (qm (qy ?_)))
 refine sps [.int .i64 n, .int .i64 lo, .bool (decide ((n : Int) ≥ lo)), .bool (decide ((n : Int) ≥ lo))] ?_
 cases h1 : (decide ((n : Int) ≥ lo))
 ·skip
  replace h1 := of_decide_eq_false h1
  refine xY [11, 12, 13] ?_
  refine sps [.bool false, .bool false] ?_
  refine qw (t_n (xx ?_))
  refine ret1 (.bool false) rfl rfl ⟨_, rfl, ?_, H.base⟩
  rw [inR_no ‹_›]
 replace h1 := of_decide_eq_true h1
 refine qR 10 rfl rfl ?_
 refine sp (.int .i64 n) ?_
 refine qR 10 rfl rfl ?_
 refine sp (.int .i64 hi) ?_
 refine qR 10 rfl rfl ?_
 refine sps [.bool (decide ((n : Int) ≤ hi)), .bool (decide ((n : Int) ≤ hi)), .bool (decide ((n : Int) ≤ hi))] ?_
 refine qw (t_n (xx ?_))
 refine ret1 (.bool (decide ((n : Int) ≤ hi))) rfl rfl ⟨_, rfl, ?_, H.base⟩
 rw [inR_yes ‹_›]

theorem l00In_ok (w : World) (n : Int) (lo : Int) (hi : Int) : Calls Tryz.prog 44 #[.int .i64 n, .int .i64 lo, .int .i64 hi] w (Ret (fun v w' => v = .bool (inR n lo hi)) w) := by
 refine enter (n := 15) Tryz.func44 rfl Tryz.ntmps44 (Nat.le_of_ble_eq_true rfl) ?_
 have H := St.start w
 refine qm (qy ?_)
 refine sp (.bool false) ?_
 refine qw (t_n (qm (qy ?_)))
 refine sps [.int .i64 n, .int .i64 lo, .bool (decide ((n : Int) ≥ lo)), .bool (decide ((n : Int) ≥ lo))] ?_
 cases h1 : (decide ((n : Int) ≥ lo))
 ·skip
  replace h1 := of_decide_eq_false h1
  refine xY [11, 12, 13] ?_
  refine sps [.bool false, .bool false] ?_
  refine qw (t_n (xx ?_))
  refine ret1 (.bool false) rfl rfl ⟨_, rfl, ?_, H.base⟩
  rw [inR_no ‹_›]
 replace h1 := of_decide_eq_true h1
 refine qR 10 rfl rfl ?_
 refine sp (.int .i64 n) ?_
 refine qR 10 rfl rfl ?_
 refine sp (.int .i64 hi) ?_
 refine qR 10 rfl rfl ?_
 refine sps [.bool (decide ((n : Int) ≤ hi)), .bool (decide ((n : Int) ≤ hi)), .bool (decide ((n : Int) ≤ hi))] ?_
 refine qw (t_n (xx ?_))
 refine ret1 (.bool (decide ((n : Int) ≤ hi))) rfl rfl ⟨_, rfl, ?_, H.base⟩
 rw [inR_yes ‹_›]

theorem isWithin_ok (w : World) (l : List Int) (m : List Int) (al : Option Addr) (cl : Nat) (Fl : List Nat) (am : Option Addr) (cm : Nat) (Fm : List Nat) (hl : qQ.rep w Fl [.slice al l.length cl] l) (hm : qQ.rep w Fm [.slice am m.length cm] m) (p0 : l.length ≤ m.length) (p1 : l.length ≤ 1000000) : Calls Tryz.prog 128 #[.slice al l.length cl, .slice am m.length cm] w (Ret (fun v w' => v = .bool (within l m)) w) := by
 refine enter (n := 21) Tryz.func128 rfl Tryz.ntmps128 (Nat.le_of_ble_eq_true rfl) ?_
 have H := ((St.start w).arg hm).arg hl
 have nhl := qJ hl
 have nhm := qJ hm
 clear hl hm
 refine qm (qy ?_)
 refine sp (.bool false) ?_
 refine qw (t_n (qm (qm (qy ?_))))
 refine sp (.slice al l.length cl) ?_
 refine sw (zD Tryz.underlying22 al l.length cl rfl ?_)
 refine sp (.int .i64 0) ?_
 refine qw (t_n (xu ?_))
 refine zG (fun m' ρ w1 => ∃ (junk : Env) (k : Nat), ρ = upd (upd (upd (upd junk 1 (.slice am m.length cm)) 7 (.slice al l.length cl)) 8 (.int .i64 l.length)) 9 (.int .i64 k) ∧ (k ≤ l.length) ∧ (withinTo l m k) ∧ m' = l.length - k ∧ St w w1 [] [isF false Fl (.slice al l.length cl) l, isF false Fm (.slice am m.length cm) m]) (l.length - 0) ⟨_, 0, (by exact qj (qj (qj (qj (rfl) rfl) rfl) rfl) rfl), (by omega), (by exact withinTo_zero l m), rfl, H⟩ ?_
 clear H
 rintro m' ρ w2 ⟨junk, k, rfl, i0, i1, rfl, H⟩
 refine qm (qy ?_)
 refine sp (.bool (decide ((k : Int) < l.length))) ?_
 refine qw (t_n (qm ?_))
 refine qV (decide ((k : Int) < l.length)) rfl (fun h3 => ?_) (fun h3 => ?_)
 ·skip
  replace h3 := of_decide_eq_true h3
  refine xh (t_n (qm (xu (qm (qy ?_)))))
  refine sp (.int .i64 k) ?_
  obtain ⟨b4, o5, rfl⟩ := H.addr 0 rfl (by omega)
  refine sw (xJ k Tryz.underlying22 ti2 rfl rfl (by omega) (by omega) ?_)
  refine sw (qE (.int .i64 (l[k]!)) Tryz.isAgg2 rfl (H.vP 0 rfl k (by omega) (by omega)) ?_)
  refine sps [.int .i64 k, .int .i64 (l[k]!)] ?_
  refine qw (t_n (qm (qy ?_)))
  refine sps [.int .i64 (l[k]!), .slice am m.length cm, .int .i64 k] ?_
  obtain ⟨b6, o7, rfl⟩ := H.addr 1 rfl (by omega)
  refine sw (xJ k Tryz.underlying22 ti2 rfl rfl (by omega) (by omega) ?_)
  refine sw (qE (.int .i64 (m[k]!)) Tryz.isAgg2 rfl (H.vP 1 rfl k (by omega) (by omega)) ?_)
  refine sp (.bool (decide ((l[k]! : Int) > (m[k]!)))) ?_
  refine qw (t_n ?_)
  refine qV (decide ((l[k]! : Int) > (m[k]!))) rfl (fun h8 => ?_) (fun h8 => ?_)
  ·skip
   replace h8 := of_decide_eq_true h8
   refine qm (qy ?_)
   refine sp (.bool false) ?_
   refine qw (t_n (xx (b_r (t_r (t_r (b_r (t_r ?_)))))))
   refine ret1 (.bool false) rfl rfl ⟨_, rfl, ?_, H.base⟩
   rw [within_no (k := k) ‹_› (by omega)]
  replace h8 := of_decide_eq_false h8
  refine xh (b_n (t_n (qy ?_)))
  refine sw (zJ k 1 rfl rfl (by omega) ?_)
  refine sp (.int .i64 (k + 1)) ?_
  refine qw ?_
  refine xF (m' := l.length - (k + 1)) (by omega) ⟨_, k + 1, (by exact qj (qj (qj (qj (rfl) rfl) rfl) rfl) rfl), ?_, ?_, rfl, H⟩
  · omega
  · exact withinTo_succ ‹_› (by omega)
 replace h3 := of_decide_eq_false h3
 refine zy (t_x (t_x (b_x (t_n (qm (qy ?_))))))
 refine sp (.bool true) ?_
 refine qw (t_n (xx ?_))
 refine ret1 (.bool true) rfl rfl ⟨_, rfl, ?_, H.base⟩
 rw [within_yes ‹_› (by omega)]

theorem bagSize_ok (w : World) (l : List Int) (al : Option Addr) (cl : Nat) (Fl : List Nat) (hl : qQ.rep w Fl [.slice al l.length cl] l) (p0 : Small l) : Calls Tryz.prog 124 #[.slice al l.length cl] w (Ret (fun v w' => v = .int .i64 (sumL l)) w) := by
 refine enter (n := 17) Tryz.func124 rfl Tryz.ntmps124 (Nat.le_of_ble_eq_true rfl) ?_
 have H := (St.start w).arg hl
 have nhl := qJ hl
 clear hl
 have p1 := p0.1
 refine qm (qy ?_)
 refine sp (.int .i64 0) ?_
 refine qw (t_n (qm (qy ?_)))
 refine sp (.int .i64 0) ?_
 refine qw (t_n (qm (qm (qy ?_))))
 refine sp (.slice al l.length cl) ?_
 refine sw (zD Tryz.underlying22 al l.length cl rfl ?_)
 refine sp (.int .i64 0) ?_
 refine qw (t_n (xu ?_))
 refine zG (fun m' ρ w1 => ∃ (junk : Env) (k : Nat), ρ = upd (upd (upd (upd (upd junk 2 (.int .i64 0)) 3 (.int .i64 (sumTo l k))) 6 (.slice al l.length cl)) 7 (.int .i64 l.length)) 8 (.int .i64 k) ∧ (k ≤ l.length) ∧ m' = l.length - k ∧ St w w1 [] [isF false Fl (.slice al l.length cl) l]) (l.length - 0) ⟨_, 0, (by exact qj (qj (qj (qj (qj (rfl) rfl) rfl) rfl) rfl) rfl), (by omega), rfl, H⟩ ?_
 clear H
 rintro m' ρ w2 ⟨junk, k, rfl, i0, rfl, H⟩
 have hs := sumTo_small p0 i0
 have hv := p0.2 k
 refine qm (qy ?_)
 refine sp (.bool (decide ((k : Int) < l.length))) ?_
 refine qw (t_n (qm ?_))
 refine qV (decide ((k : Int) < l.length)) rfl (fun h3 => ?_) (fun h3 => ?_)
 ·skip
  replace h3 := of_decide_eq_true h3
  refine xh (t_n (qm (xu (qm (qy ?_)))))
  obtain ⟨b4, o5, rfl⟩ := H.addr 0 rfl (by omega)
  refine sw (xJ k Tryz.underlying22 ti2 rfl rfl (by omega) (by omega) ?_)
  refine sw (qE (.int .i64 (l[k]!)) Tryz.isAgg2 rfl (H.vP 0 rfl k (by omega) (by omega)) ?_)
  refine sp (.int .i64 (l[k]!)) ?_
  refine qw (t_n (qy ?_))
  refine sps [.int .i64 (sumTo l k), .int .i64 (l[k]!)] ?_
  refine sw (zJ (sumTo l k) (l[k]!) rfl rfl (by (have := hv (by omega); omega)) ?_)
  refine sp (.int .i64 ((sumTo l k) + (l[k]!))) ?_
  refine qw (b_n (t_n (qy ?_)))
  refine sw (zJ k 1 rfl rfl (by (have := hv (by omega); omega)) ?_)
  refine sp (.int .i64 (k + 1)) ?_
  refine qw ?_
  refine xF (m' := l.length - (k + 1)) (by omega) ⟨_, k + 1, (by exact qj (qj (qj (qj (qj (rfl) rfl) rfl) rfl) rfl) rfl), ?_, rfl, H⟩
  · omega
 replace h3 := of_decide_eq_false h3
 refine zy (t_x (t_x (b_x (t_n (qm (qy ?_))))))
 refine sps [.int .i64 (sumTo l k), .int .i64 (sumTo l k)] ?_
 refine qw (t_n (xx ?_))
 refine ret1 (.int .i64 (sumTo l k)) rfl rfl ⟨_, rfl, ?_, H.base⟩
 obtain rfl : k = l.length := by omega
 rfl

theorem l01Size_ok (w : World) (l : List Int) (al : Option Addr) (cl : Nat) (Fl : List Nat) (hl : qQ.rep w Fl [.slice al l.length cl] l) (p0 : Small l) : Calls Tryz.prog 137 #[.slice al l.length cl] w (Ret (fun v w' => v = .int .i64 (sumL l)) w) := by
 refine enter (n := 18) Tryz.func137 rfl Tryz.ntmps137 (Nat.le_of_ble_eq_true rfl) ?_
 have H := (St.start w).arg hl
 have nhl := qJ hl
 clear hl
 have p1 := p0.1
 refine qm (qy ?_)
 refine sp (.int .i64 0) ?_
 refine qw (t_n (qm (qy ?_)))
 refine sp (.int .i64 0) ?_
 refine qw (t_n (qm (qm (qy ?_))))
 refine sp (.int .i64 0) ?_
 refine qw (t_n (xu ?_))
 refine zG (fun m' ρ w1 => ∃ (junk : Env) (k : Nat), ρ = upd (upd (upd (upd junk 0 (.slice al l.length cl)) 2 (.int .i64 0)) 3 (.int .i64 (sumTo l k))) 4 (.int .i64 k) ∧ (k ≤ l.length) ∧ m' = l.length - k ∧ St w w1 [] [isF false Fl (.slice al l.length cl) l]) (l.length - 0) ⟨_, 0, (by exact qj (qj (qj (qj (rfl) rfl) rfl) rfl) rfl), (by omega), rfl, H⟩ ?_
 clear H
 rintro m' ρ w2 ⟨junk, k, rfl, i0, rfl, H⟩
 have hs := sumTo_small p0 i0
 have hv := p0.2 k
 refine qm (qm (qy ?_))
 refine sps [.int .i64 k, .slice al l.length cl] ?_
 refine sw (zD Tryz.underlying22 al l.length cl rfl ?_)
 refine sp (.bool (decide ((k : Int) < l.length))) ?_
 refine qw (t_n ?_)
 refine qV (decide ((k : Int) < l.length)) rfl (fun h3 => ?_) (fun h3 => ?_)
 ·skip
  replace h3 := of_decide_eq_true h3
  refine xh (t_n (qm (xu (qy ?_))))
  refine sps [.int .i64 (sumTo l k), .slice al l.length cl, .int .i64 k] ?_
  obtain ⟨b4, o5, rfl⟩ := H.addr 0 rfl (by omega)
  refine sw (xJ k Tryz.underlying22 ti2 rfl rfl (by omega) (by omega) ?_)
  refine sw (qE (.int .i64 (l[k]!)) Tryz.isAgg2 rfl (H.vP 0 rfl k (by omega) (by omega)) ?_)
  refine sw (zJ (sumTo l k) (l[k]!) rfl rfl (by (have := hv (by omega); omega)) ?_)
  refine sp (.int .i64 ((sumTo l k) + (l[k]!))) ?_
  refine qw (b_n (t_n (qy ?_)))
  refine sp (.int .i64 k) ?_
  refine sw (zJ k 1 rfl rfl (by (have := hv (by omega); omega)) ?_)
  refine sp (.int .i64 (k + 1)) ?_
  refine qw ?_
  refine xF (m' := l.length - (k + 1)) (by omega) ⟨_, k + 1, (by exact qj (qj (qj (qj (rfl) rfl) rfl) rfl) rfl), ?_, rfl, H⟩
  · omega
 replace h3 := of_decide_eq_false h3
 refine zy (t_x (t_x (b_x (t_n (qm (qy ?_))))))
 refine sps [.int .i64 (sumTo l k), .int .i64 (sumTo l k)] ?_
 refine qw (t_n (xx ?_))
 refine ret1 (.int .i64 (sumTo l k)) rfl rfl ⟨_, rfl, ?_, H.base⟩
 obtain rfl : k = l.length := by omega
 rfl

theorem indexFuncI_ok (w : World) (l : List Int) (f : FuncId) (capsf : Array Value) (gf : Nat → Bool) (al : Option Addr) (cl : Nat) (Fl : List Nat) (hl : qQ.rep w Fl [.slice al l.length cl] l) (hff : ∀ args w, (callFunc f args).run Tryz.prog w = .ok (.enter f args) w) (hoff : ∀ k w', k < l.length → Ext w w' → Calls Tryz.prog f (([.int .i64 (l[k]!)] : List Value) ++ capsf.toList).toArray w' (Ret (fun v _ => v = .bool (gf k)) w')) : Calls Tryz.prog 151 #[.slice al l.length cl, .func (.func f) #[] capsf] w (Ret (fun v w' => v = .int .i64 (firstIdx gf l.length)) w) := by
 refine enter (n := 19) Tryz.func151 rfl Tryz.ntmps151 (Nat.le_of_ble_eq_true rfl) ?_
 have H := (St.start w).arg hl
 have nhl := qJ hl
 clear hl
 refine qm (qy ?_)
 refine sp (.int .i64 0) ?_
 refine qw (t_n (qm (qm (qy ?_))))
 refine sp (.slice al l.length cl) ?_
 refine sw (zD Tryz.underlying22 al l.length cl rfl ?_)
 refine sp (.int .i64 0) ?_
 refine qw (t_n (xu ?_))
 refine zG (fun m' ρ w1 => ∃ (junk : Env) (k : Nat), ρ = upd (upd (upd (upd junk 0 (.slice al l.length cl)) 1 (.func (.func f) #[] capsf)) 7 (.int .i64 l.length)) 8 (.int .i64 k) ∧ (k ≤ l.length) ∧ (noneTo gf k) ∧ m' = l.length - k ∧ St w w1 [] [isF false Fl (.slice al l.length cl) l]) (l.length - 0) ⟨_, 0, (by exact qj (qj (qj (qj (rfl) rfl) rfl) rfl) rfl), (by omega), (by exact fun j hj => by omega), rfl, H⟩ ?_
 clear H
 rintro m' ρ w2 ⟨junk, k, rfl, i0, i1, rfl, H⟩
 refine qm (qy ?_)
 refine sp (.bool (decide ((k : Int) < l.length))) ?_
 refine qw (t_n (qm ?_))
 refine qV (decide ((k : Int) < l.length)) rfl (fun h3 => ?_) (fun h3 => ?_)
 ·skip
  replace h3 := of_decide_eq_true h3
  refine xh (t_n (qm (xu (qm (qy ?_)))))
  refine sps [.int .i64 k, .int .i64 k] ?_
  refine qw (t_n (qm (qy ?_)))
  refine sps [.func (.func f) #[] capsf, .slice al l.length cl, .int .i64 k] ?_
  obtain ⟨b4, o5, rfl⟩ := H.addr 0 rfl (by omega)
  refine sw (xJ k Tryz.underlying22 ti2 rfl rfl (by omega) (by omega) ?_)
  refine sw (qE (.int .i64 (l[k]!)) Tryz.isAgg2 rfl (H.vP 0 rfl k (by omega) (by omega)) ?_)
  refine sw (o_callV [.int .i64 (l[k]!)] rfl rfl hff (hoff k _ (by omega) H.base) ?_)
  rintro _ w6 rfl x7
  replace H := H.ext x7
  refine qw (t_n ?_)
  refine qV (gf k) rfl (fun h8 => ?_) (fun h8 => ?_)
  ·skip
   refine qm (qy ?_)
   refine sps [.int .i64 k, .int .i64 k] ?_
   refine qw (t_n (xx (b_r (t_r (t_r (b_r (t_r ?_)))))))
   refine ret1 (.int .i64 k) rfl rfl ⟨_, rfl, ?_, H.base⟩
   rw [firstIdx_some (k := k) (by omega) i1 ‹_›]
  refine xh (b_n (t_n (qy ?_)))
  refine sw (zJ k 1 rfl rfl (by omega) ?_)
  refine sp (.int .i64 (k + 1)) ?_
  refine qw ?_
  refine xF (m' := l.length - (k + 1)) (by omega) ⟨_, k + 1, (by exact qj (qj (qj (qj (rfl) rfl) rfl) rfl) rfl), ?_, ?_, rfl, H⟩
  · omega
  · exact noneTo_succ ‹_› ‹_›
 replace h3 := of_decide_eq_false h3
 refine zy (t_x (t_x (b_x (t_n (qm (qy ?_))))))
 refine sp (.int .i64 (-1)) ?_
 refine qw (t_n (xx ?_))
 refine ret1 (.int .i64 (-1)) rfl rfl ⟨_, rfl, ?_, H.base⟩
 rw [firstIdx_none (fun j hj => i1 j (by omega))]

theorem containsFuncI_ok (w : World) (l : List Int) (f : FuncId) (capsf : Array Value) (gf : Nat → Bool) (al : Option Addr) (cl : Nat) (Fl : List Nat) (hl : qQ.rep w Fl [.slice al l.length cl] l) (hff : ∀ args w, (callFunc f args).run Tryz.prog w = .ok (.enter f args) w) (hoff : ∀ k w', k < l.length → Ext w w' → Calls Tryz.prog f (([.int .i64 (l[k]!)] : List Value) ++ capsf.toList).toArray w' (Ret (fun v _ => v = .bool (gf k)) w')) : Calls Tryz.prog 116 #[.slice al l.length cl, .func (.func f) #[] capsf] w (Ret (fun v w' => v = .bool (anyTo gf l.length)) w) := by
 refine enter (n := 9) Tryz.func116 rfl Tryz.ntmps116 (Nat.le_of_ble_eq_true rfl) ?_
 have H := (St.start w).arg hl
 have nhl := qJ hl
 clear hl
 refine qm (qy ?_)
 refine sp (.bool false) ?_
 refine qw (t_n (qm (qy ?_)))
 refine sps [.slice al l.length cl, .func (.func f) #[] capsf] ?_
 refine sw (xf #[.slice al l.length cl, .func (.func f) #[] capsf] rfl rfl Tryz.call151 (indexFuncI_ok w l f capsf gf al cl Fl (H.get 0 rfl).1 hff hoff) ?_)
 rintro _ w1 rfl x2
 replace H := H.ext x2
 refine sps [.bool (decide ((firstIdx gf l.length : Int) ≥ 0)), .bool (decide ((firstIdx gf l.length : Int) ≥ 0))] ?_
 refine qw (t_n (xx ?_))
 refine ret1 (.bool (decide ((firstIdx gf l.length : Int) ≥ 0))) rfl rfl ⟨_, rfl, ?_, H.base⟩
 rw [anyTo_first]

theorem validBag1_ok (w : World) (n : Int) : Calls Tryz.prog 154 #[.int .i64 n] w (Ret (fun v w' => v = .bool (!isCnt n)) w) := by
 refine enter (n := 6) Tryz.func154 rfl Tryz.ntmps154 (Nat.le_of_ble_eq_true rfl) ?_
 have H := St.start w
 refine qm (qy ?_)
 refine sp (.bool false) ?_
 refine qw (t_n (qm (qy ?_)))
 refine sp (.int .i64 n) ?_
 refine sw (xf #[.int .i64 n, .int .i64 0, .int .i64 1000] rfl rfl Tryz.call94 (inRange_ok w n 0 1000) ?_)
 rintro _ w1 rfl x2
 replace H := H.ext x2
 refine sps [.bool (!(inR n 0 1000)), .bool (!(inR n 0 1000))] ?_
 refine qw (t_n (xx ?_))
 refine ret1 (.bool (!(inR n 0 1000))) rfl rfl ⟨_, rfl, ?_, H.base⟩
 rfl

theorem sizeI_ok (w : World) (l : List Int) (al : Option Addr) (cl : Nat) (Fl : List Nat) (hl : qQ.rep w Fl [.slice al l.length cl] l) : Calls Tryz.prog 95 #[.slice al l.length cl] w (Ret (fun v w' => v = .int .i64 (l.length : Int)) w) := by
 refine enter (n := 5) Tryz.func95 rfl Tryz.ntmps95 (Nat.le_of_ble_eq_true rfl) ?_
 have H := (St.start w).arg hl
 have nhl := qJ hl
 clear hl
 refine qm (qy ?_)
 refine sp (.int .i64 0) ?_
 refine qw (t_n (qm (qy ?_)))
 refine sp (.slice al l.length cl) ?_
 refine sw (zD Tryz.underlying22 al l.length cl rfl ?_)
 refine sp (.int .i64 l.length) ?_
 refine qw (t_n (xx ?_))
 refine ret1 (.int .i64 l.length) rfl rfl ⟨_, rfl, ?_, H.base⟩
 rfl

theorem validBag_ok (w : World) (kinds : Int) (l : List Int) (al : Option Addr) (cl : Nat) (Fl : List Nat) (hl : qQ.rep w Fl [.slice al l.length cl] l) : Calls Tryz.prog 123 #[.int .i64 kinds, .slice al l.length cl] w (Ret (fun v w' => v = .bool (dec (zK kinds l))) w) := by
 refine enter (n := 18) Tryz.func123 rfl Tryz.ntmps123 (Nat.le_of_ble_eq_true rfl) ?_
 have H := (St.start w).arg hl
 have nhl := qJ hl
 clear hl
 refine qm (qy ?_)
 refine sp (.bool false) ?_
 refine qw (t_n (qm (qy ?_)))
 refine sp (.int .i64 kinds) ?_
 refine sw (xf #[.int .i64 kinds, .int .i64 1, .int .i64 8] rfl rfl Tryz.call94 (inRange_ok w kinds 1 8) ?_)
 rintro _ w1 rfl x2
 replace H := H.ext x2
 refine sp (.bool (inR kinds 1 8)) ?_
 cases h3 : (inR kinds 1 8)
 ·skip
  replace h3 := Vd h3
  refine xY [8, 9, 10, 11] ?_
  refine sps [.bool false, .bool false] ?_
  refine xY [14, 15, 16] ?_
  refine sps [.bool false, .bool false] ?_
  refine qw (t_n (xx ?_))
  refine ret1 (.bool false) rfl rfl ⟨_, rfl, ?_, H.base⟩
  rw [xA (fun h => by have := h.1.2; have := h.2; omega)]
 replace h3 := Xp.1 h3
 refine qR 7 rfl rfl ?_
 refine sp (.slice al l.length cl) ?_
 refine qR 7 rfl rfl ?_
 refine sw (xf #[.slice al l.length cl] rfl rfl Tryz.call95 (sizeI_ok w1 l al cl Fl (H.get 0 rfl).1) ?_)
 rintro _ w4 rfl x5
 replace H := H.ext x5
 refine qR 7 rfl rfl ?_
 refine sp (.int .i64 kinds) ?_
 refine qR 7 rfl rfl ?_
 refine sps [.bool (((l.length : Int) : Int) == kinds), .bool (((l.length : Int) : Int) == kinds), .bool (((l.length : Int) : Int) == kinds)] ?_
 cases h6 : (((l.length : Int) : Int) == kinds)
 ·skip
  replace h6 := ne_of_beq_false h6
  refine xY [14, 15, 16] ?_
  refine sps [.bool false, .bool false] ?_
  refine qw (t_n (xx ?_))
  refine ret1 (.bool false) rfl rfl ⟨_, rfl, ?_, H.base⟩
  rw [xA (fun h => by have := h.1.2; have := h.2; omega)]
 replace h6 := eq_of_beq h6
 refine qR 13 rfl rfl ?_
 refine sp (.slice al l.length cl) ?_
 refine qR 13 rfl rfl ?_
 refine sw (xf #[.slice al l.length cl, .func (.func 154) #[] #[]] rfl rfl Tryz.call116 (containsFuncI_ok w4 l 154 #[] (fun k => !isCnt (l[k]!)) al cl Fl (H.get 0 rfl).1 Tryz.call154 (fun k w' hk e => validBag1_ok w' _)) ?_)
 rintro _ w7 rfl x8
 replace H := H.ext x8
 refine qR 13 rfl rfl ?_
 refine sps [.bool (!(anyTo (fun k => !isCnt (l[k]!)) l.length)), .bool (!(anyTo (fun k => !isCnt (l[k]!)) l.length)), .bool (!(anyTo (fun k => !isCnt (l[k]!)) l.length))] ?_
 refine qw (t_n (xx ?_))
 refine ret1 (.bool (!(anyTo (fun k => !isCnt (l[k]!)) l.length))) rfl rfl ⟨_, rfl, ?_, H.base⟩
 refine congrArg Value.bool (dec_eq ?_)
 rw [anyCnt_iff]
 exact ⟨fun h => ⟨⟨h, by omega, by omega⟩, by omega⟩, fun h => h.1.1⟩

end Go.Proofs.YtkmlihdacnfhdaaGreat
