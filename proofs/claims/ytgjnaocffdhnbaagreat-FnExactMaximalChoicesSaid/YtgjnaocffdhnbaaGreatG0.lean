/- Walks, printed by program (wip/tools/gv.py): what each function comes to, for all arguments. -/
import Derived.Test.YtgjnaocffdhnbaaGreatRows
import Derived.Test.YtgjnaocffdhnbaaGreatR
import Derived.Test.YtgjnaocffdhnbaaGreatI
import Derived.Test.YtgjnaocffdhnbaaGreatTI
namespace Go.Proofs.YtgjnaocffdhnbaaGreat
set_option linter.unusedVariables false
set_option linter.unusedSimpArgs false
open Go.Proofs.YtgjnaocffdhnbaaGreat.Tot (tot)
open Go.Proofs.YtgjnaocffdhnbaaGreat.Mark (cnt mrk mkd mkd_mark cnt_mark)
open Go.RowKit
set_option linter.unusedVariables false
set_option linter.unusedSimpArgs false
set_option maxRecDepth 100000
set_option maxHeartbeats 4000000

instance iS22_G0 : SliC Tryz.prog 22 2 := ⟨Tryz.underlying22⟩
instance iT2_G0 : TIC Tryz.prog 2 (.int .i64 0) 1 8 := ⟨ti2⟩
instance iA2_G0 : SclC Tryz.prog 2 := ⟨Tryz.isAgg2⟩
instance iC175_G0 : Qn Tryz.prog 175 := ⟨Tryz.call175⟩
instance iC78_G0 : Qn Tryz.prog 78 := ⟨Tryz.call78⟩
instance iC92_G0 : Qn Tryz.prog 92 := ⟨Tryz.call92⟩
instance iC140_G0 : Qn Tryz.prog 140 := ⟨Tryz.call140⟩


theorem XD (w : World) (n : Int) (lo : Int) (hi : Int) : Calls Tryz.prog 78 #[.int .i64 n, .int .i64 lo, .int .i64 hi] w (Ret (fun v w' => v = .bool (inR n lo hi)) w) := by
 refine en Tryz.func78 Tryz.ntmps78 ?_
 have H := St.start w
 refine qi (ql ?_)
 refine sp (.bool false) ?_
 refine qj (t_n (qi (ql ?_)))
 refine sps [.int .i64 n, .int .i64 lo, .bool (decide ((n : Int) ≥ lo)), .bool (decide ((n : Int) ≥ lo))] ?_
 cases h1 : (decide ((n : Int) ≥ lo))
 ·skip
  replace h1 := of_decide_eq_false h1
  refine xF [11, 12, 13] ?_
  refine sps [.bool false, .bool false] ?_
  refine qj (t_n (qV ?_))
  refine ret1 (.bool false) rfl rfl ⟨_, rfl, ?_, H.base⟩
  rw [inR_no ‹_›]
 replace h1 := of_decide_eq_true h1
 refine qB 10 rfl rfl ?_
 refine sp (.int .i64 n) ?_
 refine qB 10 rfl rfl ?_
 refine sp (.int .i64 hi) ?_
 refine qB 10 rfl rfl ?_
 refine sps [.bool (decide ((n : Int) ≤ hi)), .bool (decide ((n : Int) ≤ hi)), .bool (decide ((n : Int) ≤ hi))] ?_
 refine qj (t_n (qV ?_))
 refine ret1 (.bool (decide ((n : Int) ≤ hi))) rfl rfl ⟨_, rfl, ?_, H.base⟩
 rw [inR_yes ‹_›]

theorem l00In_ok (w : World) (n : Int) (lo : Int) (hi : Int) : Calls Tryz.prog 75 #[.int .i64 n, .int .i64 lo, .int .i64 hi] w (Ret (fun v w' => v = .bool (inR n lo hi)) w) := by
 refine en Tryz.func75 Tryz.ntmps75 ?_
 have H := St.start w
 refine qi (ql ?_)
 refine sp (.bool false) ?_
 refine qj (t_n (qi (ql ?_)))
 refine sps [.int .i64 n, .int .i64 lo, .bool (decide ((n : Int) ≥ lo)), .bool (decide ((n : Int) ≥ lo))] ?_
 cases h1 : (decide ((n : Int) ≥ lo))
 ·skip
  replace h1 := of_decide_eq_false h1
  refine xF [11, 12, 13] ?_
  refine sps [.bool false, .bool false] ?_
  refine qj (t_n (qV ?_))
  refine ret1 (.bool false) rfl rfl ⟨_, rfl, ?_, H.base⟩
  rw [inR_no ‹_›]
 replace h1 := of_decide_eq_true h1
 refine qB 10 rfl rfl ?_
 refine sp (.int .i64 n) ?_
 refine qB 10 rfl rfl ?_
 refine sp (.int .i64 hi) ?_
 refine qB 10 rfl rfl ?_
 refine sps [.bool (decide ((n : Int) ≤ hi)), .bool (decide ((n : Int) ≤ hi)), .bool (decide ((n : Int) ≤ hi))] ?_
 refine qj (t_n (qV ?_))
 refine ret1 (.bool (decide ((n : Int) ≤ hi))) rfl rfl ⟨_, rfl, ?_, H.base⟩
 rw [inR_yes ‹_›]

theorem isWithin_ok (w : World) (l : List Int) (m : List Int) (al : Option Addr) (cl : Nat) (Fl : List Nat) (am : Option Addr) (cm : Nat) (Fm : List Nat) (hl : qE.rep w Fl [.slice al l.length cl] l) (hm : qE.rep w Fm [.slice am m.length cm] m) (p0 : l.length ≤ m.length) (p1 : l.length ≤ 1000000) : Calls Tryz.prog 185 #[.slice al l.length cl, .slice am m.length cm] w (Ret (fun v w' => v = .bool (within l m)) w) := by
 refine en Tryz.func185 Tryz.ntmps185 ?_
 have H := ((St.start w).arg hm).arg hl
 have nhl := qA hl
 have nhm := qA hm
 clear hl hm
 refine qi (ql ?_)
 refine sp (.bool false) ?_
 refine qj (t_n (qi (qi (ql ?_))))
 refine sp (.slice al l.length cl) ?_
 refine oN rfl ?_
 refine sp (.int .i64 0) ?_
 refine qj (t_n (qW ?_))
 refine zf (fun m' ρ w1 => ∃ (junk : Env) (k : Nat), ρ = upd (upd (upd (upd junk 1 (.slice am m.length cm)) 7 (.slice al l.length cl)) 8 (.int .i64 l.length)) 9 (.int .i64 k) ∧ (k ≤ l.length) ∧ (withinTo l m k) ∧ m' = l.length - k ∧ St w w1 [] [isF false Fl (.slice al l.length cl) l, isF false Fm (.slice am m.length cm) m]) (l.length - 0) ⟨_, 0, (by exact qg (qg (qg (qg (rfl) rfl) rfl) rfl) rfl), (by omega), (by exact withinTo_zero l m), rfl, H⟩ ?_
 clear H
 rintro m' ρ w2 ⟨junk, k, rfl, i0, i1, rfl, H⟩
 refine qi (ql ?_)
 refine sp (.bool (decide ((k : Int) < l.length))) ?_
 refine qj (t_n (qi ?_))
 refine qC (decide ((k : Int) < l.length)) rfl (fun h3 => ?_) (fun h3 => ?_)
 ·skip
  replace h3 := of_decide_eq_true h3
  refine qM (t_n (qi (qW (qi (ql ?_)))))
  refine sp (.int .i64 k) ?_
  obtain ⟨b4, o5, rfl⟩ := H.addr 0 rfl (by omega)
  refine oI rfl rfl ?_
  refine oL rfl (H.vT 0 rfl k (by omega) (by omega)) ?_
  refine sps [.int .i64 k, .int .i64 (l[k]!)] ?_
  refine qj (t_n (qi (ql ?_)))
  refine sps [.int .i64 (l[k]!), .slice am m.length cm, .int .i64 k] ?_
  obtain ⟨b6, o7, rfl⟩ := H.addr 1 rfl (by omega)
  refine oI rfl rfl ?_
  refine oL rfl (H.vT 1 rfl k (by omega) (by omega)) ?_
  refine sp (.bool (decide ((l[k]! : Int) > (m[k]!)))) ?_
  refine qj (t_n ?_)
  refine qC (decide ((l[k]! : Int) > (m[k]!))) rfl (fun h8 => ?_) (fun h8 => ?_)
  ·skip
   replace h8 := of_decide_eq_true h8
   refine qi (ql ?_)
   refine sp (.bool false) ?_
   refine qj (t_n (qV (b_r (t_r (t_r (b_r (t_r ?_)))))))
   refine ret1 (.bool false) rfl rfl ⟨_, rfl, ?_, H.base⟩
   rw [within_no (k := k) ‹_› (by omega)]
  replace h8 := of_decide_eq_false h8
  refine qM (b_n (t_n (ql ?_)))
  refine sw (zk k 1 rfl rfl (by omega) ?_)
  refine sp (.int .i64 (k + 1)) ?_
  refine qj ?_
  refine xk (m' := l.length - (k + 1)) (by omega) ⟨_, k + 1, (by exact qg (qg (qg (qg (rfl) rfl) rfl) rfl) rfl), ?_, ?_, rfl, H⟩
  · omega
  · exact withinTo_succ ‹_› (by omega)
 replace h3 := of_decide_eq_false h3
 refine xQ (t_x (t_x (b_x (t_n (qi (ql ?_))))))
 refine sp (.bool true) ?_
 refine qj (t_n (qV ?_))
 refine ret1 (.bool true) rfl rfl ⟨_, rfl, ?_, H.base⟩
 rw [within_yes ‹_› (by omega)]

theorem QV (w : World) (l : List Int) (al : Option Addr) (cl : Nat) (Fl : List Nat) (hl : qE.rep w Fl [.slice al l.length cl] l) (p0 : Small l) : Calls Tryz.prog 106 #[.slice al l.length cl] w (Ret (fun v w' => v = .int .i64 (Qz l)) w) := by
 refine en Tryz.func106 Tryz.ntmps106 ?_
 have H := (St.start w).arg hl
 have nhl := qA hl
 clear hl
 have p1 := p0.1
 refine qi (ql ?_)
 refine sp (.int .i64 0) ?_
 refine qj (t_n (qi (ql ?_)))
 refine sp (.int .i64 0) ?_
 refine qj (t_n (qi (qi (ql ?_))))
 refine sp (.slice al l.length cl) ?_
 refine oN rfl ?_
 refine sp (.int .i64 0) ?_
 refine qj (t_n (qW ?_))
 refine zf (fun m' ρ w1 => ∃ (junk : Env) (k : Nat), ρ = upd (upd (upd (upd (upd junk 2 (.int .i64 0)) 3 (.int .i64 (sumTo l k))) 6 (.slice al l.length cl)) 7 (.int .i64 l.length)) 8 (.int .i64 k) ∧ (k ≤ l.length) ∧ m' = l.length - k ∧ St w w1 [] [isF false Fl (.slice al l.length cl) l]) (l.length - 0) ⟨_, 0, (by exact qg (qg (qg (qg (qg (rfl) rfl) rfl) rfl) rfl) rfl), (by omega), rfl, H⟩ ?_
 clear H
 rintro m' ρ w2 ⟨junk, k, rfl, i0, rfl, H⟩
 have hs := sumTo_small p0 i0
 have hv := p0.2 k
 refine qi (ql ?_)
 refine sp (.bool (decide ((k : Int) < l.length))) ?_
 refine qj (t_n (qi ?_))
 refine qC (decide ((k : Int) < l.length)) rfl (fun h3 => ?_) (fun h3 => ?_)
 ·skip
  replace h3 := of_decide_eq_true h3
  refine qM (t_n (qi (qW (qi (ql ?_)))))
  obtain ⟨b4, o5, rfl⟩ := H.addr 0 rfl (by omega)
  refine oI rfl rfl ?_
  refine oL rfl (H.vT 0 rfl k (by omega) (by omega)) ?_
  refine sp (.int .i64 (l[k]!)) ?_
  refine qj (t_n (ql ?_))
  refine sps [.int .i64 (sumTo l k), .int .i64 (l[k]!)] ?_
  refine sw (zk (sumTo l k) (l[k]!) rfl rfl (by (have := hv (by omega); omega)) ?_)
  refine sp (.int .i64 ((sumTo l k) + (l[k]!))) ?_
  refine qj (b_n (t_n (ql ?_)))
  refine sw (zk k 1 rfl rfl (by (have := hv (by omega); omega)) ?_)
  refine sp (.int .i64 (k + 1)) ?_
  refine qj ?_
  refine xk (m' := l.length - (k + 1)) (by omega) ⟨_, k + 1, (by exact qg (qg (qg (qg (qg (rfl) rfl) rfl) rfl) rfl) rfl), ?_, rfl, H⟩
  · omega
 replace h3 := of_decide_eq_false h3
 refine xQ (t_x (t_x (b_x (t_n (qi (ql ?_))))))
 refine sps [.int .i64 (sumTo l k), .int .i64 (sumTo l k)] ?_
 refine qj (t_n (qV ?_))
 refine ret1 (.int .i64 (sumTo l k)) rfl rfl ⟨_, rfl, ?_, H.base⟩
 obtain rfl : k = l.length := by omega
 rfl

theorem XC (w : World) (l : List Int) (al : Option Addr) (cl : Nat) (Fl : List Nat) (hl : qE.rep w Fl [.slice al l.length cl] l) (p0 : Small l) : Calls Tryz.prog 123 #[.slice al l.length cl] w (Ret (fun v w' => v = .int .i64 (Qz l)) w) := by
 refine en Tryz.func123 Tryz.ntmps123 ?_
 have H := (St.start w).arg hl
 have nhl := qA hl
 clear hl
 have p1 := p0.1
 refine qi (ql ?_)
 refine sp (.int .i64 0) ?_
 refine qj (t_n (qi (ql ?_)))
 refine sp (.int .i64 0) ?_
 refine qj (t_n (qi (qi (ql ?_))))
 refine sp (.int .i64 0) ?_
 refine qj (t_n (qW ?_))
 refine zf (fun m' ρ w1 => ∃ (junk : Env) (k : Nat), ρ = upd (upd (upd (upd junk 0 (.slice al l.length cl)) 2 (.int .i64 0)) 3 (.int .i64 (sumTo l k))) 4 (.int .i64 k) ∧ (k ≤ l.length) ∧ m' = l.length - k ∧ St w w1 [] [isF false Fl (.slice al l.length cl) l]) (l.length - 0) ⟨_, 0, (by exact qg (qg (qg (qg (rfl) rfl) rfl) rfl) rfl), (by omega), rfl, H⟩ ?_
 clear H
 rintro m' ρ w2 ⟨junk, k, rfl, i0, rfl, H⟩
 have hs := sumTo_small p0 i0
 have hv := p0.2 k
 refine qi (qi (ql ?_))
 refine sps [.int .i64 k, .slice al l.length cl] ?_
 refine oN rfl ?_
 refine sp (.bool (decide ((k : Int) < l.length))) ?_
 refine qj (t_n ?_)
 refine qC (decide ((k : Int) < l.length)) rfl (fun h3 => ?_) (fun h3 => ?_)
 ·skip
  replace h3 := of_decide_eq_true h3
  refine qM (t_n (qi (qW (ql ?_))))
  refine sps [.int .i64 (sumTo l k), .slice al l.length cl, .int .i64 k] ?_
  obtain ⟨b4, o5, rfl⟩ := H.addr 0 rfl (by omega)
  refine oI rfl rfl ?_
  refine oL rfl (H.vT 0 rfl k (by omega) (by omega)) ?_
  refine sw (zk (sumTo l k) (l[k]!) rfl rfl (by (have := hv (by omega); omega)) ?_)
  refine sp (.int .i64 ((sumTo l k) + (l[k]!))) ?_
  refine qj (b_n (t_n (ql ?_)))
  refine sp (.int .i64 k) ?_
  refine sw (zk k 1 rfl rfl (by (have := hv (by omega); omega)) ?_)
  refine sp (.int .i64 (k + 1)) ?_
  refine qj ?_
  refine xk (m' := l.length - (k + 1)) (by omega) ⟨_, k + 1, (by exact qg (qg (qg (qg (rfl) rfl) rfl) rfl) rfl), ?_, rfl, H⟩
  · omega
 replace h3 := of_decide_eq_false h3
 refine xQ (t_x (t_x (b_x (t_n (qi (ql ?_))))))
 refine sps [.int .i64 (sumTo l k), .int .i64 (sumTo l k)] ?_
 refine qj (t_n (qV ?_))
 refine ret1 (.int .i64 (sumTo l k)) rfl rfl ⟨_, rfl, ?_, H.base⟩
 obtain rfl : k = l.length := by omega
 rfl

theorem indexFuncI_ok (w : World) (l : List Int) (f : FuncId) (capsf : Array Value) (gf : Nat → Bool) (al : Option Addr) (cl : Nat) (Fl : List Nat) (hl : qE.rep w Fl [.slice al l.length cl] l) (hff : ∀ args w, (callFunc f args).run Tryz.prog w = .ok (.enter f args) w) (hoff : ∀ k w', k < l.length → Ext w w' → Calls Tryz.prog f (([.int .i64 (l[k]!)] : List Value) ++ capsf.toList).toArray w' (Ret (fun v _ => v = .bool (gf k)) w')) : Calls Tryz.prog 175 #[.slice al l.length cl, .func (.func f) #[] capsf] w (Ret (fun v w' => v = .int .i64 (firstIdx gf l.length)) w) := by
 refine en Tryz.func175 Tryz.ntmps175 ?_
 have H := (St.start w).arg hl
 have nhl := qA hl
 clear hl
 refine qi (ql ?_)
 refine sp (.int .i64 0) ?_
 refine qj (t_n (qi (qi (ql ?_))))
 refine sp (.slice al l.length cl) ?_
 refine oN rfl ?_
 refine sp (.int .i64 0) ?_
 refine qj (t_n (qW ?_))
 refine zf (fun m' ρ w1 => ∃ (junk : Env) (k : Nat), ρ = upd (upd (upd (upd junk 0 (.slice al l.length cl)) 1 (.func (.func f) #[] capsf)) 7 (.int .i64 l.length)) 8 (.int .i64 k) ∧ (k ≤ l.length) ∧ (noneTo gf k) ∧ m' = l.length - k ∧ St w w1 [] [isF false Fl (.slice al l.length cl) l]) (l.length - 0) ⟨_, 0, (by exact qg (qg (qg (qg (rfl) rfl) rfl) rfl) rfl), (by omega), (by exact fun j hj => by omega), rfl, H⟩ ?_
 clear H
 rintro m' ρ w2 ⟨junk, k, rfl, i0, i1, rfl, H⟩
 refine qi (ql ?_)
 refine sp (.bool (decide ((k : Int) < l.length))) ?_
 refine qj (t_n (qi ?_))
 refine qC (decide ((k : Int) < l.length)) rfl (fun h3 => ?_) (fun h3 => ?_)
 ·skip
  replace h3 := of_decide_eq_true h3
  refine qM (t_n (qi (qW (qi (ql ?_)))))
  refine sps [.int .i64 k, .int .i64 k] ?_
  refine qj (t_n (qi (ql ?_)))
  refine sps [.func (.func f) #[] capsf, .slice al l.length cl, .int .i64 k] ?_
  obtain ⟨b4, o5, rfl⟩ := H.addr 0 rfl (by omega)
  refine oI rfl rfl ?_
  refine oL rfl (H.vT 0 rfl k (by omega) (by omega)) ?_
  refine sw (o_callV [.int .i64 (l[k]!)] rfl rfl hff (hoff k _ (by omega) H.base) ?_)
  rintro _ w6 rfl x7
  replace H := H.ext x7
  refine qj (t_n ?_)
  refine qC (gf k) rfl (fun h8 => ?_) (fun h8 => ?_)
  ·skip
   refine qi (ql ?_)
   refine sps [.int .i64 k, .int .i64 k] ?_
   refine qj (t_n (qV (b_r (t_r (t_r (b_r (t_r ?_)))))))
   refine ret1 (.int .i64 k) rfl rfl ⟨_, rfl, ?_, H.base⟩
   rw [firstIdx_some (k := k) (by omega) i1 ‹_›]
  refine qM (b_n (t_n (ql ?_)))
  refine sw (zk k 1 rfl rfl (by omega) ?_)
  refine sp (.int .i64 (k + 1)) ?_
  refine qj ?_
  refine xk (m' := l.length - (k + 1)) (by omega) ⟨_, k + 1, (by exact qg (qg (qg (qg (rfl) rfl) rfl) rfl) rfl), ?_, ?_, rfl, H⟩
  · omega
  · exact noneTo_succ ‹_› ‹_›
 replace h3 := of_decide_eq_false h3
 refine xQ (t_x (t_x (b_x (t_n (qi (ql ?_))))))
 refine sp (.int .i64 (-1)) ?_
 refine qj (t_n (qV ?_))
 refine ret1 (.int .i64 (-1)) rfl rfl ⟨_, rfl, ?_, H.base⟩
 rw [firstIdx_none (fun j hj => i1 j (by omega))]

theorem containsFuncI_ok (w : World) (l : List Int) (f : FuncId) (capsf : Array Value) (gf : Nat → Bool) (al : Option Addr) (cl : Nat) (Fl : List Nat) (hl : qE.rep w Fl [.slice al l.length cl] l) (hff : ∀ args w, (callFunc f args).run Tryz.prog w = .ok (.enter f args) w) (hoff : ∀ k w', k < l.length → Ext w w' → Calls Tryz.prog f (([.int .i64 (l[k]!)] : List Value) ++ capsf.toList).toArray w' (Ret (fun v _ => v = .bool (gf k)) w')) : Calls Tryz.prog 140 #[.slice al l.length cl, .func (.func f) #[] capsf] w (Ret (fun v w' => v = .bool (anyTo gf l.length)) w) := by
 refine en Tryz.func140 Tryz.ntmps140 ?_
 have H := (St.start w).arg hl
 have nhl := qA hl
 clear hl
 refine qi (ql ?_)
 refine sp (.bool false) ?_
 refine qj (t_n (qi (ql ?_)))
 refine sps [.slice al l.length cl, .func (.func f) #[] capsf] ?_
 refine sw (oc (indexFuncI_ok _ l f capsf gf _ _ _ (H.get 0 rfl).1 hff hoff) ?_)
 rintro _ w1 rfl x2
 replace H := H.ext x2
 refine sps [.bool (decide ((firstIdx gf l.length : Int) ≥ 0)), .bool (decide ((firstIdx gf l.length : Int) ≥ 0))] ?_
 refine qj (t_n (qV ?_))
 refine ret1 (.bool (decide ((firstIdx gf l.length : Int) ≥ 0))) rfl rfl ⟨_, rfl, ?_, H.base⟩
 rw [anyTo_first]

theorem validBag1_ok (w : World) (n : Int) : Calls Tryz.prog 141 #[.int .i64 n] w (Ret (fun v w' => v = .bool (!isCnt n)) w) := by
 refine en Tryz.func141 Tryz.ntmps141 ?_
 have H := St.start w
 refine qi (ql ?_)
 refine sp (.bool false) ?_
 refine qj (t_n (qi (ql ?_)))
 refine sp (.int .i64 n) ?_
 refine sw (oc (XD w n 0 1000) ?_)
 rintro _ w1 rfl x2
 replace H := H.ext x2
 refine sps [.bool (!(inR n 0 1000)), .bool (!(inR n 0 1000))] ?_
 refine qj (t_n (qV ?_))
 refine ret1 (.bool (!(inR n 0 1000))) rfl rfl ⟨_, rfl, ?_, H.base⟩
 rfl

theorem sizeI_ok (w : World) (l : List Int) (al : Option Addr) (cl : Nat) (Fl : List Nat) (hl : qE.rep w Fl [.slice al l.length cl] l) : Calls Tryz.prog 92 #[.slice al l.length cl] w (Ret (fun v w' => v = .int .i64 (l.length : Int)) w) := by
 refine en Tryz.func92 Tryz.ntmps92 ?_
 have H := (St.start w).arg hl
 have nhl := qA hl
 clear hl
 refine qi (ql ?_)
 refine sp (.int .i64 0) ?_
 refine qj (t_n (qi (ql ?_)))
 refine sp (.slice al l.length cl) ?_
 refine oN rfl ?_
 refine sp (.int .i64 l.length) ?_
 refine qj (t_n (qV ?_))
 refine ret1 (.int .i64 l.length) rfl rfl ⟨_, rfl, ?_, H.base⟩
 rfl

theorem Xv (w : World) (kinds : Int) (l : List Int) (al : Option Addr) (cl : Nat) (Fl : List Nat) (hl : qE.rep w Fl [.slice al l.length cl] l) : Calls Tryz.prog 105 #[.int .i64 kinds, .slice al l.length cl] w (Ret (fun v w' => v = .bool (dec (zg kinds l))) w) := by
 refine en Tryz.func105 Tryz.ntmps105 ?_
 have H := (St.start w).arg hl
 have nhl := qA hl
 clear hl
 refine qi (ql ?_)
 refine sp (.bool false) ?_
 refine qj (t_n (qi (ql ?_)))
 refine sp (.int .i64 kinds) ?_
 refine sw (oc (XD w kinds 1 8) ?_)
 rintro _ w1 rfl x2
 replace H := H.ext x2
 refine sp (.bool (inR kinds 1 8)) ?_
 cases h3 : (inR kinds 1 8)
 ·skip
  replace h3 := QP h3
  refine xF [8, 9, 10, 11] ?_
  refine sps [.bool false, .bool false] ?_
  refine xF [14, 15, 16] ?_
  refine sps [.bool false, .bool false] ?_
  refine qj (t_n (qV ?_))
  refine ret1 (.bool false) rfl rfl ⟨_, rfl, ?_, H.base⟩
  rw [qY (fun h => by have := h.1.2; have := h.2; omega)]
 replace h3 := yV.1 h3
 refine qB 7 rfl rfl ?_
 refine sp (.slice al l.length cl) ?_
 refine qB 7 rfl rfl ?_
 refine sw (oc (sizeI_ok _ l _ _ _ (H.get 0 rfl).1) ?_)
 rintro _ w4 rfl x5
 replace H := H.ext x5
 refine qB 7 rfl rfl ?_
 refine sp (.int .i64 kinds) ?_
 refine qB 7 rfl rfl ?_
 refine sps [.bool (((l.length : Int) : Int) == kinds), .bool (((l.length : Int) : Int) == kinds), .bool (((l.length : Int) : Int) == kinds)] ?_
 cases h6 : (((l.length : Int) : Int) == kinds)
 ·skip
  replace h6 := ne_of_beq_false h6
  refine xF [14, 15, 16] ?_
  refine sps [.bool false, .bool false] ?_
  refine qj (t_n (qV ?_))
  refine ret1 (.bool false) rfl rfl ⟨_, rfl, ?_, H.base⟩
  rw [qY (fun h => by have := h.1.2; have := h.2; omega)]
 replace h6 := eq_of_beq h6
 refine qB 13 rfl rfl ?_
 refine sp (.slice al l.length cl) ?_
 refine qB 13 rfl rfl ?_
 refine sw (oc (containsFuncI_ok _ l 141 #[] (fun k => !isCnt (l[k]!)) _ _ _ (H.get 0 rfl).1 Tryz.call141 (fun k w' hk e => validBag1_ok w' _)) ?_)
 rintro _ w7 rfl x8
 replace H := H.ext x8
 refine qB 13 rfl rfl ?_
 refine sps [.bool (!(anyTo (fun k => !isCnt (l[k]!)) l.length)), .bool (!(anyTo (fun k => !isCnt (l[k]!)) l.length)), .bool (!(anyTo (fun k => !isCnt (l[k]!)) l.length))] ?_
 refine qj (t_n (qV ?_))
 refine ret1 (.bool (!(anyTo (fun k => !isCnt (l[k]!)) l.length))) rfl rfl ⟨_, rfl, ?_, H.base⟩
 refine congrArg Value.bool (dec_eq ?_)
 rw [anyCnt_iff]
 exact ⟨fun h => ⟨⟨h, by omega, by omega⟩, by omega⟩, fun h => h.1.1⟩

end Go.Proofs.YtgjnaocffdhnbaaGreat
