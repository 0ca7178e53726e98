/- Walks, printed by program (wip/tools/gv.py): what each function comes to, for all arguments. -/
import Derived.Test.YtgjnaocffdhnbaaGreatG32
import Derived.Test.YtgjnaocffdhnbaaGreatL
import Derived.Test.YtgjnaocffdhnbaaGreatI
import Derived.Test.YtgjnaocffdhnbaaGreatTI
namespace Go.Proofs.YtgjnaocffdhnbaaGreat
set_option linter.unusedVariables false
set_option linter.unusedSimpArgs false
open Go.Proofs.YtgjnaocffdhnbaaGreat.Tot (tot)
open Go.Proofs.YtgjnaocffdhnbaaGreat.Mark (cnt mrk mkd mkd_mark cnt_mark)
open Go.RowKit
set_option linter.unusedVariables false
set_option linter.unusedSimpArgs false
set_option maxRecDepth 100000
set_option maxHeartbeats 4000000



theorem compareL_ok (w : World) (a : List Int) (b : List Int) (aa : Option Addr) (ca : Nat) (Fa : List Nat) (ab : Option Addr) (cb : Nat) (Fb : List Nat) (ha : qE.rep w Fa [.slice aa a.length ca] a) (hb : qE.rep w Fb [.slice ab b.length cb] b) : Calls Tryz.prog 94 #[.slice aa a.length ca, .slice ab b.length cb] w (Ret (fun v w' => v = .int .i64 (cmpL a b) ∧ w' = w) w) := by
 refine en Tryz.func94 Tryz.ntmps94 ?_
 have H := ((St.start w).arg hb).arg ha
 have nha := qA ha
 have nhb := qA hb
 clear ha hb
 have N := Fresh.nil w.heap.size
 refine qi (ql ?_)
 refine sp (.int .i64 0) ?_
 refine qj (t_n (qi (qi (ql ?_))))
 refine sp (.slice aa a.length ca) ?_
 refine oN rfl ?_
 refine sp (.int .i64 0) ?_
 refine qj (t_n (qW ?_))
 refine zf (fun m' ρ w1 => ∃ (junk : Env) (i : Nat), ρ = upd (upd (upd (upd (upd junk 0 (.slice aa a.length ca)) 1 (.slice ab b.length cb)) 9 (.slice aa a.length ca)) 10 (.int .i64 a.length)) 11 (.int .i64 i) ∧ ((i : Int) ≤ a.length) ∧ (w1 = w) ∧ (cmpL a b = cmpL (a.drop i) (b.drop i)) ∧ (i ≤ b.length) ∧ m' = (a.length - (i : Int)).toNat ∧ Fresh w.heap.size [] ∧ St w w1 [] [isF false Fa (.slice aa a.length ca) a, isF false Fb (.slice ab b.length cb) b]) ((a.length - (0 : Int)).toNat) ⟨_, 0, (by exact qg (qg (qg (qg (qg (rfl) rfl) rfl) rfl) rfl) rfl), (by omega), (by rfl), (by rfl), (by omega), rfl, N, H⟩ ?_
 clear H N
 rintro m' ρ w2 ⟨junk, i, rfl, i0, wk, i1, i2, rfl, N, H⟩
 refine qi (ql ?_)
 refine sp (.bool (decide ((i : Int) < a.length))) ?_
 refine qj (t_n (qi ?_))
 refine qC (decide ((i : Int) < a.length)) rfl (fun h3 => ?_) (fun h3 => ?_)
 ·skip
  replace h3 := of_decide_eq_true h3
  refine qM (t_n (qi (qW (qi (ql ?_)))))
  refine sp (.int .i64 i) ?_
  obtain ⟨b4, o5, rfl⟩ := H.addr 0 rfl (by omega)
  refine oI rfl rfl ?_
  refine oL rfl (H.vT 0 rfl i (by omega) (by omega)) ?_
  refine sps [.int .i64 i, .int .i64 (a[i]!)] ?_
  refine qj (t_n (qi (qi (ql ?_))))
  refine sps [.int .i64 i, .slice ab b.length cb] ?_
  refine oN rfl ?_
  refine sp (.bool (decide ((i : Int) ≥ b.length))) ?_
  refine qj (t_n ?_)
  refine qC (decide ((i : Int) ≥ b.length)) rfl (fun h7 => ?_) (fun h7 => ?_)
  ·skip
   replace h7 := of_decide_eq_true h7
   refine qi (ql ?_)
   refine sp (.int .i64 1) ?_
   refine qj (t_n (qV (t_r (b_r (t_r (t_r (b_r (t_r ?_))))))))
   refine ret1 (.int .i64 1) rfl rfl ⟨_, rfl, ?_, H.base⟩
   refine ⟨?_, wk⟩
   rw [i1, show cmpL (a.drop i) (b.drop i) = 1 by first | exact cmp_a (by omega) (by omega) | exact cmp_e (by omega) (by omega) ‹_›]
  replace h7 := of_decide_eq_false h7
  refine qM (t_n (qi (ql ?_)))
  refine sps [.slice ab b.length cb, .int .i64 i] ?_
  obtain ⟨b8, o9, rfl⟩ := H.addr 1 rfl (by omega)
  refine oI rfl rfl ?_
  refine oL rfl (H.vT 1 rfl i (by omega) (by omega)) ?_
  refine sp (.int .i64 (b[i]!)) ?_
  refine qj (t_n (qi (ql ?_)))
  refine sps [.int .i64 (a[i]!), .int .i64 (b[i]!)] ?_
  refine sw (jf #[.int .i64 (a[i]!), .int .i64 (b[i]!)] rfl rfl Tryz.call131 ?_)
  refine en Tryz.func131 Tryz.ntmps131 ?_
  refine qi (ql ?_)
  refine sp (.int .i64 0) ?_
  refine qj (t_n (qi (ql ?_)))
  refine sp (.int .i64 (a[i]!)) ?_
  refine sw (jf #[.int .i64 (a[i]!)] rfl rfl Tryz.call168 ?_)
  refine en Tryz.func168 Tryz.ntmps168 ?_
  refine qi (ql ?_)
  refine sp (.bool false) ?_
  refine qj (t_n (qi (ql ?_)))
  refine sps [.int .i64 (a[i]!), .int .i64 (a[i]!), .bool ((a[i]! : Int) != (a[i]!)), .bool ((a[i]! : Int) != (a[i]!))] ?_
  refine qj (t_n (qV ?_))
  refine ret1 (.bool ((a[i]! : Int) != (a[i]!))) rfl rfl ⟨_, rfl, ?_⟩
  refine sp (.bool ((a[i]! : Int) != (a[i]!))) ?_
  refine qj (t_n (qi (ql ?_)))
  refine sp (.int .i64 (b[i]!)) ?_
  refine sw (jf #[.int .i64 (b[i]!)] rfl rfl Tryz.call168 ?_)
  refine en Tryz.func168 Tryz.ntmps168 ?_
  refine qi (ql ?_)
  refine sp (.bool false) ?_
  refine qj (t_n (qi (ql ?_)))
  refine sps [.int .i64 (b[i]!), .int .i64 (b[i]!), .bool ((b[i]! : Int) != (b[i]!)), .bool ((b[i]! : Int) != (b[i]!))] ?_
  refine qj (t_n (qV ?_))
  refine ret1 (.bool ((b[i]! : Int) != (b[i]!))) rfl rfl ⟨_, rfl, ?_⟩
  refine sp (.bool ((b[i]! : Int) != (b[i]!))) ?_
  refine qj (t_n (qi (qi (ql ?_))))
  refine sp (.bool ((a[i]! : Int) != (a[i]!))) ?_
  refine qj (t_n ?_)
  refine qC ((a[i]! : Int) != (a[i]!)) rfl (fun h => absurd rfl (bne_iff_ne.1 h)) (fun h11 => ?_)
  replace h11 := xw h11
  refine qM (t_n (qi (qi (ql ?_))))
  refine sp (.bool ((b[i]! : Int) != (b[i]!))) ?_
  refine qj (t_n ?_)
  refine qC ((b[i]! : Int) != (b[i]!)) rfl (fun h => absurd rfl (bne_iff_ne.1 h)) (fun h12 => ?_)
  replace h12 := xw h12
  refine qM (t_n (qi (qi (ql ?_))))
  refine sps [.int .i64 (a[i]!), .int .i64 (b[i]!), .bool (decide ((a[i]! : Int) < (b[i]!)))] ?_
  refine qj (t_n ?_)
  refine qC (decide ((a[i]! : Int) < (b[i]!))) rfl (fun h13 => ?_) (fun h13 => ?_)
  ·skip
   replace h13 := of_decide_eq_true h13
   refine qi (ql ?_)
   refine sp (.int .i64 (-1)) ?_
   refine qj (t_n (qV (t_r ?_)))
   refine ret1 (.int .i64 (-1)) rfl rfl ⟨_, rfl, ?_⟩
   refine sp (.int .i64 (-1)) ?_
   refine qj (t_n (qi (ql ?_)))
   refine sps [.int .i64 (-1), .bool true] ?_
   refine qj (t_n ?_)
   refine qC true rfl (fun _ => ?_) (fun h => absurd h (by decide))
   refine qi (ql ?_)
   refine sps [.int .i64 (-1), .int .i64 (-1)] ?_
   refine qj (t_n (qV (b_r (t_r (t_r (b_r (t_r ?_)))))))
   refine ret1 (.int .i64 (-1)) rfl rfl ⟨_, rfl, ?_, H.base⟩
   refine ⟨?_, wk⟩
   rw [i1, show cmpL (a.drop i) (b.drop i) = -1 by first | exact cmp_b (by omega) (by omega) | exact cmp_d (by omega) (by omega) ‹_›]
  replace h13 := of_decide_eq_false h13
  refine qM (t_n (qi (qi (ql ?_))))
  refine sps [.int .i64 (a[i]!), .int .i64 (b[i]!), .bool (decide ((a[i]! : Int) > (b[i]!)))] ?_
  refine qj (t_n ?_)
  refine qC (decide ((a[i]! : Int) > (b[i]!))) rfl (fun h14 => ?_) (fun h14 => ?_)
  ·skip
   replace h14 := of_decide_eq_true h14
   refine qi (ql ?_)
   refine sp (.int .i64 1) ?_
   refine qj (t_n (qV (t_r ?_)))
   refine ret1 (.int .i64 1) rfl rfl ⟨_, rfl, ?_⟩
   refine sp (.int .i64 1) ?_
   refine qj (t_n (qi (ql ?_)))
   refine sps [.int .i64 1, .bool true] ?_
   refine qj (t_n ?_)
   refine qC true rfl (fun _ => ?_) (fun h => absurd h (by decide))
   refine qi (ql ?_)
   refine sps [.int .i64 1, .int .i64 1] ?_
   refine qj (t_n (qV (b_r (t_r (t_r (b_r (t_r ?_)))))))
   refine ret1 (.int .i64 1) rfl rfl ⟨_, rfl, ?_, H.base⟩
   refine ⟨?_, wk⟩
   rw [i1, show cmpL (a.drop i) (b.drop i) = 1 by first | exact cmp_a (by omega) (by omega) | exact cmp_e (by omega) (by omega) ‹_›]
  replace h14 := of_decide_eq_false h14
  refine qM (t_n (qi (ql ?_)))
  refine sp (.int .i64 0) ?_
  refine qj (t_n (qV ?_))
  refine ret1 (.int .i64 0) rfl rfl ⟨_, rfl, ?_⟩
  refine sp (.int .i64 0) ?_
  refine qj (t_n (qi (ql ?_)))
  refine sps [.int .i64 0, .bool false] ?_
  refine qj (t_n ?_)
  refine qC false rfl (fun h => absurd h (by decide)) (fun _ => ?_)
  refine qM (b_n (t_n (ql ?_)))
  refine sw (zk i 1 rfl rfl (by omega) ?_)
  refine sp (.int .i64 (i + 1)) ?_
  refine qj ?_
  refine xk (m' := (a.length - ((i + 1) : Int)).toNat) (by omega) ⟨_, i + 1, (by exact qg (qg (qg (qg (qg (rfl) rfl) rfl) rfl) rfl) rfl), ?_, ?_, ?_, ?_, rfl, N, H⟩
  · omega
  · exact wk
  · exact i1.trans (cmp_f (by omega) (by omega) ‹_› ‹_›)
  · omega
 replace h3 := of_decide_eq_false h3
 refine xQ (t_x (t_x (b_x (t_n (qi (qi (ql ?_)))))))
 refine sp (.slice aa a.length ca) ?_
 refine oN rfl ?_
 refine sp (.slice ab b.length cb) ?_
 refine oN rfl ?_
 refine sp (.bool (decide ((a.length : Int) < b.length))) ?_
 refine qj (t_n ?_)
 refine qC (decide ((a.length : Int) < b.length)) rfl (fun h15 => ?_) (fun h15 => ?_)
 ·skip
  replace h15 := of_decide_eq_true h15
  refine qi (ql ?_)
  refine sp (.int .i64 (-1)) ?_
  refine qj (t_n (qV (t_r ?_)))
  refine ret1 (.int .i64 (-1)) rfl rfl ⟨_, rfl, ?_, H.base⟩
  refine ⟨?_, wk⟩
  rw [i1, show cmpL (a.drop i) (b.drop i) = -1 by first | exact cmp_b (by omega) (by omega) | exact cmp_d (by omega) (by omega) ‹_›]
 replace h15 := of_decide_eq_false h15
 refine qM (t_n (qi (ql ?_)))
 refine sp (.int .i64 0) ?_
 refine qj (t_n (qV ?_))
 refine ret1 (.int .i64 0) rfl rfl ⟨_, rfl, ?_, H.base⟩
 refine ⟨?_, wk⟩
 rw [i1, cmp_c (by omega) (by omega)]

end Go.Proofs.YtgjnaocffdhnbaaGreat
