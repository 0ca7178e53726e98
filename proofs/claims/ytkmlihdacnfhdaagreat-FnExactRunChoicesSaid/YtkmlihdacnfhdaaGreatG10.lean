/- Walks, printed by program (wip/tools/gv.py): what each function comes to, for all arguments. -/
import Derived.Test.YtkmlihdacnfhdaaGreatG9
namespace Go.Proofs.YtkmlihdacnfhdaaGreat
open Go.Proofs.YtkmlihdacnfhdaaGreat.Tot (tot)
open Go.Proofs.YtkmlihdacnfhdaaGreat.Mark (cnt mrk mkd mkd_mark cnt_mark)
open Go.RowKit
set_option linter.unusedVariables false
set_option linter.unusedSimpArgs false
set_option maxRecDepth 100000
set_option maxHeartbeats 4000000



theorem l01Counts_ok (w : World) (n : Int) (l : List Int) (al : Option Addr) (cl : Nat) (Fl : List Nat) (hl : qV.rep w Fl [.slice al l.length cl] l) : Calls Tryz.prog 72 #[.int .i64 n, .slice al l.length cl] w (Ret (fun v w' => v = .bool (dec ((l.length : Int) = n ∧ Counts l l.length))) w) := by
 refine enter (n := 22) Tryz.func72 rfl Tryz.ntmps72 (Nat.le_of_ble_eq_true rfl) ?_
 have H := (St.start w).arg hl
 have nhl := qN hl
 clear hl
 have N := Fresh.nil w.heap.size
 refine qm (qA ?_)
 refine sp (.bool false) ?_
 refine qx (t_n (qm (qm (qA ?_))))
 refine sp (.int .i64 0) ?_
 refine qx (t_n (xE ?_))
 refine zU (fun m' ρ w1 => ∃ (junk : Env) (i : Nat), ρ = upd (upd (upd junk 0 (.int .i64 n)) 1 (.slice al l.length cl)) 5 (.int .i64 i) ∧ ((i : Int) ≤ l.length) ∧ (Counts l i) ∧ m' = (l.length - (i : Int)).toNat ∧ Fresh w.heap.size [] ∧ St w w1 [] [isF false Fl (.slice al l.length cl) l]) ((l.length - (0 : Int)).toNat) ⟨_, 0, (by exact qj (qj (qj (rfl) rfl) rfl) rfl), (by omega), (by exact Counts.zero l), rfl, N, H⟩ ?_
 clear H N
 rintro m' ρ w2 ⟨junk, i, rfl, i0, i1, rfl, N, H⟩
 refine qm (qm (qA ?_))
 refine sps [.int .i64 i, .slice al l.length cl] ?_
 refine sw (zX Tryz.underlying22 al l.length cl rfl ?_)
 refine sp (.bool (decide ((i : Int) < l.length))) ?_
 refine qx (t_n ?_)
 refine qW (decide ((i : Int) < l.length)) rfl (fun h3 => ?_) (fun h3 => ?_)
 ·skip
  replace h3 := of_decide_eq_true h3
  refine xk (t_n (qm (xE (qm (qA ?_)))))
  refine sps [.slice al l.length cl, .int .i64 i] ?_
  obtain ⟨b4, o5, rfl⟩ := H.addr 0 rfl (by omega)
  refine sw (xK i Tryz.underlying22 ti2 rfl rfl (by omega) (by omega) ?_)
  refine sw (qE (.int .i64 (l[i]!)) Tryz.isAgg2 rfl (H.jq 0 rfl i (by omega) (by omega)) ?_)
  refine sw (qZ #[.int .i64 (l[i]!), .int .i64 0, .int .i64 1000] rfl rfl Tryz.call44 (l00In_ok w2 (l[i]!) 0 1000) ?_)
  rintro _ w7 rfl x8
  replace H := H.ext x8
  refine sp (.bool (!(inR (l[i]!) 0 1000))) ?_
  refine qx (t_n ?_)
  refine qW (!(inR (l[i]!) 0 1000)) rfl (fun h9 => ?_) (fun h9 => ?_)
  ·skip
   replace h9 := xg h9
   replace h9 := XJ h9
   refine qm (qA ?_)
   refine sp (.bool false) ?_
   refine qx (t_n (xC (b_r (t_r (t_r (b_r (t_r ?_)))))))
   refine ret1 (.bool false) rfl rfl ⟨_, rfl, ?_, H.base⟩
   rw [xy (fun h => ‹¬ (0 ≤ l[i]! ∧ l[i]! ≤ 1000)› (h.2 i (by omega)))]
  replace h9 := qY h9
  replace h9 := Xc.1 h9
  refine xk (b_n (t_n (qA ?_)))
  refine sp (.int .i64 i) ?_
  refine sw (zZ i 1 rfl rfl (by omega) ?_)
  refine sp (.int .i64 (i + 1)) ?_
  refine qx ?_
  refine xH (m' := (l.length - ((i + 1) : Int)).toNat) (by omega) ⟨_, i + 1, (by exact qj (qj (qj (rfl) rfl) rfl) rfl), ?_, ?_, rfl, N, H⟩
  · omega
  · exact i1.succ ‹_›
 replace h3 := of_decide_eq_false h3
 refine zK (t_x (t_x (b_x (t_n (qm (qA ?_))))))
 refine sp (.slice al l.length cl) ?_
 refine sw (zX Tryz.underlying22 al l.length cl rfl ?_)
 refine sps [.int .i64 n, .bool ((l.length : Int) == n), .bool ((l.length : Int) == n)] ?_
 refine qx (t_n (xC ?_))
 refine ret1 (.bool ((l.length : Int) == n)) rfl rfl ⟨_, rfl, ?_, H.base⟩
 refine congrArg Value.bool (dec_eq ?_)
 rw [beq_iff_eq]
 exact ⟨fun h => ⟨h, (show i = l.length by omega) ▸ i1⟩, fun h => h.1⟩

end Go.Proofs.YtkmlihdacnfhdaaGreat
