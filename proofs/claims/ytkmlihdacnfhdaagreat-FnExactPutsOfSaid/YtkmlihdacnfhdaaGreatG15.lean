/- Walks, printed by program (wip/tools/gv.py): what each function comes to, for all arguments. -/
import Derived.Test.YtkmlihdacnfhdaaGreatG14
namespace Go.Proofs.YtkmlihdacnfhdaaGreat
open Go.Proofs.YtkmlihdacnfhdaaGreat.Tot (tot)
open Go.Proofs.YtkmlihdacnfhdaaGreat.Mark (cnt mrk mkd mkd_mark cnt_mark)
open Go.RowKit
set_option linter.unusedVariables false
set_option linter.unusedSimpArgs false
set_option maxRecDepth 100000
set_option maxHeartbeats 4000000



theorem around_ok (w : World) (s : qR) (qm : Option Addr) (ql : Nat) (qL : List Nat) (qE : Option Addr) (qA : Nat) (xk : List Nat) (qY : qM.rep w qL [.slice qm s.qg.length ql] s.qg) (xA : qM.rep w xk [.slice qE s.qf.length qA] s.qf) : Calls Tryz.prog 113 #[.agg #[.int .i64 s.qF, .slice qm s.qg.length ql, .slice qE s.qf.length qA]] w (Ret (fun v w' => v = .int .i64 s.qg.length) w) := by
 refine enter (n := 6) Tryz.func113 rfl Tryz.ntmps113 (Nat.le_of_ble_eq_true rfl) ?_
 have H := ((St.start w).arg xA).arg qY
 have zH := qJ qY
 have vN := qJ xA
 clear qY xA
 have N := Fresh.nil w.heap.size
 refine qh (qp ?_)
 refine sw (jy H [.int .i64 s.qF, .slice qm s.qg.length ql, .slice qE s.qf.length qA] fun b1 w2 H => ?_)
 refine sp (.int .i64 0) ?_
 refine qo (t_n (qh (qp ?_)))
 refine sw (qH b1 (0) 1 Tryz.underlying36 rfl rfl Tryz.sizeOf22 rfl ?_)
 refine sw (qC (.slice qm s.qg.length ql) Tryz.isAgg22 rfl (H.cell 0 rfl rfl) ?_)
 refine sw (zK Tryz.underlying22 qm s.qg.length ql rfl ?_)
 refine sp (.int .i64 s.qg.length) ?_
 refine qo (t_n (xh ?_))
 refine ret1 (.int .i64 s.qg.length) rfl rfl ⟨_, rfl, ?_, H.base⟩
 rfl

end Go.Proofs.YtkmlihdacnfhdaaGreat
