/- Walks, printed by program (wip/tools/gv.py): what each function comes to, for all arguments. -/
import Derived.Test.YtkmlihdacnfhdaaGreatG15
import Derived.Test.YtkmlihdacnfhdaaGreatP9
namespace Go.Proofs.YtkmlihdacnfhdaaGreat
open Go.Proofs.YtkmlihdacnfhdaaGreat.Tot (tot)
open Go.Proofs.YtkmlihdacnfhdaaGreat.Mark (cnt mrk mkd mkd_mark cnt_mark)
open Go.RowKit
set_option linter.unusedVariables false
set_option linter.unusedSimpArgs false
set_option maxRecDepth 100000
set_option maxHeartbeats 4000000



theorem l03Single_ok (w : World) (s : qU) (i : Int) (bs os : Nat) (qp : Option Addr) (qo : Nat) (qO : List Nat) (qF : Option Addr) (qC : Nat) (xq : List Nat) (hs : vz w bs os [.int .i64 s.qI, .slice qp s.qf.length qo, .slice qF s.qg.length qC]) (xn : qQ.rep w qO [.slice qp s.qf.length qo] s.qf) (xM : qQ.rep w xq [.slice qF s.qg.length qC] s.qg) (p0 : 0 ≤ i ∧ i ≤ (s.qg.length : Int) - 1) (p1 : s.qg.length ≤ 16) : Calls Tryz.prog 62 #[pp bs os, .int .i64 i] w (Ret (fun v w' => ∃ (ra : Option Addr) (rn : Nat) (rc : Nat), v = .slice ra rn rc ∧ Fresh w.heap.size [] ∧ St w w' [.row (.slice ra rn rc) 2 1 rn ((single s (i : Int).toNat).map (Value.int .i64))] []) w) := by
 refine enter (n := 16) Tryz.func62 rfl Tryz.ntmps62 (Nat.le_of_ble_eq_true rfl) ?_
 have H := (((St.start w).arg xM).arg xn).argAt hs
 have vk := qJ xn
 have jr := qJ xM
 clear hs xn xM
 have N := Fresh.nil w.heap.size
 refine qm (qy ?_)
 refine sp (.slice none 0 0) ?_
 refine qw (t_n (qm (qy ?_)))
 refine sps [pp bs os, pp bs os] ?_
 refine sw (qM bs (os) 2 Tryz.underlying36 rfl rfl Tryz.sizeOf34 rfl ?_)
 refine sw (qE (.slice qF s.qg.length qC) Tryz.isAgg34 rfl (H.xR 0 rfl 2 rfl) ?_)
 refine sw (zD Tryz.underlying34 qF s.qg.length qC rfl ?_)
 refine sw (o_makeI H Tryz.underlying22 ti2 s.qg.length rfl rfl (by omega) (by omega) (by omega) fun b1 w2 H => ?_)
 refine sp (.slice (aa b1 0) s.qg.length s.qg.length) ?_
 refine qw (t_n (qm (qy ?_)))
 refine sps [.slice (aa b1 0) s.qg.length s.qg.length, .int .i64 i] ?_
 refine sw (xJ i Tryz.underlying22 ti2 rfl rfl (by omega) (by omega) ?_)
 refine sw (o_storeInt H 0 rfl 1 Tryz.sizeOf2 rfl rfl (i := i.toNat) (by omega) (by omega) fun w3 H => ?_)
 try dsimp only [List.set] at H
 refine qw (t_n (qm (qy ?_)))
 refine sps [.slice (aa b1 0) s.qg.length s.qg.length, .slice (aa b1 0) s.qg.length s.qg.length] ?_
 refine qw (t_n (xx ?_))
 refine ret1 (.slice (aa b1 0) s.qg.length s.qg.length) rfl rfl ⟨_, rfl, ?_, H.base⟩
 exact ⟨(aa b1 0), s.qg.length, s.qg.length, rfl, N, H.pick [0] []⟩

theorem single_ok (w : World) (s : qU) (i : Int) (qp : Option Addr) (qo : Nat) (qO : List Nat) (qF : Option Addr) (qC : Nat) (xq : List Nat) (xn : qQ.rep w qO [.slice qp s.qf.length qo] s.qf) (xM : qQ.rep w xq [.slice qF s.qg.length qC] s.qg) (p0 : 0 ≤ i ∧ i ≤ (s.qg.length : Int) - 1) (p1 : s.qg.length ≤ 16) : Calls Tryz.prog 67 #[.agg #[.int .i64 s.qI, .slice qp s.qf.length qo, .slice qF s.qg.length qC], .int .i64 i] w (Ret (fun v w' => ∃ (ra : Option Addr) (rn : Nat) (rc : Nat), v = .slice ra rn rc ∧ Fresh w.heap.size [] ∧ St w w' [.row (.slice ra rn rc) 2 1 rn ((single s (i : Int).toNat).map (Value.int .i64))] []) w) := by
 refine enter (n := 14) Tryz.func67 rfl Tryz.ntmps67 (Nat.le_of_ble_eq_true rfl) ?_
 have H := ((St.start w).arg xM).arg xn
 have vk := qJ xn
 have jr := qJ xM
 clear xn xM
 have N := Fresh.nil w.heap.size
 refine qm (qy ?_)
 refine sw (jW H [.int .i64 s.qI, .slice qp s.qf.length qo, .slice qF s.qg.length qC] fun b1 w2 H => ?_)
 refine sp (.slice none 0 0) ?_
 refine qw (t_n (qm (qy ?_)))
 refine sw (qM b1 (0) 2 Tryz.underlying36 rfl rfl Tryz.sizeOf34 rfl ?_)
 refine sw (qE (.slice qF s.qg.length qC) Tryz.isAgg34 rfl (H.cell 0 rfl rfl) ?_)
 refine sw (zD Tryz.underlying34 qF s.qg.length qC rfl ?_)
 refine sw (o_makeI H Tryz.underlying22 ti2 s.qg.length rfl rfl (by omega) (by omega) (by omega) fun b3 w4 H => ?_)
 refine sp (.slice (aa b3 0) s.qg.length s.qg.length) ?_
 refine qw (t_n (qm (qy ?_)))
 refine sps [.slice (aa b3 0) s.qg.length s.qg.length, .int .i64 i] ?_
 refine sw (xJ i Tryz.underlying22 ti2 rfl rfl (by omega) (by omega) ?_)
 refine sw (o_storeInt H 0 rfl 1 Tryz.sizeOf2 rfl rfl (i := i.toNat) (by omega) (by omega) fun w5 H => ?_)
 try dsimp only [List.set] at H
 refine qw (t_n (qm (qy ?_)))
 refine sps [.slice (aa b3 0) s.qg.length s.qg.length, .slice (aa b3 0) s.qg.length s.qg.length] ?_
 refine qw (t_n (xx ?_))
 refine ret1 (.slice (aa b3 0) s.qg.length s.qg.length) rfl rfl ⟨_, rfl, ?_, H.base⟩
 exact ⟨(aa b3 0), s.qg.length, s.qg.length, rfl, N, H.pick [0] []⟩

end Go.Proofs.YtkmlihdacnfhdaaGreat
