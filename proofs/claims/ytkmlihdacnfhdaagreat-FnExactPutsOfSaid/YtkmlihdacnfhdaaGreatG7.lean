/- Walks, printed by program (wip/tools/gv.py): what each function comes to, for all arguments. -/
import Derived.Test.YtkmlihdacnfhdaaGreatG6
namespace Go.Proofs.YtkmlihdacnfhdaaGreat
open Go.Proofs.YtkmlihdacnfhdaaGreat.Tot (tot)
open Go.Proofs.YtkmlihdacnfhdaaGreat.Mark (cnt mrk mkd mkd_mark cnt_mark)
open Go.RowKit
set_option linter.unusedVariables false
set_option linter.unusedSimpArgs false
set_option maxRecDepth 100000
set_option maxHeartbeats 4000000

theorem ti3 : TI Tryz.prog 3 (.int .i64 0) 1 8 := by unfold TI; kernel_rfl
theorem ti162 : TI Tryz.prog 162 (.agg #[.int .i64 0, .int .i64 0, .int .i64 0, .int .i64 0, .int .i64 0, .int .i64 0]) 6 48 := by unfold TI; kernel_rfl


theorem validSystem_ok (w : World) (s : qR) (qm : Option Addr) (ql : Nat) (qL : List Nat) (qE : Option Addr) (qA : Nat) (xk : List Nat) (qY : qM.rep w qL [.slice qm s.qg.length ql] s.qg) (xA : qM.rep w xk [.slice qE s.qf.length qA] s.qf) : Calls Tryz.prog 122 #[.agg #[.int .i64 s.qF, .slice qm s.qg.length ql, .slice qE s.qf.length qA]] w (Ret (fun v w' => v = .bool (dec (Qj s))) w) := by
 refine enter (n := 39) Tryz.func122 rfl Tryz.ntmps122 (Nat.le_of_ble_eq_true rfl) ?_
 have H := ((St.start w).arg xA).arg qY
 have zH := qJ qY
 have vN := qJ xA
 clear qY xA
 have N := Fresh.nil w.heap.size
 have p1 := fun h : vZ s => h.2.1
 refine qh (qp ?_)
 refine sw (jy H [.int .i64 s.qF, .slice qm s.qg.length ql, .slice qE s.qf.length qA] fun b1 w2 H => ?_)
 refine sp (.bool false) ?_
 refine qo (t_n (qh (qh (qp ?_))))
 refine sw (zn [.int .i64 s.qF, .slice qm s.qg.length ql, .slice qE s.qf.length qA] Tryz.isAgg36 Tryz.sizeOf36 rfl (qK (H.cells 0 rfl) 0 3) ?_)
 refine sw (xm #[.agg #[.int .i64 s.qF, .slice qm s.qg.length ql, .slice qE s.qf.length qA]] rfl rfl Tryz.call152 (isShell_ok w2 s qm ql qL qE qA xk (H.get 0 rfl).1 (H.get 1 rfl).1) ?_)
 rintro _ w4 rfl x5
 replace H := H.ext x5
 refine sps [.bool (!(dec (vZ s))), .bool (!(dec (vZ s)))] ?_
 cases h6 : (!(dec (vZ s)))
 ·skip
  replace h6 := qN h6
  replace h6 := vT h6
  refine qO 9 rfl rfl ?_
  refine sw (qH b1 (0) 2 Tryz.underlying36 rfl rfl Tryz.sizeOf34 rfl ?_)
  refine qO 9 rfl rfl ?_
  refine sw (qC (.slice qE s.qf.length qA) Tryz.isAgg34 rfl (H.cell 0 rfl rfl) ?_)
  refine qO 9 rfl rfl ?_
  refine sw (zK Tryz.underlying34 qE s.qf.length qA rfl ?_)
  refine qO 9 rfl rfl ?_
  refine sps [.bool (decide ((s.qf.length : Int) > 16)), .bool (decide ((s.qf.length : Int) > 16))] ?_
  refine qo (t_n ?_)
  refine qP (decide ((s.qf.length : Int) > 16)) rfl (fun h7 => ?_) (fun h7 => ?_)
  ·skip
   replace h7 := of_decide_eq_true h7
   refine qh (qp ?_)
   refine sp (.bool false) ?_
   refine qo (t_n (xh (t_r ?_)))
   refine ret1 (.bool false) rfl rfl ⟨_, rfl, ?_, H.base⟩
   rw [xf (fun h => by obtain ⟨h1, h2, h3⟩ := h; first | contradiction | omega | (obtain ⟨r1, r2⟩ := h3 k (by omega); first | contradiction | (have := Xn (s := s) (k := k + 1) q1 q2; omega)))]
  replace h7 := of_decide_eq_false h7
  refine xg (t_n (qh (qp ?_)))
  refine sw (o_build [.int .i64 0, .int .i64 0, .int .i64 0, .int .i64 0, .int .i64 0, .int .i64 0] [] ?_)
  refine sw (QP H ti162 [.int .i64 0, .int .i64 0, .int .i64 0, .int .i64 0, .int .i64 0, .int .i64 0] fun b8 w9 H => ?_)
  refine sw (QO H 0 [.int .i64 0, .int .i64 0, .int .i64 0, .int .i64 0, .int .i64 0, .int .i64 0] Tryz.sizeOf162 fun w10 H => ?_)
  try dsimp only [List.set] at H
  refine qo (t_n (qh (qh (qp ?_))))
  refine sw (qH b1 (0) 2 Tryz.underlying36 rfl rfl Tryz.sizeOf34 rfl ?_)
  refine sw (qC (.slice qE s.qf.length qA) Tryz.isAgg34 rfl (H.cell 1 rfl rfl) ?_)
  refine sw (zK Tryz.underlying34 qE s.qf.length qA rfl ?_)
  refine sp (.int .i64 0) ?_
  refine qo (t_n (xn ?_))
  try dsimp only [List.set] at H
  have p2 := p1 ‹_›
  refine zC (fun m' ρ w11 => ∃ (junk : Env) (k : Nat) (many : List Int), ρ = upd (upd (upd (upd (upd junk 1 (pp b1 0)) 3 (pp b8 0)) 17 (.slice qE s.qf.length qA)) 18 (.int .i64 s.qf.length)) 19 (.int .i64 k) ∧ many = counts6 s k ∧ ((k : Int) ≤ s.qf.length) ∧ (RulesTo s k) ∧ m' = (s.qf.length - (k : Int)).toNat ∧ Fresh w.heap.size [] ∧ St w w11 [.box b8 (many.map (Value.int .i64)) 162, .box b1 [.int .i64 s.qF, .slice qm s.qg.length ql, .slice qE s.qf.length qA] 36] [isF false qL (.slice qm s.qg.length ql) s.qg, isF false xk (.slice qE s.qf.length qA) s.qf]) ((s.qf.length - (0 : Int)).toNat) ⟨_, 0, [0, 0, 0, 0, 0, 0], (by exact qj (qj (qj (qj (qj (rfl) rfl) rfl) rfl) rfl) rfl), (by exact counts6_zero s), (by omega), (by exact fun j hj => by omega), rfl, N, H⟩ ?_
  clear H N
  rintro m' ρ w12 ⟨junk, k, many, rfl, rfl, i0, i1, rfl, N, H⟩
  refine qh (qp ?_)
  refine sp (.bool (decide ((k : Int) < s.qf.length))) ?_
  refine qo (t_n (qh ?_))
  refine qP (decide ((k : Int) < s.qf.length)) rfl (fun h13 => ?_) (fun h13 => ?_)
  ·skip
   replace h13 := of_decide_eq_true h13
   refine xg (t_n (qh (xn (qh (qp ?_)))))
   obtain ⟨b14, o15, rfl⟩ := H.addr 1 rfl (by omega)
   obtain ⟨ae17Need, ce17Need, Fe17Need, ae17Have, ce17Have, Fe17Have, ae17Lack, ce17Lack, Fe17Lack, ae17Here, ce17Here, Fe17Here, ae17Out, ce17Out, Fe17Out, ae17Into, ce17Into, Fe17Into, H⟩ := H.jv 1 rfl k k (by omega) (by omega) (by omega)
   refine sw (xE k Tryz.underlying34 ti110 rfl rfl (by omega) (by omega) ?_)
   refine sw (zn [.int .i64 ((s.qf[k]!).qw), .int .i64 ((s.qf[k]!).xM), .slice ae17Need (((s.qf[k]!).qI).length) ce17Need, .slice ae17Have (((s.qf[k]!).qW).length) ce17Have, .slice ae17Lack (((s.qf[k]!).qX).length) ce17Lack, .slice ae17Here (((s.qf[k]!).xe).length) ce17Here, .slice ae17Out (((s.qf[k]!).xO).length) ce17Out, .slice ae17Into (((s.qf[k]!).qx).length) ce17Into, .bool ((s.qf[k]!).xG)] Tryz.isAgg110 Tryz.sizeOf110 rfl (qK (H.get 6 rfl) 0 9) ?_)
   refine sw (QP H ti110 [.int .i64 0, .int .i64 0, .slice none 0 0, .slice none 0 0, .slice none 0 0, .slice none 0 0, .slice none 0 0, .slice none 0 0, .bool false] fun b18 w19 H => ?_)
   refine sw (QO H 0 [.int .i64 ((s.qf[k]!).qw), .int .i64 ((s.qf[k]!).xM), .slice ae17Need (((s.qf[k]!).qI).length) ce17Need, .slice ae17Have (((s.qf[k]!).qW).length) ce17Have, .slice ae17Lack (((s.qf[k]!).qX).length) ce17Lack, .slice ae17Here (((s.qf[k]!).xe).length) ce17Here, .slice ae17Out (((s.qf[k]!).xO).length) ce17Out, .slice ae17Into (((s.qf[k]!).qx).length) ce17Into, .bool ((s.qf[k]!).xG)] Tryz.sizeOf110 fun w20 H => ?_)
   try dsimp only [List.set] at H
   refine qo (t_n (qh (qh (qp ?_))))
   refine sw (zn [.int .i64 s.qF, .slice qm s.qg.length ql, .slice (aa b14 o15) s.qf.length qA] Tryz.isAgg36 Tryz.sizeOf36 rfl (qK (H.cells 2 rfl) 0 3) ?_)
   refine sw (zn [.int .i64 ((s.qf[k]!).qw), .int .i64 ((s.qf[k]!).xM), .slice ae17Need (((s.qf[k]!).qI).length) ce17Need, .slice ae17Have (((s.qf[k]!).qW).length) ce17Have, .slice ae17Lack (((s.qf[k]!).qX).length) ce17Lack, .slice ae17Here (((s.qf[k]!).xe).length) ce17Here, .slice ae17Out (((s.qf[k]!).xO).length) ce17Out, .slice ae17Into (((s.qf[k]!).qx).length) ce17Into, .bool ((s.qf[k]!).xG)] Tryz.isAgg110 Tryz.sizeOf110 rfl (qK (H.cells 0 rfl) 0 9) ?_)
   refine sw (xm #[.agg #[.int .i64 s.qF, .slice qm s.qg.length ql, .slice (aa b14 o15) s.qf.length qA], .agg #[.int .i64 ((s.qf[k]!).qw), .int .i64 ((s.qf[k]!).xM), .slice ae17Need (((s.qf[k]!).qI).length) ce17Need, .slice ae17Have (((s.qf[k]!).qW).length) ce17Have, .slice ae17Lack (((s.qf[k]!).qX).length) ce17Lack, .slice ae17Here (((s.qf[k]!).xe).length) ce17Here, .slice ae17Out (((s.qf[k]!).xO).length) ce17Out, .slice ae17Into (((s.qf[k]!).qx).length) ce17Into, .bool ((s.qf[k]!).xG)]] rfl rfl Tryz.call153 (isRule_ok w20 s (s.qf[k]!) qm ql qL (aa b14 o15) qA xk ae17Need ce17Need Fe17Need ae17Have ce17Have Fe17Have ae17Lack ce17Lack Fe17Lack ae17Here ce17Here Fe17Here ae17Out ce17Out Fe17Out ae17Into ce17Into Fe17Into (H.get 7 rfl).1 (H.get 8 rfl).1 (H.get 0 rfl).1 (H.get 1 rfl).1 (H.get 2 rfl).1 (H.get 3 rfl).1 (H.get 4 rfl).1 (H.get 5 rfl).1 (by first | assumption | omega)) ?_)
   rintro _ w22 rfl x23
   replace H := H.ext x23
   have q := fun h : RuleOk s (s.qf[k]!) => (show 0 ≤ (s.qf[k]!).qw ∧ (s.qf[k]!).qw ≤ 5 from ⟨h.1.1, by have := h.1.2; omega⟩)
   refine sp (.bool (!(dec (RuleOk s (s.qf[k]!))))) ?_
   refine qo (t_n ?_)
   refine qP (!(dec (RuleOk s (s.qf[k]!)))) rfl (fun h24 => ?_) (fun h24 => ?_)
   ·skip
    replace h24 := qQ h24
    replace h24 := xP h24
    refine qh (qp ?_)
    refine sp (.bool false) ?_
    refine qo (t_n (xh (t_r (b_r (t_r (t_r (b_r (t_r ?_))))))))
    refine ret1 (.bool false) rfl rfl ⟨_, rfl, ?_, H.base⟩
    rw [xf (fun h => by obtain ⟨h1, h2, h3⟩ := h; first | contradiction | omega | (obtain ⟨r1, r2⟩ := h3 k (by omega); first | contradiction | (have := Xn (s := s) (k := k + 1) q1 q2; omega)))]
   replace h24 := qN h24
   replace h24 := vT h24
   obtain ⟨q1, q2⟩ := q ‹_›
   have q3 := Xn (s := s) (k := k) q1 q2
   have q4 := ofCell_bd s.qf (s.qf[k]!).qw k
   refine xg (t_n (qh (qp ?_)))
   refine sw (qH b18 (0) 0 Tryz.underlying110 rfl rfl Tryz.sizeOf2 rfl ?_)
   refine sw (qC (.int .i64 ((s.qf[k]!).qw)) Tryz.isAgg2 rfl (H.cell 0 rfl rfl) ?_)
   refine sw (o_idxArr ((s.qf[k]!).qw) Tryz.underlying162 ti3 rfl rfl (by omega) (by omega) ?_)
   refine sw (qC (.int .i64 ((counts6 s k)[((s.qf[k]!).qw).toNat]!)) Tryz.isAgg3 rfl (H.cell 1 rfl (ints_at (iv := (s.qf[k]!).qw) (i := (((s.qf[k]!).qw).toNat)) (by omega) (by simp only [List.length_set, List.length_cons, List.length_nil, counts6_len]; omega))) ?_)
   refine sw (zD ((counts6 s k)[((s.qf[k]!).qw).toNat]!) 1 rfl rfl (by omega) ?_)
   refine sw (o_idxArr ((s.qf[k]!).qw) Tryz.underlying162 ti3 rfl rfl (by omega) (by omega) ?_)
   refine sw (o_storeArr H 1 rfl (((counts6 s k)[((s.qf[k]!).qw).toNat]!) + 1) Tryz.sizeOf3 rfl rfl (i := (((s.qf[k]!).qw).toNat)) (by omega) (by simp only [List.length_set, List.length_cons, List.length_nil, counts6_len]; omega) fun w25 H => ?_)
   rw [counts6_succ q1 q2] at H
   try dsimp only [List.set] at H
   refine qo (t_n (qh (qp ?_)))
   refine sw (qH b18 (0) 0 Tryz.underlying110 rfl rfl Tryz.sizeOf2 rfl ?_)
   refine sw (qC (.int .i64 ((s.qf[k]!).qw)) Tryz.isAgg2 rfl (H.cell 0 rfl rfl) ?_)
   refine sw (o_idxArr ((s.qf[k]!).qw) Tryz.underlying162 ti3 rfl rfl (by omega) (by omega) ?_)
   refine sw (qC (.int .i64 ((counts6 s (k + 1))[((s.qf[k]!).qw).toNat]!)) Tryz.isAgg3 rfl (H.cell 1 rfl (ints_at (iv := (s.qf[k]!).qw) (i := (((s.qf[k]!).qw).toNat)) (by omega) (by simp only [List.length_set, List.length_cons, List.length_nil, counts6_len]; omega))) ?_)
   refine sp (.bool (decide (((counts6 s (k + 1))[((s.qf[k]!).qw).toNat]! : Int) > 8))) ?_
   refine qo (t_n ?_)
   refine qP (decide (((counts6 s (k + 1))[((s.qf[k]!).qw).toNat]! : Int) > 8)) rfl (fun h26 => ?_) (fun h26 => ?_)
   ·skip
    replace h26 := of_decide_eq_true h26
    refine qh (qp ?_)
    refine sp (.bool false) ?_
    refine qo (t_n (xh (b_r (t_r (t_r (b_r (t_r ?_)))))))
    refine ret1 (.bool false) rfl rfl ⟨_, rfl, ?_, H.base⟩
    rw [xf (fun h => by obtain ⟨h1, h2, h3⟩ := h; first | contradiction | omega | (obtain ⟨r1, r2⟩ := h3 k (by omega); first | contradiction | (have := Xn (s := s) (k := k + 1) q1 q2; omega)))]
   replace h26 := of_decide_eq_false h26
   refine xg (b_n (t_n (qp ?_)))
   refine sw (zD k 1 rfl rfl (by omega) ?_)
   refine sp (.int .i64 (k + 1)) ?_
   refine qo ?_
   refine xy (m' := (s.qf.length - ((k + 1) : Int)).toNat) (by omega) ⟨_, k + 1, counts6 s (k + 1), (by exact qj (qj (qj (qj (qj (rfl) rfl) rfl) rfl) rfl) rfl), ?_, ?_, ?_, rfl, N, H.pick [1, 2] [7, 8]⟩
   · rfl
   · omega
   · exact i1.succ ‹_› (by have := Xn (s := s) (k := k + 1) q1 q2; omega)
  replace h13 := of_decide_eq_false h13
  refine zx (t_x (t_x (b_x (t_n (qh (qp ?_))))))
  refine sp (.bool true) ?_
  refine qo (t_n (xh ?_))
  refine ret1 (.bool true) rfl rfl ⟨_, rfl, ?_, H.base⟩
  rw [jD ⟨by assumption, by omega, (show s.qf.length = k by omega) ▸ i1⟩]
 replace h6 := qQ h6
 replace h6 := xP h6
 refine xN [10, 11, 12, 13] ?_
 refine sp (.bool true) ?_
 refine qo (t_n ?_)
 refine qP true rfl (fun _ => ?_) (fun h => absurd h (by decide))
 refine qh (qp ?_)
 refine sp (.bool false) ?_
 refine qo (t_n (xh (t_r ?_)))
 refine ret1 (.bool false) rfl rfl ⟨_, rfl, ?_, H.base⟩
 rw [xf (fun h => by obtain ⟨h1, h2, h3⟩ := h; first | contradiction | omega | (obtain ⟨r1, r2⟩ := h3 k (by omega); first | contradiction | (have := Xn (s := s) (k := k + 1) q1 q2; omega)))]

theorem validState_ok (w : World) (s : qR) (t : xF) (qm : Option Addr) (ql : Nat) (qL : List Nat) (qE : Option Addr) (qA : Nat) (xk : List Nat) (xu : Option Addr) (qZ : Nat) (xY : List Nat) (xB : Option Addr) (xx : Nat) (zG : List Nat) (qV : Option Addr) (qU : Nat) (xJ : List Nat) (qY : qM.rep w qL [.slice qm s.qg.length ql] s.qg) (xA : qM.rep w xk [.slice qE s.qf.length qA] s.qf) (zo : qM.rep w xY [.slice xu t.qy.length qZ] t.qy) (zT : qM.rep w zG [.slice xB t.qG.length xx] t.qG) (xR : qM.rep w xJ [.slice qV t.qB.length qU] t.qB) : Calls Tryz.prog 76 #[.agg #[.int .i64 s.qF, .slice qm s.qg.length ql, .slice qE s.qf.length qA], .agg #[.slice xu t.qy.length qZ, .slice xB t.qG.length xx, .slice qV t.qB.length qU]] w (Ret (fun v w' => v = .bool (dec (Qj s ∧ zY s t))) w) := by
 refine enter (n := 70) Tryz.func76 rfl Tryz.ntmps76 (Nat.le_of_ble_eq_true rfl) ?_
 have H := (((((St.start w).arg xR).arg zT).arg zo).arg xA).arg qY
 have zH := qJ qY
 have vN := qJ xA
 have QB := qJ zo
 have nhtBags := qJ zT
 have yS := qJ xR
 clear qY xA zo zT xR
 have N := Fresh.nil w.heap.size
 refine qh (qp ?_)
 refine sw (jy H [.int .i64 s.qF, .slice qm s.qg.length ql, .slice qE s.qf.length qA] fun b1 w2 H => ?_)
 refine sw (jy H [.slice xu t.qy.length qZ, .slice xB t.qG.length xx, .slice qV t.qB.length qU] fun b3 w4 H => ?_)
 refine sp (.bool false) ?_
 refine qo (t_n (qh (qh (qp ?_))))
 refine sw (zn [.int .i64 s.qF, .slice qm s.qg.length ql, .slice qE s.qf.length qA] Tryz.isAgg36 Tryz.sizeOf36 rfl (qK (H.cells 1 rfl) 0 3) ?_)
 refine sw (xm #[.agg #[.int .i64 s.qF, .slice qm s.qg.length ql, .slice qE s.qf.length qA]] rfl rfl Tryz.call122 (validSystem_ok w4 s qm ql qL qE qA xk (H.get 0 rfl).1 (H.get 1 rfl).1) ?_)
 rintro _ w6 rfl x7
 replace H := H.ext x7
 refine sps [.bool (!(dec (Qj s))), .bool (!(dec (Qj s)))] ?_
 cases h8 : (!(dec (Qj s)))
 ·skip
  replace h8 := qN h8
  replace h8 := vT h8
  have z1 := (‹Qj s› : Qj s).1.2.1
  refine qO 10 rfl rfl ?_
  refine sw (qH b3 (0) 0 Tryz.underlying38 rfl rfl Tryz.sizeOf26 rfl ?_)
  refine qO 10 rfl rfl ?_
  refine sw (qC (.slice xu t.qy.length qZ) Tryz.isAgg26 rfl (H.cell 0 rfl rfl) ?_)
  refine qO 10 rfl rfl ?_
  refine sw (zK Tryz.underlying26 xu t.qy.length qZ rfl ?_)
  refine qO 10 rfl rfl ?_
  refine sw (qH b1 (0) 1 Tryz.underlying36 rfl rfl Tryz.sizeOf22 rfl ?_)
  refine qO 10 rfl rfl ?_
  refine sw (qC (.slice qm s.qg.length ql) Tryz.isAgg22 rfl (H.cell 1 rfl rfl) ?_)
  refine qO 10 rfl rfl ?_
  refine sw (zK Tryz.underlying22 qm s.qg.length ql rfl ?_)
  refine qO 10 rfl rfl ?_
  refine sps [.bool ((t.qy.length : Int) != s.qg.length), .bool ((t.qy.length : Int) != s.qg.length), .bool ((t.qy.length : Int) != s.qg.length)] ?_
  cases h9 : ((t.qy.length : Int) != s.qg.length)
  ·skip
   replace h9 := xI h9
   refine qO 19 rfl rfl ?_
   refine sw (qH b3 (0) 1 Tryz.underlying38 rfl rfl Tryz.sizeOf27 rfl ?_)
   refine qO 19 rfl rfl ?_
   refine sw (qC (.slice xB t.qG.length xx) Tryz.isAgg27 rfl (H.cell 0 rfl rfl) ?_)
   refine qO 19 rfl rfl ?_
   refine sw (zK Tryz.underlying27 xB t.qG.length xx rfl ?_)
   refine qO 19 rfl rfl ?_
   refine sw (qH b1 (0) 1 Tryz.underlying36 rfl rfl Tryz.sizeOf22 rfl ?_)
   refine qO 19 rfl rfl ?_
   refine sw (qC (.slice qm s.qg.length ql) Tryz.isAgg22 rfl (H.cell 1 rfl rfl) ?_)
   refine qO 19 rfl rfl ?_
   refine sw (zK Tryz.underlying22 qm s.qg.length ql rfl ?_)
   refine qO 19 rfl rfl ?_
   refine sps [.bool ((t.qG.length : Int) != s.qg.length), .bool ((t.qG.length : Int) != s.qg.length), .bool ((t.qG.length : Int) != s.qg.length)] ?_
   cases h10 : ((t.qG.length : Int) != s.qg.length)
   ·skip
    replace h10 := xI h10
    refine qO 28 rfl rfl ?_
    refine sw (qH b3 (0) 0 Tryz.underlying38 rfl rfl Tryz.sizeOf26 rfl ?_)
    refine qO 28 rfl rfl ?_
    refine sw (qC (.slice xu t.qy.length qZ) Tryz.isAgg26 rfl (H.cell 0 rfl rfl) ?_)
    refine qO 28 rfl rfl ?_
    obtain ⟨b11, o12, rfl⟩ := H.addr 2 rfl (by omega)
    refine sw (xE 0 Tryz.underlying26 ti4 rfl rfl (by omega) (by omega) ?_)
    refine qO 28 rfl rfl ?_
    refine sw (qC (.bool (t.qy[0]!)) Tryz.isAgg4 rfl (H.yU 2 rfl 0 (by omega) (by omega)) ?_)
    refine qO 28 rfl rfl ?_
    refine sps [.bool (!(t.qy[0]!)), .bool (!(t.qy[0]!)), .bool (!(t.qy[0]!))] ?_
    cases h14 : (!(t.qy[0]!))
    ·skip
     replace h14 := qN h14
     refine qO 35 rfl rfl ?_
     refine sw (qH b1 (0) 0 Tryz.underlying36 rfl rfl Tryz.sizeOf2 rfl ?_)
     refine qO 35 rfl rfl ?_
     refine sw (qC (.int .i64 s.qF) Tryz.isAgg2 rfl (H.cell 1 rfl rfl) ?_)
     refine qO 35 rfl rfl ?_
     refine sw (qH b3 (0) 2 Tryz.underlying38 rfl rfl Tryz.sizeOf22 rfl ?_)
     refine qO 35 rfl rfl ?_
     refine sw (qC (.slice qV t.qB.length qU) Tryz.isAgg22 rfl (H.cell 0 rfl rfl) ?_)
     refine qO 35 rfl rfl ?_
     refine sw (xm #[.int .i64 s.qF, .slice qV t.qB.length qU] rfl rfl Tryz.call123 (Xl w6 s.qF t.qB qV qU xJ (H.get 4 rfl).1) ?_)
     rintro _ w15 rfl x16
     replace H := H.ext x16
     refine qO 35 rfl rfl ?_
     refine sps [.bool (!(dec (zi s.qF t.qB))), .bool (!(dec (zi s.qF t.qB)))] ?_
     refine qo (t_n ?_)
     refine qP (!(dec (zi s.qF t.qB))) rfl (fun h17 => ?_) (fun h17 => ?_)
     ·skip
      replace h17 := qQ h17
      replace h17 := xP h17
      refine qh (qp ?_)
      refine sp (.bool false) ?_
      refine qo (t_n (xh (t_r ?_)))
      refine ret1 (.bool false) rfl rfl ⟨_, rfl, ?_, H.base⟩
      rw [xf (fun h => by obtain ⟨h0, h1, h2, h3, h4, h5⟩ := h; first | contradiction | omega | (simp_all; done) | (obtain ⟨q1, q2⟩ := h5 c (by omega); first | contradiction | (have := q2 (by assumption); omega)))]
     replace h17 := qN h17
     replace h17 := vT h17
     refine xg (t_n (qh (qh (qp ?_))))
     refine sw (qH b3 (0) 1 Tryz.underlying38 rfl rfl Tryz.sizeOf27 rfl ?_)
     refine sw (qC (.slice xB t.qG.length xx) Tryz.isAgg27 rfl (H.cell 0 rfl rfl) ?_)
     refine sw (zK Tryz.underlying27 xB t.qG.length xx rfl ?_)
     refine sp (.int .i64 0) ?_
     refine qo (t_n (xn ?_))
     refine zC (fun m' ρ w18 => ∃ (junk : Env) (c : Nat), ρ = upd (upd (upd (upd (upd junk 2 (pp b1 0)) 3 (pp b3 0)) 44 (.slice xB t.qG.length xx)) 45 (.int .i64 t.qG.length)) 46 (.int .i64 c) ∧ ((c : Int) ≤ t.qG.length) ∧ (BagsTo s t c) ∧ m' = (t.qG.length - (c : Int)).toNat ∧ Fresh w.heap.size [] ∧ St w w18 [.box b3 [.slice (aa b11 o12) t.qy.length qZ, .slice xB t.qG.length xx, .slice qV t.qB.length qU] 38, .box b1 [.int .i64 s.qF, .slice qm s.qg.length ql, .slice qE s.qf.length qA] 36] [isF false qL (.slice qm s.qg.length ql) s.qg, isF false xk (.slice qE s.qf.length qA) s.qf, isF false xY (.slice (aa b11 o12) t.qy.length qZ) t.qy, isF false zG (.slice xB t.qG.length xx) t.qG, isF false xJ (.slice qV t.qB.length qU) t.qB]) ((t.qG.length - (0 : Int)).toNat) ⟨_, 0, (by exact qj (qj (qj (qj (qj (rfl) rfl) rfl) rfl) rfl) rfl), (by omega), (by exact fun j hj => by omega), rfl, N, H⟩ ?_
     clear H N
     rintro m' ρ w19 ⟨junk, c, rfl, i0, i1, rfl, N, H⟩
     refine qh (qp ?_)
     refine sp (.bool (decide ((c : Int) < t.qG.length))) ?_
     refine qo (t_n (qh ?_))
     refine qP (decide ((c : Int) < t.qG.length)) rfl (fun h20 => ?_) (fun h20 => ?_)
     ·skip
      replace h20 := of_decide_eq_true h20
      refine xg (t_n (qh (xn (qh (qp ?_)))))
      refine sp (.int .i64 c) ?_
      obtain ⟨b21, o22, rfl⟩ := H.addr 3 rfl (by omega)
      obtain ⟨ae24, ce24, Fe24, H⟩ := H.Xk 3 rfl c c (by omega) (by omega) (by omega)
      refine sw (xE c Tryz.underlying27 ti22 rfl rfl (by omega) (by omega) ?_)
      refine sw (qC (.slice ae24 ((t.qG[c]!).length) ce24) Tryz.isAgg22 rfl (H.xU 1 rfl 0 rfl) ?_)
      refine sps [.int .i64 c, .slice ae24 ((t.qG[c]!).length) ce24] ?_
      refine qo (t_n (qh (qp ?_)))
      refine sw (qH b1 (0) 0 Tryz.underlying36 rfl rfl Tryz.sizeOf2 rfl ?_)
      refine sw (qC (.int .i64 s.qF) Tryz.isAgg2 rfl (H.cell 1 rfl rfl) ?_)
      refine sp (.slice ae24 ((t.qG[c]!).length) ce24) ?_
      refine sw (xm #[.int .i64 s.qF, .slice ae24 ((t.qG[c]!).length) ce24] rfl rfl Tryz.call123 (Xl w19 s.qF (t.qG[c]!) ae24 ce24 Fe24 (H.get 0 rfl).1) ?_)
      rintro _ w25 rfl x26
      replace H := H.ext x26
      refine sps [.bool (!(dec (zi s.qF (t.qG[c]!)))), .bool (!(dec (zi s.qF (t.qG[c]!))))] ?_
      cases h27 : (!(dec (zi s.qF (t.qG[c]!))))
      ·skip
       replace h27 := qN h27
       replace h27 := vT h27
       refine qO 56 rfl rfl ?_
       refine sw (qH b3 (0) 0 Tryz.underlying38 rfl rfl Tryz.sizeOf26 rfl ?_)
       refine qO 56 rfl rfl ?_
       refine sw (qC (.slice (aa b11 o12) t.qy.length qZ) Tryz.isAgg26 rfl (H.cell 0 rfl rfl) ?_)
       refine qO 56 rfl rfl ?_
       refine sp (.int .i64 c) ?_
       refine qO 56 rfl rfl ?_
       refine sw (xE c Tryz.underlying26 ti4 rfl rfl (by omega) (by omega) ?_)
       refine qO 56 rfl rfl ?_
       refine sw (qC (.bool (t.qy[c]!)) Tryz.isAgg4 rfl (H.yU 4 rfl c (by omega) (by omega)) ?_)
       refine qO 56 rfl rfl ?_
       refine sp (.bool (!(t.qy[c]!))) ?_
       refine qO 56 rfl rfl ?_
       refine sp (.bool (!(t.qy[c]!))) ?_
       cases h28 : (!(t.qy[c]!))
       ·skip
        replace h28 := qN h28
        refine xN [64, 65, 66] ?_
        refine qO 56 rfl rfl ?_
        refine sps [.bool false, .bool false] ?_
        refine qo (t_n ?_)
        refine qP false rfl (fun h => absurd h (by decide)) (fun _ => ?_)
        refine xg (b_n (t_n (qp ?_)))
        refine sw (zD c 1 rfl rfl (by omega) ?_)
        refine sp (.int .i64 (c + 1)) ?_
        refine qo ?_
        refine xy (m' := (t.qG.length - ((c + 1) : Int)).toNat) (by omega) ⟨_, c + 1, (by exact qj (qj (qj (qj (qj (rfl) rfl) rfl) rfl) rfl) rfl), ?_, ?_, rfl, N, H.pick [0, 1] [2, 3, 4, 5, 6]⟩
        · omega
        · exact i1.succ ‹_› (fun hk => by first | omega | simp_all)
       replace h28 := qQ h28
       refine qO 63 rfl rfl ?_
       refine sp (.slice ae24 ((t.qG[c]!).length) ce24) ?_
       refine qO 63 rfl rfl ?_
       refine sw (xm #[.slice ae24 ((t.qG[c]!).length) ce24] rfl rfl Tryz.call124 (bagSize_ok w25 (t.qG[c]!) ae24 ce24 Fe24 (H.get 0 rfl).1 (by first | assumption | exact vG (by assumption) | exact Qi (by assumption))) ?_)
       rintro _ w29 rfl x30
       replace H := H.ext x30
       refine qO 63 rfl rfl ?_
       refine sp (.bool (decide ((sumL (t.qG[c]!) : Int) > 0))) ?_
       refine qO 56 rfl rfl ?_
       refine sps [.bool (decide ((sumL (t.qG[c]!) : Int) > 0)), .bool (decide ((sumL (t.qG[c]!) : Int) > 0))] ?_
       refine qo (t_n ?_)
       refine qP (decide ((sumL (t.qG[c]!) : Int) > 0)) rfl (fun h31 => ?_) (fun h31 => ?_)
       ·skip
        replace h31 := of_decide_eq_true h31
        refine qh (qp ?_)
        refine sp (.bool false) ?_
        refine qo (t_n (xh (b_r (t_r (t_r (b_r (t_r ?_)))))))
        refine ret1 (.bool false) rfl rfl ⟨_, rfl, ?_, H.base⟩
        rw [xf (fun h => by obtain ⟨h0, h1, h2, h3, h4, h5⟩ := h; first | contradiction | omega | (simp_all; done) | (obtain ⟨q1, q2⟩ := h5 c (by omega); first | contradiction | (have := q2 (by assumption); omega)))]
       replace h31 := of_decide_eq_false h31
       refine xg (b_n (t_n (qp ?_)))
       refine sw (zD c 1 rfl rfl (by omega) ?_)
       refine sp (.int .i64 (c + 1)) ?_
       refine qo ?_
       refine xy (m' := (t.qG.length - ((c + 1) : Int)).toNat) (by omega) ⟨_, c + 1, (by exact qj (qj (qj (qj (qj (rfl) rfl) rfl) rfl) rfl) rfl), ?_, ?_, rfl, N, H.pick [0, 1] [2, 3, 4, 5, 6]⟩
       · omega
       · exact i1.succ ‹_› (fun hk => by first | omega | simp_all)
      replace h27 := qQ h27
      replace h27 := xP h27
      refine xN [57, 58, 59, 60, 61, 62, 63, 64, 65, 66, 67] ?_
      refine sp (.bool true) ?_
      refine qo (t_n ?_)
      refine qP true rfl (fun _ => ?_) (fun h => absurd h (by decide))
      refine qh (qp ?_)
      refine sp (.bool false) ?_
      refine qo (t_n (xh (b_r (t_r (t_r (b_r (t_r ?_)))))))
      refine ret1 (.bool false) rfl rfl ⟨_, rfl, ?_, H.base⟩
      rw [xf (fun h => by obtain ⟨h0, h1, h2, h3, h4, h5⟩ := h; first | contradiction | omega | (simp_all; done) | (obtain ⟨q1, q2⟩ := h5 c (by omega); first | contradiction | (have := q2 (by assumption); omega)))]
     replace h20 := of_decide_eq_false h20
     refine zx (t_x (t_x (b_x (t_n (qh (qp ?_))))))
     refine sp (.bool true) ?_
     refine qo (t_n (xh ?_))
     refine ret1 (.bool true) rfl rfl ⟨_, rfl, ?_, H.base⟩
     rw [jD ⟨by assumption, by omega, by omega, by first | assumption | simp_all, by assumption, (show t.qG.length = c by omega) ▸ i1⟩]
    replace h14 := qQ h14
    refine xN [36, 37, 38, 39, 40, 41] ?_
    refine sp (.bool true) ?_
    refine qo (t_n ?_)
    refine qP true rfl (fun _ => ?_) (fun h => absurd h (by decide))
    refine qh (qp ?_)
    refine sp (.bool false) ?_
    refine qo (t_n (xh (t_r ?_)))
    refine ret1 (.bool false) rfl rfl ⟨_, rfl, ?_, H.base⟩
    rw [xf (fun h => by obtain ⟨h0, h1, h2, h3, h4, h5⟩ := h; first | contradiction | omega | (simp_all; done) | (obtain ⟨q1, q2⟩ := h5 c (by omega); first | contradiction | (have := q2 (by assumption); omega)))]
   replace h10 := bne_iff_ne.1 h10
   refine xN [29, 30, 31, 32, 33] ?_
   refine sps [.bool true, .bool true] ?_
   refine xN [36, 37, 38, 39, 40, 41] ?_
   refine sp (.bool true) ?_
   refine qo (t_n ?_)
   refine qP true rfl (fun _ => ?_) (fun h => absurd h (by decide))
   refine qh (qp ?_)
   refine sp (.bool false) ?_
   refine qo (t_n (xh (t_r ?_)))
   refine ret1 (.bool false) rfl rfl ⟨_, rfl, ?_, H.base⟩
   rw [xf (fun h => by obtain ⟨h0, h1, h2, h3, h4, h5⟩ := h; first | contradiction | omega | (simp_all; done) | (obtain ⟨q1, q2⟩ := h5 c (by omega); first | contradiction | (have := q2 (by assumption); omega)))]
  replace h9 := bne_iff_ne.1 h9
  refine xN [20, 21, 22, 23, 24, 25, 26] ?_
  refine sps [.bool true, .bool true] ?_
  refine xN [29, 30, 31, 32, 33] ?_
  refine sps [.bool true, .bool true] ?_
  refine xN [36, 37, 38, 39, 40, 41] ?_
  refine sp (.bool true) ?_
  refine qo (t_n ?_)
  refine qP true rfl (fun _ => ?_) (fun h => absurd h (by decide))
  refine qh (qp ?_)
  refine sp (.bool false) ?_
  refine qo (t_n (xh (t_r ?_)))
  refine ret1 (.bool false) rfl rfl ⟨_, rfl, ?_, H.base⟩
  rw [xf (fun h => by obtain ⟨h0, h1, h2, h3, h4, h5⟩ := h; first | contradiction | omega | (simp_all; done) | (obtain ⟨q1, q2⟩ := h5 c (by omega); first | contradiction | (have := q2 (by assumption); omega)))]
 replace h8 := qQ h8
 replace h8 := xP h8
 refine xN [11, 12, 13, 14, 15, 16, 17] ?_
 refine sps [.bool true, .bool true] ?_
 refine xN [20, 21, 22, 23, 24, 25, 26] ?_
 refine sps [.bool true, .bool true] ?_
 refine xN [29, 30, 31, 32, 33] ?_
 refine sps [.bool true, .bool true] ?_
 refine xN [36, 37, 38, 39, 40, 41] ?_
 refine sp (.bool true) ?_
 refine qo (t_n ?_)
 refine qP true rfl (fun _ => ?_) (fun h => absurd h (by decide))
 refine qh (qp ?_)
 refine sp (.bool false) ?_
 refine qo (t_n (xh (t_r ?_)))
 refine ret1 (.bool false) rfl rfl ⟨_, rfl, ?_, H.base⟩
 rw [xf (fun h => by obtain ⟨h0, h1, h2, h3, h4, h5⟩ := h; first | contradiction | omega | (simp_all; done) | (obtain ⟨q1, q2⟩ := h5 c (by omega); first | contradiction | (have := q2 (by assumption); omega)))]

theorem parentNow_ok (w : World) (s : qR) (t : xF) (c : Int) (qm : Option Addr) (ql : Nat) (qL : List Nat) (qE : Option Addr) (qA : Nat) (xk : List Nat) (xu : Option Addr) (qZ : Nat) (xY : List Nat) (xB : Option Addr) (xx : Nat) (zG : List Nat) (qV : Option Addr) (qU : Nat) (xJ : List Nat) (qY : qM.rep w qL [.slice qm s.qg.length ql] s.qg) (xA : qM.rep w xk [.slice qE s.qf.length qA] s.qf) (zo : qM.rep w xY [.slice xu t.qy.length qZ] t.qy) (zT : qM.rep w zG [.slice xB t.qG.length xx] t.qG) (xR : qM.rep w xJ [.slice qV t.qB.length qU] t.qB) (p0 : vZ s) (p1 : CellIn s c) (p2 : t.qy.length = s.qg.length) : Calls Tryz.prog 144 #[.agg #[.int .i64 s.qF, .slice qm s.qg.length ql, .slice qE s.qf.length qA], .agg #[.slice xu t.qy.length qZ, .slice xB t.qG.length xx, .slice qV t.qB.length qU], .int .i64 c] w (Ret (fun v w' => v = .int .i64 (xK s t c)) w) := by
 refine enter (n := 29) Tryz.func144 rfl Tryz.ntmps144 (Nat.le_of_ble_eq_true rfl) ?_
 have H := (((((St.start w).arg xR).arg zT).arg zo).arg xA).arg qY
 have zH := qJ qY
 have vN := qJ xA
 have QB := qJ zo
 have nhtBags := qJ zT
 have yS := qJ xR
 clear qY xA zo zT xR
 have N := Fresh.nil w.heap.size
 have p3 := p0.step p1.1 p1.2
 refine qh (qp ?_)
 refine sw (jy H [.int .i64 s.qF, .slice qm s.qg.length ql, .slice qE s.qf.length qA] fun b1 w2 H => ?_)
 refine sw (jy H [.slice xu t.qy.length qZ, .slice xB t.qG.length xx, .slice qV t.qB.length qU] fun b3 w4 H => ?_)
 refine sp (.int .i64 0) ?_
 refine qo (t_n (qh (qp ?_)))
 refine sw (qH b1 (0) 1 Tryz.underlying36 rfl rfl Tryz.sizeOf22 rfl ?_)
 refine sw (qC (.slice qm s.qg.length ql) Tryz.isAgg22 rfl (H.cell 1 rfl rfl) ?_)
 refine sp (.int .i64 c) ?_
 obtain ⟨b5, o6, rfl⟩ := H.addr 0 rfl (by omega)
 refine sw (xE c Tryz.underlying22 ti2 rfl rfl (by omega) (by omega) ?_)
 refine sw (qC (.int .i64 (s.qg[c.toNat]!)) Tryz.isAgg2 rfl (H.vH 0 rfl c (by omega) (by omega)) ?_)
 refine sp (.int .i64 (s.qg[c.toNat]!)) ?_
 refine qo (t_n (qh (xn ?_)))
 refine zC (fun m' ρ w8 => ∃ (junk : Env) (p : Int) (n : Nat), ρ = upd (upd (upd junk 3 (pp b1 0)) 4 (pp b3 0)) 7 (.int .i64 p) ∧ (-1 ≤ p ∧ p ≤ (s.qg.length : Int) - 1) ∧ (p < n) ∧ (xK s t c = climb s.qg t.qy n p) ∧ m' = (p + 1).toNat ∧ Fresh w.heap.size [] ∧ St w w8 [.box b3 [.slice xu t.qy.length qZ, .slice xB t.qG.length xx, .slice qV t.qB.length qU] 38, .box b1 [.int .i64 s.qF, .slice (aa b5 o6) s.qg.length ql, .slice qE s.qf.length qA] 36] [isF false qL (.slice (aa b5 o6) s.qg.length ql) s.qg, isF false xk (.slice qE s.qf.length qA) s.qf, isF false xY (.slice xu t.qy.length qZ) t.qy, isF false zG (.slice xB t.qG.length xx) t.qG, isF false xJ (.slice qV t.qB.length qU) t.qB]) (((s.qg[c.toNat]!) + 1).toNat) ⟨_, s.qg[c.toNat]!, s.qg.length, (by exact qj (qj (qj (rfl) rfl) rfl) rfl), (by omega), (by omega), (by rfl), rfl, N, H⟩ ?_
 clear H N
 rintro m' ρ w9 ⟨junk, p, n, rfl, i0, i1, i2, rfl, N, H⟩
 have up := fun h => p0.step (c := p) h i0.2
 refine qh (qh (qp ?_))
 refine sps [.int .i64 p, .bool (decide ((p : Int) ≥ 0)), .bool (decide ((p : Int) ≥ 0))] ?_
 cases h10 : (decide ((p : Int) ≥ 0))
 ·skip
  replace h10 := of_decide_eq_false h10
  refine xN [16, 17, 18, 19, 20, 21] ?_
  refine sp (.bool false) ?_
  refine qo (t_n ?_)
  refine qP false rfl (fun h => absurd h (by decide)) (fun _ => ?_)
  refine zx (t_x (t_x (b_x (t_n (qh (qp ?_))))))
  refine sps [.int .i64 p, .int .i64 p] ?_
  refine qo (t_n (xh ?_))
  refine ret1 (.int .i64 p) rfl rfl ⟨_, rfl, ?_, H.base⟩
  rw [i2, climb_end (by first | omega | simp_all)]
 replace h10 := of_decide_eq_true h10
 refine qO 15 rfl rfl ?_
 refine sw (qH b3 (0) 0 Tryz.underlying38 rfl rfl Tryz.sizeOf26 rfl ?_)
 refine qO 15 rfl rfl ?_
 refine sw (qC (.slice xu t.qy.length qZ) Tryz.isAgg26 rfl (H.cell 0 rfl rfl) ?_)
 refine qO 15 rfl rfl ?_
 refine sp (.int .i64 p) ?_
 refine qO 15 rfl rfl ?_
 obtain ⟨b11, o12, rfl⟩ := H.addr 2 rfl (by omega)
 refine sw (xE p Tryz.underlying26 ti4 rfl rfl (by omega) (by omega) ?_)
 refine qO 15 rfl rfl ?_
 refine sw (qC (.bool (t.qy[p.toNat]!)) Tryz.isAgg4 rfl (H.yU 2 rfl p (by omega) (by omega)) ?_)
 refine qO 15 rfl rfl ?_
 refine sps [.bool (!(t.qy[p.toNat]!)), .bool (!(t.qy[p.toNat]!))] ?_
 refine qo (t_n ?_)
 refine qP (!(t.qy[p.toNat]!)) rfl (fun h14 => ?_) (fun h14 => ?_)
 ·skip
  replace h14 := qQ h14
  refine xg (t_n (xn (qp ?_)))
  refine sw (qH b1 (0) 1 Tryz.underlying36 rfl rfl Tryz.sizeOf22 rfl ?_)
  refine sw (qC (.slice (aa b5 o6) s.qg.length ql) Tryz.isAgg22 rfl (H.cell 1 rfl rfl) ?_)
  refine sp (.int .i64 p) ?_
  refine sw (xE p Tryz.underlying22 ti2 rfl rfl (by omega) (by omega) ?_)
  refine sw (qC (.int .i64 (s.qg[p.toNat]!)) Tryz.isAgg2 rfl (H.vH 0 rfl p (by omega) (by omega)) ?_)
  refine sp (.int .i64 (s.qg[p.toNat]!)) ?_
  refine qo (b_n ?_)
  have up1 := up (by omega)
  refine xy (m' := ((s.qg[p.toNat]!) + 1).toNat) (by omega) ⟨_, s.qg[p.toNat]!, n - 1, (by exact qj (qj (qj (rfl) rfl) rfl) rfl), ?_, ?_, ?_, rfl, N, H⟩
  · omega
  · omega
  · exact i2.trans (climb_go (by omega) (by omega) ‹_›)
 replace h14 := qN h14
 refine zx (t_x (t_x (b_x (t_n (qh (qp ?_))))))
 refine sps [.int .i64 p, .int .i64 p] ?_
 refine qo (t_n (xh ?_))
 refine ret1 (.int .i64 p) rfl rfl ⟨_, rfl, ?_, H.base⟩
 rw [i2, climb_end (by first | omega | simp_all)]

end Go.Proofs.YtkmlihdacnfhdaaGreat
