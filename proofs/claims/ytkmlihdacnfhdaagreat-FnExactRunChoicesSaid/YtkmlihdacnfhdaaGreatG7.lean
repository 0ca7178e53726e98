/- Walks, printed by program (wip/tools/gv.py): what each function comes to, for all arguments. -/
import Derived.Test.YtkmlihdacnfhdaaGreatG6
namespace Go.Proofs.YtkmlihdacnfhdaaGreat
open Go.Proofs.YtkmlihdacnfhdaaGreat.Tot (tot)
open Go.Proofs.YtkmlihdacnfhdaaGreat.Mark (cnt mrk mkd mkd_mark cnt_mark)
open Go.RowKit
set_option linter.unusedVariables false
set_option linter.unusedSimpArgs false
set_option maxRecDepth 100000
set_option maxHeartbeats 4000000

theorem ti3 : TI Tryz.prog 3 (.int .i64 0) 1 8 := by unfold TI; kernel_rfl
theorem ti162 : TI Tryz.prog 162 (.agg #[.int .i64 0, .int .i64 0, .int .i64 0, .int .i64 0, .int .i64 0, .int .i64 0]) 6 48 := by unfold TI; kernel_rfl


theorem validSystem_ok (w : World) (s : qX) (qw : Option Addr) (qo : Nat) (qO : List Nat) (qF : Option Addr) (qB : Nat) (xw : List Nat) (xx : qV.rep w qO [.slice qw s.qf.length qo] s.qf) (xM : qV.rep w xw [.slice qF s.qg.length qB] s.qg) : Calls Tryz.prog 122 #[.agg #[.int .i64 s.qJ, .slice qw s.qf.length qo, .slice qF s.qg.length qB]] w (Ret (fun v w' => v = .bool (dec (yI s))) w) := by
 refine enter (n := 39) Tryz.func122 rfl Tryz.ntmps122 (Nat.le_of_ble_eq_true rfl) ?_
 have H := ((St.start w).arg xM).arg xx
 have vU := qN xx
 have jW := qN xM
 clear xx xM
 have N := Fresh.nil w.heap.size
 have p1 := fun h : yE s => h.2.1
 refine qm (qA ?_)
 refine sw (yN H [.int .i64 s.qJ, .slice qw s.qf.length qo, .slice qF s.qg.length qB] fun b1 w2 H => ?_)
 refine sp (.bool false) ?_
 refine qx (t_n (qm (qm (qA ?_))))
 refine sw (zg [.int .i64 s.qJ, .slice qw s.qf.length qo, .slice qF s.qg.length qB] Tryz.isAgg36 Tryz.sizeOf36 rfl (qH (H.cells 0 rfl) 0 3) ?_)
 refine sw (qZ #[.agg #[.int .i64 s.qJ, .slice qw s.qf.length qo, .slice qF s.qg.length qB]] rfl rfl Tryz.call152 (isShell_ok w2 s qw qo qO qF qB xw (H.get 0 rfl).1 (H.get 1 rfl).1) ?_)
 rintro _ w4 rfl x5
 replace H := H.ext x5
 refine sps [.bool (!(dec (yE s))), .bool (!(dec (yE s)))] ?_
 cases h6 : (!(dec (yE s)))
 ·skip
  replace h6 := qY h6
  replace h6 := jG h6
  refine qQ 9 rfl rfl ?_
  refine sw (qP b1 (0) 2 Tryz.underlying36 rfl rfl Tryz.sizeOf34 rfl ?_)
  refine qQ 9 rfl rfl ?_
  refine sw (qE (.slice qF s.qg.length qB) Tryz.isAgg34 rfl (H.cell 0 rfl rfl) ?_)
  refine qQ 9 rfl rfl ?_
  refine sw (zX Tryz.underlying34 qF s.qg.length qB rfl ?_)
  refine qQ 9 rfl rfl ?_
  refine sps [.bool (decide ((s.qg.length : Int) > 16)), .bool (decide ((s.qg.length : Int) > 16))] ?_
  refine qx (t_n ?_)
  refine qW (decide ((s.qg.length : Int) > 16)) rfl (fun h7 => ?_) (fun h7 => ?_)
  ·skip
   replace h7 := of_decide_eq_true h7
   refine qm (qA ?_)
   refine sp (.bool false) ?_
   refine qx (t_n (xC (t_r ?_)))
   refine ret1 (.bool false) rfl rfl ⟨_, rfl, ?_, H.base⟩
   rw [xy (fun h => by obtain ⟨h1, h2, h3⟩ := h; first | contradiction | omega | (obtain ⟨r1, r2⟩ := h3 k (by omega); first | contradiction | (have := Vq (s := s) (k := k + 1) q1 q2; omega)))]
  replace h7 := of_decide_eq_false h7
  refine xk (t_n (qm (qA ?_)))
  refine sw (jo [.int .i64 0, .int .i64 0, .int .i64 0, .int .i64 0, .int .i64 0, .int .i64 0] [] ?_)
  refine sw (zn H ti162 [.int .i64 0, .int .i64 0, .int .i64 0, .int .i64 0, .int .i64 0, .int .i64 0] fun b8 w9 H => ?_)
  refine sw (xP H 0 [.int .i64 0, .int .i64 0, .int .i64 0, .int .i64 0, .int .i64 0, .int .i64 0] Tryz.sizeOf162 fun w10 H => ?_)
  try dsimp only [List.set] at H
  refine qx (t_n (qm (qm (qA ?_))))
  refine sw (qP b1 (0) 2 Tryz.underlying36 rfl rfl Tryz.sizeOf34 rfl ?_)
  refine sw (qE (.slice qF s.qg.length qB) Tryz.isAgg34 rfl (H.cell 1 rfl rfl) ?_)
  refine sw (zX Tryz.underlying34 qF s.qg.length qB rfl ?_)
  refine sp (.int .i64 0) ?_
  refine qx (t_n (xE ?_))
  try dsimp only [List.set] at H
  have p2 := p1 ‹_›
  refine zU (fun m' ρ w11 => ∃ (junk : Env) (k : Nat) (many : List Int), ρ = upd (upd (upd (upd (upd junk 1 (pp b1 0)) 3 (pp b8 0)) 17 (.slice qF s.qg.length qB)) 18 (.int .i64 s.qg.length)) 19 (.int .i64 k) ∧ many = counts6 s k ∧ ((k : Int) ≤ s.qg.length) ∧ (RulesTo s k) ∧ m' = (s.qg.length - (k : Int)).toNat ∧ Fresh w.heap.size [] ∧ St w w11 [.box b8 (many.map (Value.int .i64)) 162, .box b1 [.int .i64 s.qJ, .slice qw s.qf.length qo, .slice qF s.qg.length qB] 36] [isF false qO (.slice qw s.qf.length qo) s.qf, isF false xw (.slice qF s.qg.length qB) s.qg]) ((s.qg.length - (0 : Int)).toNat) ⟨_, 0, [0, 0, 0, 0, 0, 0], (by exact qj (qj (qj (qj (qj (rfl) rfl) rfl) rfl) rfl) rfl), (by exact counts6_zero s), (by omega), (by exact fun j hj => by omega), rfl, N, H⟩ ?_
  clear H N
  rintro m' ρ w12 ⟨junk, k, many, rfl, rfl, i0, i1, rfl, N, H⟩
  refine qm (qA ?_)
  refine sp (.bool (decide ((k : Int) < s.qg.length))) ?_
  refine qx (t_n (qm ?_))
  refine qW (decide ((k : Int) < s.qg.length)) rfl (fun h13 => ?_) (fun h13 => ?_)
  ·skip
   replace h13 := of_decide_eq_true h13
   refine xk (t_n (qm (xE (qm (qA ?_)))))
   obtain ⟨b14, o15, rfl⟩ := H.addr 1 rfl (by omega)
   obtain ⟨ae17Need, ce17Need, Fe17Need, ae17Have, ce17Have, Fe17Have, ae17Lack, ce17Lack, Fe17Lack, ae17Here, ce17Here, Fe17Here, ae17Out, ce17Out, Fe17Out, ae17Into, ce17Into, Fe17Into, H⟩ := H.yB 1 rfl k k (by omega) (by omega) (by omega)
   refine sw (xK k Tryz.underlying34 ti110 rfl rfl (by omega) (by omega) ?_)
   refine sw (zg [.int .i64 ((s.qg[k]!).qy), .int .i64 ((s.qg[k]!).zh), .slice ae17Need (((s.qg[k]!).qR).length) ce17Need, .slice ae17Have (((s.qg[k]!).xh).length) ce17Have, .slice ae17Lack (((s.qg[k]!).xm).length) ce17Lack, .slice ae17Here (((s.qg[k]!).xB).length) ce17Here, .slice ae17Out (((s.qg[k]!).zk).length) ce17Out, .slice ae17Into (((s.qg[k]!).qC).length) ce17Into, .bool ((s.qg[k]!).xQ)] Tryz.isAgg110 Tryz.sizeOf110 rfl (qH (H.get 6 rfl) 0 9) ?_)
   refine sw (zn H ti110 [.int .i64 0, .int .i64 0, .slice none 0 0, .slice none 0 0, .slice none 0 0, .slice none 0 0, .slice none 0 0, .slice none 0 0, .bool false] fun b18 w19 H => ?_)
   refine sw (xP H 0 [.int .i64 ((s.qg[k]!).qy), .int .i64 ((s.qg[k]!).zh), .slice ae17Need (((s.qg[k]!).qR).length) ce17Need, .slice ae17Have (((s.qg[k]!).xh).length) ce17Have, .slice ae17Lack (((s.qg[k]!).xm).length) ce17Lack, .slice ae17Here (((s.qg[k]!).xB).length) ce17Here, .slice ae17Out (((s.qg[k]!).zk).length) ce17Out, .slice ae17Into (((s.qg[k]!).qC).length) ce17Into, .bool ((s.qg[k]!).xQ)] Tryz.sizeOf110 fun w20 H => ?_)
   try dsimp only [List.set] at H
   refine qx (t_n (qm (qm (qA ?_))))
   refine sw (zg [.int .i64 s.qJ, .slice qw s.qf.length qo, .slice (aa b14 o15) s.qg.length qB] Tryz.isAgg36 Tryz.sizeOf36 rfl (qH (H.cells 2 rfl) 0 3) ?_)
   refine sw (zg [.int .i64 ((s.qg[k]!).qy), .int .i64 ((s.qg[k]!).zh), .slice ae17Need (((s.qg[k]!).qR).length) ce17Need, .slice ae17Have (((s.qg[k]!).xh).length) ce17Have, .slice ae17Lack (((s.qg[k]!).xm).length) ce17Lack, .slice ae17Here (((s.qg[k]!).xB).length) ce17Here, .slice ae17Out (((s.qg[k]!).zk).length) ce17Out, .slice ae17Into (((s.qg[k]!).qC).length) ce17Into, .bool ((s.qg[k]!).xQ)] Tryz.isAgg110 Tryz.sizeOf110 rfl (qH (H.cells 0 rfl) 0 9) ?_)
   refine sw (qZ #[.agg #[.int .i64 s.qJ, .slice qw s.qf.length qo, .slice (aa b14 o15) s.qg.length qB], .agg #[.int .i64 ((s.qg[k]!).qy), .int .i64 ((s.qg[k]!).zh), .slice ae17Need (((s.qg[k]!).qR).length) ce17Need, .slice ae17Have (((s.qg[k]!).xh).length) ce17Have, .slice ae17Lack (((s.qg[k]!).xm).length) ce17Lack, .slice ae17Here (((s.qg[k]!).xB).length) ce17Here, .slice ae17Out (((s.qg[k]!).zk).length) ce17Out, .slice ae17Into (((s.qg[k]!).qC).length) ce17Into, .bool ((s.qg[k]!).xQ)]] rfl rfl Tryz.call153 (isRule_ok w20 s (s.qg[k]!) qw qo qO (aa b14 o15) qB xw ae17Need ce17Need Fe17Need ae17Have ce17Have Fe17Have ae17Lack ce17Lack Fe17Lack ae17Here ce17Here Fe17Here ae17Out ce17Out Fe17Out ae17Into ce17Into Fe17Into (H.get 7 rfl).1 (H.get 8 rfl).1 (H.get 0 rfl).1 (H.get 1 rfl).1 (H.get 2 rfl).1 (H.get 3 rfl).1 (H.get 4 rfl).1 (H.get 5 rfl).1 (by first | assumption | omega)) ?_)
   rintro _ w22 rfl x23
   replace H := H.ext x23
   have q := fun h : RuleOk s (s.qg[k]!) => (show 0 ≤ (s.qg[k]!).qy ∧ (s.qg[k]!).qy ≤ 5 from ⟨h.1.1, by have := h.1.2; omega⟩)
   refine sp (.bool (!(dec (RuleOk s (s.qg[k]!))))) ?_
   refine qx (t_n ?_)
   refine qW (!(dec (RuleOk s (s.qg[k]!)))) rfl (fun h24 => ?_) (fun h24 => ?_)
   ·skip
    replace h24 := xg h24
    replace h24 := xX h24
    refine qm (qA ?_)
    refine sp (.bool false) ?_
    refine qx (t_n (xC (t_r (b_r (t_r (t_r (b_r (t_r ?_))))))))
    refine ret1 (.bool false) rfl rfl ⟨_, rfl, ?_, H.base⟩
    rw [xy (fun h => by obtain ⟨h1, h2, h3⟩ := h; first | contradiction | omega | (obtain ⟨r1, r2⟩ := h3 k (by omega); first | contradiction | (have := Vq (s := s) (k := k + 1) q1 q2; omega)))]
   replace h24 := qY h24
   replace h24 := jG h24
   obtain ⟨q1, q2⟩ := q ‹_›
   have q3 := Vq (s := s) (k := k) q1 q2
   have q4 := ofCell_bd s.qg (s.qg[k]!).qy k
   refine xk (t_n (qm (qA ?_)))
   refine sw (qP b18 (0) 0 Tryz.underlying110 rfl rfl Tryz.sizeOf2 rfl ?_)
   refine sw (qE (.int .i64 ((s.qg[k]!).qy)) Tryz.isAgg2 rfl (H.cell 0 rfl rfl) ?_)
   refine sw (o_idxArr ((s.qg[k]!).qy) Tryz.underlying162 ti3 rfl rfl (by omega) (by omega) ?_)
   refine sw (qE (.int .i64 ((counts6 s k)[((s.qg[k]!).qy).toNat]!)) Tryz.isAgg3 rfl (H.cell 1 rfl (ints_at (iv := (s.qg[k]!).qy) (i := (((s.qg[k]!).qy).toNat)) (by omega) (by simp only [List.length_set, List.length_cons, List.length_nil, counts6_len]; omega))) ?_)
   refine sw (zZ ((counts6 s k)[((s.qg[k]!).qy).toNat]!) 1 rfl rfl (by omega) ?_)
   refine sw (o_idxArr ((s.qg[k]!).qy) Tryz.underlying162 ti3 rfl rfl (by omega) (by omega) ?_)
   refine sw (o_storeArr H 1 rfl (((counts6 s k)[((s.qg[k]!).qy).toNat]!) + 1) Tryz.sizeOf3 rfl rfl (i := (((s.qg[k]!).qy).toNat)) (by omega) (by simp only [List.length_set, List.length_cons, List.length_nil, counts6_len]; omega) fun w25 H => ?_)
   rw [counts6_succ q1 q2] at H
   try dsimp only [List.set] at H
   refine qx (t_n (qm (qA ?_)))
   refine sw (qP b18 (0) 0 Tryz.underlying110 rfl rfl Tryz.sizeOf2 rfl ?_)
   refine sw (qE (.int .i64 ((s.qg[k]!).qy)) Tryz.isAgg2 rfl (H.cell 0 rfl rfl) ?_)
   refine sw (o_idxArr ((s.qg[k]!).qy) Tryz.underlying162 ti3 rfl rfl (by omega) (by omega) ?_)
   refine sw (qE (.int .i64 ((counts6 s (k + 1))[((s.qg[k]!).qy).toNat]!)) Tryz.isAgg3 rfl (H.cell 1 rfl (ints_at (iv := (s.qg[k]!).qy) (i := (((s.qg[k]!).qy).toNat)) (by omega) (by simp only [List.length_set, List.length_cons, List.length_nil, counts6_len]; omega))) ?_)
   refine sp (.bool (decide (((counts6 s (k + 1))[((s.qg[k]!).qy).toNat]! : Int) > 8))) ?_
   refine qx (t_n ?_)
   refine qW (decide (((counts6 s (k + 1))[((s.qg[k]!).qy).toNat]! : Int) > 8)) rfl (fun h26 => ?_) (fun h26 => ?_)
   ·skip
    replace h26 := of_decide_eq_true h26
    refine qm (qA ?_)
    refine sp (.bool false) ?_
    refine qx (t_n (xC (b_r (t_r (t_r (b_r (t_r ?_)))))))
    refine ret1 (.bool false) rfl rfl ⟨_, rfl, ?_, H.base⟩
    rw [xy (fun h => by obtain ⟨h1, h2, h3⟩ := h; first | contradiction | omega | (obtain ⟨r1, r2⟩ := h3 k (by omega); first | contradiction | (have := Vq (s := s) (k := k + 1) q1 q2; omega)))]
   replace h26 := of_decide_eq_false h26
   refine xk (b_n (t_n (qA ?_)))
   refine sw (zZ k 1 rfl rfl (by omega) ?_)
   refine sp (.int .i64 (k + 1)) ?_
   refine qx ?_
   refine xH (m' := (s.qg.length - ((k + 1) : Int)).toNat) (by omega) ⟨_, k + 1, counts6 s (k + 1), (by exact qj (qj (qj (qj (qj (rfl) rfl) rfl) rfl) rfl) rfl), ?_, ?_, ?_, rfl, N, H.pick [1, 2] [7, 8]⟩
   · rfl
   · omega
   · exact i1.succ ‹_› (by have := Vq (s := s) (k := k + 1) q1 q2; omega)
  replace h13 := of_decide_eq_false h13
  refine zK (t_x (t_x (b_x (t_n (qm (qA ?_))))))
  refine sp (.bool true) ?_
  refine qx (t_n (xC ?_))
  refine ret1 (.bool true) rfl rfl ⟨_, rfl, ?_, H.base⟩
  rw [yP ⟨by assumption, by omega, (show s.qg.length = k by omega) ▸ i1⟩]
 replace h6 := xg h6
 replace h6 := xX h6
 refine zf [10, 11, 12, 13] ?_
 refine sp (.bool true) ?_
 refine qx (t_n ?_)
 refine qW true rfl (fun _ => ?_) (fun h => absurd h (by decide))
 refine qm (qA ?_)
 refine sp (.bool false) ?_
 refine qx (t_n (xC (t_r ?_)))
 refine ret1 (.bool false) rfl rfl ⟨_, rfl, ?_, H.base⟩
 rw [xy (fun h => by obtain ⟨h1, h2, h3⟩ := h; first | contradiction | omega | (obtain ⟨r1, r2⟩ := h3 k (by omega); first | contradiction | (have := Vq (s := s) (k := k + 1) q1 q2; omega)))]

theorem validState_ok (w : World) (s : qX) (t : qU) (qw : Option Addr) (qo : Nat) (qO : List Nat) (qF : Option Addr) (qB : Nat) (xw : List Nat) (qM : Option Addr) (qI : Nat) (xJ : List Nat) (xF : Option Addr) (xn : Nat) (zq : List Nat) (qL : Option Addr) (qK : Nat) (xI : List Nat) (xx : qV.rep w qO [.slice qw s.qf.length qo] s.qf) (xM : qV.rep w xw [.slice qF s.qg.length qB] s.qg) (zo : qV.rep w xJ [.slice qM t.qh.length qI] t.qh) (zY : qV.rep w zq [.slice xF t.qp.length xn] t.qp) (xW : qV.rep w xI [.slice qL t.ql.length qK] t.ql) : Calls Tryz.prog 76 #[.agg #[.int .i64 s.qJ, .slice qw s.qf.length qo, .slice qF s.qg.length qB], .agg #[.slice qM t.qh.length qI, .slice xF t.qp.length xn, .slice qL t.ql.length qK]] w (Ret (fun v w' => v = .bool (dec (yI s ∧ zu s t))) w) := by
 refine enter (n := 70) Tryz.func76 rfl Tryz.ntmps76 (Nat.le_of_ble_eq_true rfl) ?_
 have H := (((((St.start w).arg xW).arg zY).arg zo).arg xM).arg xx
 have vU := qN xx
 have jW := qN xM
 have QB := qN zo
 have Xn := qN zY
 have yT := qN xW
 clear xx xM zo zY xW
 have N := Fresh.nil w.heap.size
 refine qm (qA ?_)
 refine sw (yN H [.int .i64 s.qJ, .slice qw s.qf.length qo, .slice qF s.qg.length qB] fun b1 w2 H => ?_)
 refine sw (yN H [.slice qM t.qh.length qI, .slice xF t.qp.length xn, .slice qL t.ql.length qK] fun b3 w4 H => ?_)
 refine sp (.bool false) ?_
 refine qx (t_n (qm (qm (qA ?_))))
 refine sw (zg [.int .i64 s.qJ, .slice qw s.qf.length qo, .slice qF s.qg.length qB] Tryz.isAgg36 Tryz.sizeOf36 rfl (qH (H.cells 1 rfl) 0 3) ?_)
 refine sw (qZ #[.agg #[.int .i64 s.qJ, .slice qw s.qf.length qo, .slice qF s.qg.length qB]] rfl rfl Tryz.call122 (validSystem_ok w4 s qw qo qO qF qB xw (H.get 0 rfl).1 (H.get 1 rfl).1) ?_)
 rintro _ w6 rfl x7
 replace H := H.ext x7
 refine sps [.bool (!(dec (yI s))), .bool (!(dec (yI s)))] ?_
 cases h8 : (!(dec (yI s)))
 ·skip
  replace h8 := qY h8
  replace h8 := jG h8
  have z1 := (‹yI s› : yI s).1.2.1
  refine qQ 10 rfl rfl ?_
  refine sw (qP b3 (0) 0 Tryz.underlying38 rfl rfl Tryz.sizeOf26 rfl ?_)
  refine qQ 10 rfl rfl ?_
  refine sw (qE (.slice qM t.qh.length qI) Tryz.isAgg26 rfl (H.cell 0 rfl rfl) ?_)
  refine qQ 10 rfl rfl ?_
  refine sw (zX Tryz.underlying26 qM t.qh.length qI rfl ?_)
  refine qQ 10 rfl rfl ?_
  refine sw (qP b1 (0) 1 Tryz.underlying36 rfl rfl Tryz.sizeOf22 rfl ?_)
  refine qQ 10 rfl rfl ?_
  refine sw (qE (.slice qw s.qf.length qo) Tryz.isAgg22 rfl (H.cell 1 rfl rfl) ?_)
  refine qQ 10 rfl rfl ?_
  refine sw (zX Tryz.underlying22 qw s.qf.length qo rfl ?_)
  refine qQ 10 rfl rfl ?_
  refine sps [.bool ((t.qh.length : Int) != s.qf.length), .bool ((t.qh.length : Int) != s.qf.length), .bool ((t.qh.length : Int) != s.qf.length)] ?_
  cases h9 : ((t.qh.length : Int) != s.qf.length)
  ·skip
   replace h9 := xR h9
   refine qQ 19 rfl rfl ?_
   refine sw (qP b3 (0) 1 Tryz.underlying38 rfl rfl Tryz.sizeOf27 rfl ?_)
   refine qQ 19 rfl rfl ?_
   refine sw (qE (.slice xF t.qp.length xn) Tryz.isAgg27 rfl (H.cell 0 rfl rfl) ?_)
   refine qQ 19 rfl rfl ?_
   refine sw (zX Tryz.underlying27 xF t.qp.length xn rfl ?_)
   refine qQ 19 rfl rfl ?_
   refine sw (qP b1 (0) 1 Tryz.underlying36 rfl rfl Tryz.sizeOf22 rfl ?_)
   refine qQ 19 rfl rfl ?_
   refine sw (qE (.slice qw s.qf.length qo) Tryz.isAgg22 rfl (H.cell 1 rfl rfl) ?_)
   refine qQ 19 rfl rfl ?_
   refine sw (zX Tryz.underlying22 qw s.qf.length qo rfl ?_)
   refine qQ 19 rfl rfl ?_
   refine sps [.bool ((t.qp.length : Int) != s.qf.length), .bool ((t.qp.length : Int) != s.qf.length), .bool ((t.qp.length : Int) != s.qf.length)] ?_
   cases h10 : ((t.qp.length : Int) != s.qf.length)
   ·skip
    replace h10 := xR h10
    refine qQ 28 rfl rfl ?_
    refine sw (qP b3 (0) 0 Tryz.underlying38 rfl rfl Tryz.sizeOf26 rfl ?_)
    refine qQ 28 rfl rfl ?_
    refine sw (qE (.slice qM t.qh.length qI) Tryz.isAgg26 rfl (H.cell 0 rfl rfl) ?_)
    refine qQ 28 rfl rfl ?_
    obtain ⟨b11, o12, rfl⟩ := H.addr 2 rfl (by omega)
    refine sw (xK 0 Tryz.underlying26 ti4 rfl rfl (by omega) (by omega) ?_)
    refine qQ 28 rfl rfl ?_
    refine sw (qE (.bool (t.qh[0]!)) Tryz.isAgg4 rfl (H.Q7 2 rfl 0 (by omega) (by omega)) ?_)
    refine qQ 28 rfl rfl ?_
    refine sps [.bool (!(t.qh[0]!)), .bool (!(t.qh[0]!)), .bool (!(t.qh[0]!))] ?_
    cases h14 : (!(t.qh[0]!))
    ·skip
     replace h14 := qY h14
     refine qQ 35 rfl rfl ?_
     refine sw (qP b1 (0) 0 Tryz.underlying36 rfl rfl Tryz.sizeOf2 rfl ?_)
     refine qQ 35 rfl rfl ?_
     refine sw (qE (.int .i64 s.qJ) Tryz.isAgg2 rfl (H.cell 1 rfl rfl) ?_)
     refine qQ 35 rfl rfl ?_
     refine sw (qP b3 (0) 2 Tryz.underlying38 rfl rfl Tryz.sizeOf22 rfl ?_)
     refine qQ 35 rfl rfl ?_
     refine sw (qE (.slice qL t.ql.length qK) Tryz.isAgg22 rfl (H.cell 0 rfl rfl) ?_)
     refine qQ 35 rfl rfl ?_
     refine sw (qZ #[.int .i64 s.qJ, .slice qL t.ql.length qK] rfl rfl Tryz.call123 (validBag_ok w6 s.qJ t.ql qL qK xI (H.get 4 rfl).1) ?_)
     rintro _ w15 rfl x16
     replace H := H.ext x16
     refine qQ 35 rfl rfl ?_
     refine sps [.bool (!(dec (zW s.qJ t.ql))), .bool (!(dec (zW s.qJ t.ql)))] ?_
     refine qx (t_n ?_)
     refine qW (!(dec (zW s.qJ t.ql))) rfl (fun h17 => ?_) (fun h17 => ?_)
     ·skip
      replace h17 := xg h17
      replace h17 := xX h17
      refine qm (qA ?_)
      refine sp (.bool false) ?_
      refine qx (t_n (xC (t_r ?_)))
      refine ret1 (.bool false) rfl rfl ⟨_, rfl, ?_, H.base⟩
      rw [xy (fun h => by obtain ⟨h0, h1, h2, h3, h4, h5⟩ := h; first | contradiction | omega | (simp_all; done) | (obtain ⟨q1, q2⟩ := h5 c (by omega); first | contradiction | (have := q2 (by assumption); omega)))]
     replace h17 := qY h17
     replace h17 := jG h17
     refine xk (t_n (qm (qm (qA ?_))))
     refine sw (qP b3 (0) 1 Tryz.underlying38 rfl rfl Tryz.sizeOf27 rfl ?_)
     refine sw (qE (.slice xF t.qp.length xn) Tryz.isAgg27 rfl (H.cell 0 rfl rfl) ?_)
     refine sw (zX Tryz.underlying27 xF t.qp.length xn rfl ?_)
     refine sp (.int .i64 0) ?_
     refine qx (t_n (xE ?_))
     refine zU (fun m' ρ w18 => ∃ (junk : Env) (c : Nat), ρ = upd (upd (upd (upd (upd junk 2 (pp b1 0)) 3 (pp b3 0)) 44 (.slice xF t.qp.length xn)) 45 (.int .i64 t.qp.length)) 46 (.int .i64 c) ∧ ((c : Int) ≤ t.qp.length) ∧ (BagsTo s t c) ∧ m' = (t.qp.length - (c : Int)).toNat ∧ Fresh w.heap.size [] ∧ St w w18 [.box b3 [.slice (aa b11 o12) t.qh.length qI, .slice xF t.qp.length xn, .slice qL t.ql.length qK] 38, .box b1 [.int .i64 s.qJ, .slice qw s.qf.length qo, .slice qF s.qg.length qB] 36] [isF false qO (.slice qw s.qf.length qo) s.qf, isF false xw (.slice qF s.qg.length qB) s.qg, isF false xJ (.slice (aa b11 o12) t.qh.length qI) t.qh, isF false zq (.slice xF t.qp.length xn) t.qp, isF false xI (.slice qL t.ql.length qK) t.ql]) ((t.qp.length - (0 : Int)).toNat) ⟨_, 0, (by exact qj (qj (qj (qj (qj (rfl) rfl) rfl) rfl) rfl) rfl), (by omega), (by exact fun j hj => by omega), rfl, N, H⟩ ?_
     clear H N
     rintro m' ρ w19 ⟨junk, c, rfl, i0, i1, rfl, N, H⟩
     refine qm (qA ?_)
     refine sp (.bool (decide ((c : Int) < t.qp.length))) ?_
     refine qx (t_n (qm ?_))
     refine qW (decide ((c : Int) < t.qp.length)) rfl (fun h20 => ?_) (fun h20 => ?_)
     ·skip
      replace h20 := of_decide_eq_true h20
      refine xk (t_n (qm (xE (qm (qA ?_)))))
      refine sp (.int .i64 c) ?_
      obtain ⟨b21, o22, rfl⟩ := H.addr 3 rfl (by omega)
      obtain ⟨ae24, ce24, Fe24, H⟩ := H.yH 3 rfl c c (by omega) (by omega) (by omega)
      refine sw (xK c Tryz.underlying27 ti22 rfl rfl (by omega) (by omega) ?_)
      refine sw (qE (.slice ae24 ((t.qp[c]!).length) ce24) Tryz.isAgg22 rfl (H.xY 1 rfl 0 rfl) ?_)
      refine sps [.int .i64 c, .slice ae24 ((t.qp[c]!).length) ce24] ?_
      refine qx (t_n (qm (qA ?_)))
      refine sw (qP b1 (0) 0 Tryz.underlying36 rfl rfl Tryz.sizeOf2 rfl ?_)
      refine sw (qE (.int .i64 s.qJ) Tryz.isAgg2 rfl (H.cell 1 rfl rfl) ?_)
      refine sp (.slice ae24 ((t.qp[c]!).length) ce24) ?_
      refine sw (qZ #[.int .i64 s.qJ, .slice ae24 ((t.qp[c]!).length) ce24] rfl rfl Tryz.call123 (validBag_ok w19 s.qJ (t.qp[c]!) ae24 ce24 Fe24 (H.get 0 rfl).1) ?_)
      rintro _ w25 rfl x26
      replace H := H.ext x26
      refine sps [.bool (!(dec (zW s.qJ (t.qp[c]!)))), .bool (!(dec (zW s.qJ (t.qp[c]!))))] ?_
      cases h27 : (!(dec (zW s.qJ (t.qp[c]!))))
      ·skip
       replace h27 := qY h27
       replace h27 := jG h27
       refine qQ 56 rfl rfl ?_
       refine sw (qP b3 (0) 0 Tryz.underlying38 rfl rfl Tryz.sizeOf26 rfl ?_)
       refine qQ 56 rfl rfl ?_
       refine sw (qE (.slice (aa b11 o12) t.qh.length qI) Tryz.isAgg26 rfl (H.cell 0 rfl rfl) ?_)
       refine qQ 56 rfl rfl ?_
       refine sp (.int .i64 c) ?_
       refine qQ 56 rfl rfl ?_
       refine sw (xK c Tryz.underlying26 ti4 rfl rfl (by omega) (by omega) ?_)
       refine qQ 56 rfl rfl ?_
       refine sw (qE (.bool (t.qh[c]!)) Tryz.isAgg4 rfl (H.Q7 4 rfl c (by omega) (by omega)) ?_)
       refine qQ 56 rfl rfl ?_
       refine sp (.bool (!(t.qh[c]!))) ?_
       refine qQ 56 rfl rfl ?_
       refine sp (.bool (!(t.qh[c]!))) ?_
       cases h28 : (!(t.qh[c]!))
       ·skip
        replace h28 := qY h28
        refine zf [64, 65, 66] ?_
        refine qQ 56 rfl rfl ?_
        refine sps [.bool false, .bool false] ?_
        refine qx (t_n ?_)
        refine qW false rfl (fun h => absurd h (by decide)) (fun _ => ?_)
        refine xk (b_n (t_n (qA ?_)))
        refine sw (zZ c 1 rfl rfl (by omega) ?_)
        refine sp (.int .i64 (c + 1)) ?_
        refine qx ?_
        refine xH (m' := (t.qp.length - ((c + 1) : Int)).toNat) (by omega) ⟨_, c + 1, (by exact qj (qj (qj (qj (qj (rfl) rfl) rfl) rfl) rfl) rfl), ?_, ?_, rfl, N, H.pick [0, 1] [2, 3, 4, 5, 6]⟩
        · omega
        · exact i1.succ ‹_› (fun hk => by first | omega | simp_all)
       replace h28 := xg h28
       refine qQ 63 rfl rfl ?_
       refine sp (.slice ae24 ((t.qp[c]!).length) ce24) ?_
       refine qQ 63 rfl rfl ?_
       refine sw (qZ #[.slice ae24 ((t.qp[c]!).length) ce24] rfl rfl Tryz.call124 (bagSize_ok w25 (t.qp[c]!) ae24 ce24 Fe24 (H.get 0 rfl).1 (by first | assumption | exact jK (by assumption) | exact Xf (by assumption))) ?_)
       rintro _ w29 rfl x30
       replace H := H.ext x30
       refine qQ 63 rfl rfl ?_
       refine sp (.bool (decide ((sumL (t.qp[c]!) : Int) > 0))) ?_
       refine qQ 56 rfl rfl ?_
       refine sps [.bool (decide ((sumL (t.qp[c]!) : Int) > 0)), .bool (decide ((sumL (t.qp[c]!) : Int) > 0))] ?_
       refine qx (t_n ?_)
       refine qW (decide ((sumL (t.qp[c]!) : Int) > 0)) rfl (fun h31 => ?_) (fun h31 => ?_)
       ·skip
        replace h31 := of_decide_eq_true h31
        refine qm (qA ?_)
        refine sp (.bool false) ?_
        refine qx (t_n (xC (b_r (t_r (t_r (b_r (t_r ?_)))))))
        refine ret1 (.bool false) rfl rfl ⟨_, rfl, ?_, H.base⟩
        rw [xy (fun h => by obtain ⟨h0, h1, h2, h3, h4, h5⟩ := h; first | contradiction | omega | (simp_all; done) | (obtain ⟨q1, q2⟩ := h5 c (by omega); first | contradiction | (have := q2 (by assumption); omega)))]
       replace h31 := of_decide_eq_false h31
       refine xk (b_n (t_n (qA ?_)))
       refine sw (zZ c 1 rfl rfl (by omega) ?_)
       refine sp (.int .i64 (c + 1)) ?_
       refine qx ?_
       refine xH (m' := (t.qp.length - ((c + 1) : Int)).toNat) (by omega) ⟨_, c + 1, (by exact qj (qj (qj (qj (qj (rfl) rfl) rfl) rfl) rfl) rfl), ?_, ?_, rfl, N, H.pick [0, 1] [2, 3, 4, 5, 6]⟩
       · omega
       · exact i1.succ ‹_› (fun hk => by first | omega | simp_all)
      replace h27 := xg h27
      replace h27 := xX h27
      refine zf [57, 58, 59, 60, 61, 62, 63, 64, 65, 66, 67] ?_
      refine sp (.bool true) ?_
      refine qx (t_n ?_)
      refine qW true rfl (fun _ => ?_) (fun h => absurd h (by decide))
      refine qm (qA ?_)
      refine sp (.bool false) ?_
      refine qx (t_n (xC (b_r (t_r (t_r (b_r (t_r ?_)))))))
      refine ret1 (.bool false) rfl rfl ⟨_, rfl, ?_, H.base⟩
      rw [xy (fun h => by obtain ⟨h0, h1, h2, h3, h4, h5⟩ := h; first | contradiction | omega | (simp_all; done) | (obtain ⟨q1, q2⟩ := h5 c (by omega); first | contradiction | (have := q2 (by assumption); omega)))]
     replace h20 := of_decide_eq_false h20
     refine zK (t_x (t_x (b_x (t_n (qm (qA ?_))))))
     refine sp (.bool true) ?_
     refine qx (t_n (xC ?_))
     refine ret1 (.bool true) rfl rfl ⟨_, rfl, ?_, H.base⟩
     rw [yP ⟨by assumption, by omega, by omega, by first | assumption | simp_all, by assumption, (show t.qp.length = c by omega) ▸ i1⟩]
    replace h14 := xg h14
    refine zf [36, 37, 38, 39, 40, 41] ?_
    refine sp (.bool true) ?_
    refine qx (t_n ?_)
    refine qW true rfl (fun _ => ?_) (fun h => absurd h (by decide))
    refine qm (qA ?_)
    refine sp (.bool false) ?_
    refine qx (t_n (xC (t_r ?_)))
    refine ret1 (.bool false) rfl rfl ⟨_, rfl, ?_, H.base⟩
    rw [xy (fun h => by obtain ⟨h0, h1, h2, h3, h4, h5⟩ := h; first | contradiction | omega | (simp_all; done) | (obtain ⟨q1, q2⟩ := h5 c (by omega); first | contradiction | (have := q2 (by assumption); omega)))]
   replace h10 := bne_iff_ne.1 h10
   refine zf [29, 30, 31, 32, 33] ?_
   refine sps [.bool true, .bool true] ?_
   refine zf [36, 37, 38, 39, 40, 41] ?_
   refine sp (.bool true) ?_
   refine qx (t_n ?_)
   refine qW true rfl (fun _ => ?_) (fun h => absurd h (by decide))
   refine qm (qA ?_)
   refine sp (.bool false) ?_
   refine qx (t_n (xC (t_r ?_)))
   refine ret1 (.bool false) rfl rfl ⟨_, rfl, ?_, H.base⟩
   rw [xy (fun h => by obtain ⟨h0, h1, h2, h3, h4, h5⟩ := h; first | contradiction | omega | (simp_all; done) | (obtain ⟨q1, q2⟩ := h5 c (by omega); first | contradiction | (have := q2 (by assumption); omega)))]
  replace h9 := bne_iff_ne.1 h9
  refine zf [20, 21, 22, 23, 24, 25, 26] ?_
  refine sps [.bool true, .bool true] ?_
  refine zf [29, 30, 31, 32, 33] ?_
  refine sps [.bool true, .bool true] ?_
  refine zf [36, 37, 38, 39, 40, 41] ?_
  refine sp (.bool true) ?_
  refine qx (t_n ?_)
  refine qW true rfl (fun _ => ?_) (fun h => absurd h (by decide))
  refine qm (qA ?_)
  refine sp (.bool false) ?_
  refine qx (t_n (xC (t_r ?_)))
  refine ret1 (.bool false) rfl rfl ⟨_, rfl, ?_, H.base⟩
  rw [xy (fun h => by obtain ⟨h0, h1, h2, h3, h4, h5⟩ := h; first | contradiction | omega | (simp_all; done) | (obtain ⟨q1, q2⟩ := h5 c (by omega); first | contradiction | (have := q2 (by assumption); omega)))]
 replace h8 := xg h8
 replace h8 := xX h8
 refine zf [11, 12, 13, 14, 15, 16, 17] ?_
 refine sps [.bool true, .bool true] ?_
 refine zf [20, 21, 22, 23, 24, 25, 26] ?_
 refine sps [.bool true, .bool true] ?_
 refine zf [29, 30, 31, 32, 33] ?_
 refine sps [.bool true, .bool true] ?_
 refine zf [36, 37, 38, 39, 40, 41] ?_
 refine sp (.bool true) ?_
 refine qx (t_n ?_)
 refine qW true rfl (fun _ => ?_) (fun h => absurd h (by decide))
 refine qm (qA ?_)
 refine sp (.bool false) ?_
 refine qx (t_n (xC (t_r ?_)))
 refine ret1 (.bool false) rfl rfl ⟨_, rfl, ?_, H.base⟩
 rw [xy (fun h => by obtain ⟨h0, h1, h2, h3, h4, h5⟩ := h; first | contradiction | omega | (simp_all; done) | (obtain ⟨q1, q2⟩ := h5 c (by omega); first | contradiction | (have := q2 (by assumption); omega)))]

theorem parentNow_ok (w : World) (s : qX) (t : qU) (c : Int) (qw : Option Addr) (qo : Nat) (qO : List Nat) (qF : Option Addr) (qB : Nat) (xw : List Nat) (qM : Option Addr) (qI : Nat) (xJ : List Nat) (xF : Option Addr) (xn : Nat) (zq : List Nat) (qL : Option Addr) (qK : Nat) (xI : List Nat) (xx : qV.rep w qO [.slice qw s.qf.length qo] s.qf) (xM : qV.rep w xw [.slice qF s.qg.length qB] s.qg) (zo : qV.rep w xJ [.slice qM t.qh.length qI] t.qh) (zY : qV.rep w zq [.slice xF t.qp.length xn] t.qp) (xW : qV.rep w xI [.slice qL t.ql.length qK] t.ql) (p0 : yE s) (p1 : CellIn s c) (p2 : t.qh.length = s.qf.length) : Calls Tryz.prog 144 #[.agg #[.int .i64 s.qJ, .slice qw s.qf.length qo, .slice qF s.qg.length qB], .agg #[.slice qM t.qh.length qI, .slice xF t.qp.length xn, .slice qL t.ql.length qK], .int .i64 c] w (Ret (fun v w' => v = .int .i64 (xf s t c)) w) := by
 refine enter (n := 29) Tryz.func144 rfl Tryz.ntmps144 (Nat.le_of_ble_eq_true rfl) ?_
 have H := (((((St.start w).arg xW).arg zY).arg zo).arg xM).arg xx
 have vU := qN xx
 have jW := qN xM
 have QB := qN zo
 have Xn := qN zY
 have yT := qN xW
 clear xx xM zo zY xW
 have N := Fresh.nil w.heap.size
 have p3 := p0.step p1.1 p1.2
 refine qm (qA ?_)
 refine sw (yN H [.int .i64 s.qJ, .slice qw s.qf.length qo, .slice qF s.qg.length qB] fun b1 w2 H => ?_)
 refine sw (yN H [.slice qM t.qh.length qI, .slice xF t.qp.length xn, .slice qL t.ql.length qK] fun b3 w4 H => ?_)
 refine sp (.int .i64 0) ?_
 refine qx (t_n (qm (qA ?_)))
 refine sw (qP b1 (0) 1 Tryz.underlying36 rfl rfl Tryz.sizeOf22 rfl ?_)
 refine sw (qE (.slice qw s.qf.length qo) Tryz.isAgg22 rfl (H.cell 1 rfl rfl) ?_)
 refine sp (.int .i64 c) ?_
 obtain ⟨b5, o6, rfl⟩ := H.addr 0 rfl (by omega)
 refine sw (xK c Tryz.underlying22 ti2 rfl rfl (by omega) (by omega) ?_)
 refine sw (qE (.int .i64 (s.qf[c.toNat]!)) Tryz.isAgg2 rfl (H.jq 0 rfl c (by omega) (by omega)) ?_)
 refine sp (.int .i64 (s.qf[c.toNat]!)) ?_
 refine qx (t_n (qm (xE ?_)))
 refine zU (fun m' ρ w8 => ∃ (junk : Env) (p : Int) (n : Nat), ρ = upd (upd (upd junk 3 (pp b1 0)) 4 (pp b3 0)) 7 (.int .i64 p) ∧ (-1 ≤ p ∧ p ≤ (s.qf.length : Int) - 1) ∧ (p < n) ∧ (xf s t c = climb s.qf t.qh n p) ∧ m' = (p + 1).toNat ∧ Fresh w.heap.size [] ∧ St w w8 [.box b3 [.slice qM t.qh.length qI, .slice xF t.qp.length xn, .slice qL t.ql.length qK] 38, .box b1 [.int .i64 s.qJ, .slice (aa b5 o6) s.qf.length qo, .slice qF s.qg.length qB] 36] [isF false qO (.slice (aa b5 o6) s.qf.length qo) s.qf, isF false xw (.slice qF s.qg.length qB) s.qg, isF false xJ (.slice qM t.qh.length qI) t.qh, isF false zq (.slice xF t.qp.length xn) t.qp, isF false xI (.slice qL t.ql.length qK) t.ql]) (((s.qf[c.toNat]!) + 1).toNat) ⟨_, s.qf[c.toNat]!, s.qf.length, (by exact qj (qj (qj (rfl) rfl) rfl) rfl), (by omega), (by omega), (by rfl), rfl, N, H⟩ ?_
 clear H N
 rintro m' ρ w9 ⟨junk, p, n, rfl, i0, i1, i2, rfl, N, H⟩
 have up := fun h => p0.step (c := p) h i0.2
 refine qm (qm (qA ?_))
 refine sps [.int .i64 p, .bool (decide ((p : Int) ≥ 0)), .bool (decide ((p : Int) ≥ 0))] ?_
 cases h10 : (decide ((p : Int) ≥ 0))
 ·skip
  replace h10 := of_decide_eq_false h10
  refine zf [16, 17, 18, 19, 20, 21] ?_
  refine sp (.bool false) ?_
  refine qx (t_n ?_)
  refine qW false rfl (fun h => absurd h (by decide)) (fun _ => ?_)
  refine zK (t_x (t_x (b_x (t_n (qm (qA ?_))))))
  refine sps [.int .i64 p, .int .i64 p] ?_
  refine qx (t_n (xC ?_))
  refine ret1 (.int .i64 p) rfl rfl ⟨_, rfl, ?_, H.base⟩
  rw [i2, climb_end (by first | omega | simp_all)]
 replace h10 := of_decide_eq_true h10
 refine qQ 15 rfl rfl ?_
 refine sw (qP b3 (0) 0 Tryz.underlying38 rfl rfl Tryz.sizeOf26 rfl ?_)
 refine qQ 15 rfl rfl ?_
 refine sw (qE (.slice qM t.qh.length qI) Tryz.isAgg26 rfl (H.cell 0 rfl rfl) ?_)
 refine qQ 15 rfl rfl ?_
 refine sp (.int .i64 p) ?_
 refine qQ 15 rfl rfl ?_
 obtain ⟨b11, o12, rfl⟩ := H.addr 2 rfl (by omega)
 refine sw (xK p Tryz.underlying26 ti4 rfl rfl (by omega) (by omega) ?_)
 refine qQ 15 rfl rfl ?_
 refine sw (qE (.bool (t.qh[p.toNat]!)) Tryz.isAgg4 rfl (H.Q7 2 rfl p (by omega) (by omega)) ?_)
 refine qQ 15 rfl rfl ?_
 refine sps [.bool (!(t.qh[p.toNat]!)), .bool (!(t.qh[p.toNat]!))] ?_
 refine qx (t_n ?_)
 refine qW (!(t.qh[p.toNat]!)) rfl (fun h14 => ?_) (fun h14 => ?_)
 ·skip
  replace h14 := xg h14
  refine xk (t_n (xE (qA ?_)))
  refine sw (qP b1 (0) 1 Tryz.underlying36 rfl rfl Tryz.sizeOf22 rfl ?_)
  refine sw (qE (.slice (aa b5 o6) s.qf.length qo) Tryz.isAgg22 rfl (H.cell 1 rfl rfl) ?_)
  refine sp (.int .i64 p) ?_
  refine sw (xK p Tryz.underlying22 ti2 rfl rfl (by omega) (by omega) ?_)
  refine sw (qE (.int .i64 (s.qf[p.toNat]!)) Tryz.isAgg2 rfl (H.jq 0 rfl p (by omega) (by omega)) ?_)
  refine sp (.int .i64 (s.qf[p.toNat]!)) ?_
  refine qx (b_n ?_)
  have up1 := up (by omega)
  refine xH (m' := ((s.qf[p.toNat]!) + 1).toNat) (by omega) ⟨_, s.qf[p.toNat]!, n - 1, (by exact qj (qj (qj (rfl) rfl) rfl) rfl), ?_, ?_, ?_, rfl, N, H⟩
  · omega
  · omega
  · exact i2.trans (climb_go (by omega) (by omega) ‹_›)
 replace h14 := qY h14
 refine zK (t_x (t_x (b_x (t_n (qm (qA ?_))))))
 refine sps [.int .i64 p, .int .i64 p] ?_
 refine qx (t_n (xC ?_))
 refine ret1 (.int .i64 p) rfl rfl ⟨_, rfl, ?_, H.base⟩
 rw [i2, climb_end (by first | omega | simp_all)]

theorem yg (w : World) (t : qU) (qM : Option Addr) (qI : Nat) (xJ : List Nat) (xF : Option Addr) (xn : Nat) (zq : List Nat) (qL : Option Addr) (qK : Nat) (xI : List Nat) (zo : qV.rep w xJ [.slice qM t.qh.length qI] t.qh) (zY : qV.rep w zq [.slice xF t.qp.length xn] t.qp) (xW : qV.rep w xI [.slice qL t.ql.length qK] t.ql) (p0 : t.qh.length ≤ 1000000) (p1 : t.ql.length ≤ 1000000) (p2 : t.qp.length ≤ 1000000) (p3 : ∀ j, j < t.qp.length → (t.qp[j]!).length ≤ 1000000) : Calls Tryz.prog 77 #[.agg #[.slice qM t.qh.length qI, .slice xF t.qp.length xn, .slice qL t.ql.length qK]] w (Ret (fun v w' => ∃ (raAlive : Option Addr) (rnAlive : Nat) (rcAlive : Nat) (raBags : Option Addr) (rnBags : Nat) (rcBags : Nat) (rxBags : List Value) (rFBags : List Nat) (raAround : Option Addr) (rnAround : Nat) (rcAround : Nat), v = .agg #[.slice raAlive rnAlive rcAlive, .slice raBags rnBags rcBags, .slice raAround rnAround rcAround] ∧ Fresh w.heap.size [rFBags] ∧ St w w' [.row (.slice raAlive rnAlive rcAlive) 4 1 rnAlive (t.qh.map (Value.bool)), .row (.slice raBags rnBags rcBags) 22 1 rnBags rxBags, .row (.slice raAround rnAround rcAround) 2 1 rnAround (t.ql.map (Value.int .i64))] [vX true rFBags rxBags t.qp]) w) := by
 refine enter (n := 29) Tryz.func77 rfl Tryz.ntmps77 (Nat.le_of_ble_eq_true rfl) ?_
 have H := (((St.start w).arg xW).arg zY).arg zo
 have QB := qN zo
 have Xn := qN zY
 have yT := qN xW
 clear zo zY xW
 have N := Fresh.nil w.heap.size
 refine qm (qA ?_)
 refine sw (yN H [.slice qM t.qh.length qI, .slice xF t.qp.length xn, .slice qL t.ql.length qK] fun b1 w2 H => ?_)
 refine sw (zn H ti38 [.slice none 0 0, .slice none 0 0, .slice none 0 0] fun b3 w4 H => ?_)
 refine qx (t_n (qm ?_))
 refine c_cut (fun ρ w5 => ∃ (junk : Env) (b6 : Nat) (ra7 : Option Addr) (rc8 : Nat) (a9 : Option Addr) (c10 : Nat), ρ = upd (upd (upd junk 1 (pp b1 0)) 2 (pp b3 0)) 3 (pp b6 0) ∧ Fresh w.heap.size [] ∧ St w w5 [.box b6 [.slice ra7 t.qh.length rc8, .slice none 0 0, .slice a9 t.ql.length c10] 38, .row (.slice a9 t.ql.length c10) 2 1 t.ql.length (t.ql.map (Value.int .i64)), .row (.slice ra7 t.qh.length rc8) 4 1 t.qh.length (t.qh.map (Value.bool)), .box b3 [.slice none 0 0, .slice none 0 0, .slice none 0 0] 38, .box b1 [.slice qM t.qh.length qI, .slice xF t.qp.length xn, .slice qL t.ql.length qK] 38] [isF false xJ (.slice qM t.qh.length qI) t.qh, isF false zq (.slice xF t.qp.length xn) t.qp, isF false xI (.slice qL t.ql.length qK) t.ql]) ?_ ?_
 ·skip
  refine yw rfl H fun H => ?_
  refine rt 0 (pp b1 (0 + 0)) (xG b1 (0) 0 Tryz.underlying38 rfl rfl Tryz.sizeOf26 rfl) H ?_
  refine rt 1 (.slice qM t.qh.length qI) (xA Tryz.isAgg26 rfl (fun _ h => h.cell 1 rfl rfl)) H ?_
  refine rt 3 (pp b1 (0 + 2)) (xG b1 (0) 2 Tryz.underlying38 rfl rfl Tryz.sizeOf22 rfl) H ?_
  refine rt 4 (.slice qL t.ql.length qK) (xA Tryz.isAgg22 rfl (fun _ h => h.cell 1 rfl rfl)) H ?_
  refine xq [2, 7] (by kernel_rfl) (by simp) (xZ rfl ?_ (xZ rfl ?_ xu))
  ·skip
   have sz15 := H.base.size
   refine qZ #[.slice qM t.qh.length qI] rfl rfl Tryz.call125 (cloneB_ok w4.drew t.qh qM qI xJ (H.get 0 rfl).1 (by first | assumption | omega)) ?_
   rintro _ w13 ⟨ra12, rn12, rc12, rfl, M, K⟩ _
   replace H := H.merge K M
   dsimp only [List.cons_append, List.nil_append] at H
   obtain rfl := H.QA 0 rfl
   refine ⟨H.pick [1, 2] [0, 1, 2], ?_⟩
   refine xq [5, 7] (by kernel_rfl) (by simp) (xZ rfl ?_ (xZ rfl ?_ xu))
   ·skip
    have sz18 := H.base.size
    refine qZ #[.slice qL t.ql.length qK] rfl rfl Tryz.call126 (cloneI_ok w13 t.ql qL qK xI (H.get 2 rfl).1 (by first | assumption | omega)) ?_
    rintro v23 w21 r23 x22
    replace H := H.zJ x22 r23
    obtain ⟨a24, c25, rfl, hc26, hm27⟩ := H.jv 0 rfl
    refine ⟨H.pick [2, 3] [0, 1, 2], ?_⟩
    refine xq [6, 7] (by kernel_rfl) (by simp) (xZ rfl ?_ (xZ rfl ?_ xu))
    ·skip
     refine jo [.slice ra12 t.qh.length rc12, .slice none 0 0, .slice a24 t.ql.length c25] [(0, .slice ra12 t.qh.length rc12), (2, .slice a24 t.ql.length c25)] ?_
     refine ⟨H.pick [2, 3] [0, 1, 2], ?_⟩
     refine xq [7] (by kernel_rfl) (by simp) (xZ rfl ?_ xu)
     refine zn H ti38 [.slice none 0 0, .slice none 0 0, .slice none 0 0] fun b28 w29 H => ?_
     refine ⟨H.pick [3, 4] [0, 1, 2], ?_⟩
     refine xq [8] (by kernel_rfl) (by simp) (xZ rfl ?_ xu)
     refine xP H 0 [.slice ra12 t.qh.length rc12, .slice none 0 0, .slice a24 t.ql.length c25] Tryz.sizeOf38 fun w30 H => ?_
     try dsimp only [List.set] at H
     refine ⟨H.pick [3, 4] [0, 1, 2], ?_⟩
     refine xN (by kernel_rfl) (?_)
     exact meet ⟨_, b28, ra12, rc12, a24, c25, (by exact qj (qj (qj (rfl) rfl) rfl) rfl), N, H⟩
    refine zn H ti38 [.slice none 0 0, .slice none 0 0, .slice none 0 0] fun b31 w32 H => ?_
    refine ⟨H.pick [3, 4] [0, 1, 2], ?_⟩
    refine xq [6] (by kernel_rfl) (by simp) (xZ rfl ?_ xu)
    refine jo [.slice ra12 t.qh.length rc12, .slice none 0 0, .slice a24 t.ql.length c25] [(0, .slice ra12 t.qh.length rc12), (2, .slice a24 t.ql.length c25)] ?_
    refine ⟨H.pick [3, 4] [0, 1, 2], ?_⟩
    refine xq [8] (by kernel_rfl) (by simp) (xZ rfl ?_ xu)
    refine xP H 0 [.slice ra12 t.qh.length rc12, .slice none 0 0, .slice a24 t.ql.length c25] Tryz.sizeOf38 fun w33 H => ?_
    try dsimp only [List.set] at H
    refine ⟨H.pick [3, 4] [0, 1, 2], ?_⟩
    refine xN (by kernel_rfl) (?_)
    exact meet ⟨_, b31, ra12, rc12, a24, c25, (by exact qj (qj (qj (rfl) rfl) rfl) rfl), N, H⟩
   refine zn H ti38 [.slice none 0 0, .slice none 0 0, .slice none 0 0] fun b34 w35 H => ?_
   refine ⟨H.pick [2, 3] [0, 1, 2], ?_⟩
   refine xq [5] (by kernel_rfl) (by simp) (xZ rfl ?_ xu)
   have sz36 := H.base.size
   refine qZ #[.slice qL t.ql.length qK] rfl rfl Tryz.call126 (cloneI_ok w35 t.ql qL qK xI (H.get 2 rfl).1 (by first | assumption | omega)) ?_
   rintro v41 w39 r41 x40
   replace H := H.zJ x40 r41
   obtain ⟨a42, c43, rfl, hc44, hm45⟩ := H.jv 0 rfl
   refine ⟨H.pick [3, 4] [0, 1, 2], ?_⟩
   refine xq [6] (by kernel_rfl) (by simp) (xZ rfl ?_ xu)
   refine jo [.slice ra12 t.qh.length rc12, .slice none 0 0, .slice a42 t.ql.length c43] [(0, .slice ra12 t.qh.length rc12), (2, .slice a42 t.ql.length c43)] ?_
   refine ⟨H.pick [3, 4] [0, 1, 2], ?_⟩
   refine xq [8] (by kernel_rfl) (by simp) (xZ rfl ?_ xu)
   refine xP H 1 [.slice ra12 t.qh.length rc12, .slice none 0 0, .slice a42 t.ql.length c43] Tryz.sizeOf38 fun w46 H => ?_
   try dsimp only [List.set] at H
   refine ⟨H.pick [3, 4] [0, 1, 2], ?_⟩
   refine xN (by kernel_rfl) (?_)
   exact meet ⟨_, b34, ra12, rc12, a42, c43, (by exact qj (qj (qj (rfl) rfl) rfl) rfl), N, H.pick [1, 0, 2, 3, 4] [0, 1, 2]⟩
  refine zn H ti38 [.slice none 0 0, .slice none 0 0, .slice none 0 0] fun b47 w48 H => ?_
  refine ⟨H.pick [1, 2] [0, 1, 2], ?_⟩
  refine xq [2] (by kernel_rfl) (by simp) (xZ rfl ?_ xu)
  have sz52 := H.base.size
  refine qZ #[.slice qM t.qh.length qI] rfl rfl Tryz.call125 (cloneB_ok w48 t.qh qM qI xJ (H.get 0 rfl).1 (by first | assumption | omega)) ?_
  rintro _ w50 ⟨ra49, rn49, rc49, rfl, M, K⟩ _
  replace H := H.merge K M
  dsimp only [List.cons_append, List.nil_append] at H
  obtain rfl := H.QA 0 rfl
  refine ⟨H.pick [2, 3] [0, 1, 2], ?_⟩
  refine xq [5] (by kernel_rfl) (by simp) (xZ rfl ?_ xu)
  have sz55 := H.base.size
  refine qZ #[.slice qL t.ql.length qK] rfl rfl Tryz.call126 (cloneI_ok w50 t.ql qL qK xI (H.get 2 rfl).1 (by first | assumption | omega)) ?_
  rintro v60 w58 r60 x59
  replace H := H.zJ x59 r60
  obtain ⟨a61, c62, rfl, hc63, hm64⟩ := H.jv 0 rfl
  refine ⟨H.pick [3, 4] [0, 1, 2], ?_⟩
  refine xq [6] (by kernel_rfl) (by simp) (xZ rfl ?_ xu)
  refine jo [.slice ra49 t.qh.length rc49, .slice none 0 0, .slice a61 t.ql.length c62] [(0, .slice ra49 t.qh.length rc49), (2, .slice a61 t.ql.length c62)] ?_
  refine ⟨H.pick [3, 4] [0, 1, 2], ?_⟩
  refine xq [8] (by kernel_rfl) (by simp) (xZ rfl ?_ xu)
  refine xP H 2 [.slice ra49 t.qh.length rc49, .slice none 0 0, .slice a61 t.ql.length c62] Tryz.sizeOf38 fun w65 H => ?_
  try dsimp only [List.set] at H
  refine ⟨H.pick [3, 4] [0, 1, 2], ?_⟩
  refine xN (by kernel_rfl) (?_)
  exact meet ⟨_, b47, ra49, rc49, a61, c62, (by exact qj (qj (qj (rfl) rfl) rfl) rfl), N, H.pick [2, 0, 1, 3, 4] [0, 1, 2]⟩
 clear H N
 rintro ρ w66 ⟨junk, b6, ra7, rc8, a9, c10, rfl, N, H⟩
 refine t_n (qm (qm (qA ?_)))
 refine sw (qP b1 (0) 1 Tryz.underlying38 rfl rfl Tryz.sizeOf27 rfl ?_)
 refine sw (qE (.slice xF t.qp.length xn) Tryz.isAgg27 rfl (H.cell 4 rfl rfl) ?_)
 refine sw (zX Tryz.underlying27 xF t.qp.length xn rfl ?_)
 refine sp (.int .i64 0) ?_
 refine qx (t_n (xE ?_))
 replace H := H.nilRow 22 1
 replace H := H.Qw (α := List Int)
 refine zU (fun m' ρ w67 => ∃ (junk : Env) (k : Nat) (jV : Option Addr) (zB : Nat) (jU : Nat) (out_Bags : List (List Int)) (zA : List Value) (xU : List Nat), ρ = upd (upd (upd (upd (upd junk 2 (pp b3 0)) 3 (pp b6 0)) 14 (.slice xF t.qp.length xn)) 15 (.int .i64 t.qp.length)) 16 (.int .i64 k) ∧ out_Bags = t.qp.take k ∧ ((k : Int) ≤ t.qp.length) ∧ m' = (t.qp.length - (k : Int)).toNat ∧ Fresh w.heap.size [xU] ∧ St w w67 [.row (.slice jV zB jU) 22 1 zB zA, .box b6 [.slice ra7 t.qh.length rc8, .slice jV zB jU, .slice a9 t.ql.length c10] 38, .row (.slice a9 t.ql.length c10) 2 1 t.ql.length (t.ql.map (Value.int .i64)), .row (.slice ra7 t.qh.length rc8) 4 1 t.qh.length (t.qh.map (Value.bool)), .box b3 [.slice none 0 0, .slice none 0 0, .slice none 0 0] 38, .box b1 [.slice qM t.qh.length qI, .slice xF t.qp.length xn, .slice qL t.ql.length qK] 38] [vX true xU zA out_Bags, isF false xJ (.slice qM t.qh.length qI) t.qh, isF false zq (.slice xF t.qp.length xn) t.qp, isF false xI (.slice qL t.ql.length qK) t.ql]) ((t.qp.length - (0 : Int)).toNat) ⟨_, 0, none, 0, 0, ([] : List (List Int)), [], [], (by exact qj (qj (qj (qj (qj (rfl) rfl) rfl) rfl) rfl) rfl), (by rfl), (by omega), rfl, N.emp, H⟩ ?_
 clear H N
 rintro m' ρ w68 ⟨junk, k, jV, zB, jU, out_Bags, zA, xU, rfl, rfl, i0, rfl, N, H⟩
 have Vp := H.zt (α := List Int) 0 rfl 0 rfl (by decide)
 have p4 := p3 k
 rw [List.length_take_of_le (by omega)] at Vp
 refine qm (qA ?_)
 refine sp (.bool (decide ((k : Int) < t.qp.length))) ?_
 refine qx (t_n (qm ?_))
 refine qW (decide ((k : Int) < t.qp.length)) rfl (fun h69 => ?_) (fun h69 => ?_)
 ·skip
  replace h69 := of_decide_eq_true h69
  refine xk (t_n (qm (xE (qm (qA ?_)))))
  obtain ⟨b70, o71, rfl⟩ := H.addr 2 rfl (by omega)
  obtain ⟨ae73, ce73, Fe73, H⟩ := H.yH 2 rfl k k (by omega) (by omega) (by omega)
  refine sw (xK k Tryz.underlying27 ti22 rfl rfl (by omega) (by omega) ?_)
  refine sw (qE (.slice ae73 ((t.qp[k]!).length) ce73) Tryz.isAgg22 rfl (H.xY 1 rfl 0 rfl) ?_)
  refine sp (.slice ae73 ((t.qp[k]!).length) ce73) ?_
  refine qx (t_n ?_)
  refine c_cut (fun ρ w74 => ∃ (junk : Env) (a75 : Option Addr) (c76 : Nat) (a77 : Option Addr) (c78 : Nat) (G79 : List Nat), ρ = upd (upd (upd (upd (upd junk 2 (pp b3 0)) 3 (pp b6 0)) 14 (.slice (aa b70 o71) t.qp.length xn)) 15 (.int .i64 t.qp.length)) 16 (.int .i64 k) ∧ Fresh w.heap.size [(xU ++ G79)] ∧ St w w74 [.row (.slice a75 (zB + 1) c76) 22 1 (zB + 1) (zA ++ [.slice a77 ((t.qp[k]!).length) c78]), .box b6 [.slice ra7 t.qh.length rc8, .slice a75 (zB + 1) c76, .slice a9 t.ql.length c10] 38, .row (.slice a9 t.ql.length c10) 2 1 t.ql.length (t.ql.map (Value.int .i64)), .row (.slice ra7 t.qh.length rc8) 4 1 t.qh.length (t.qh.map (Value.bool)), .box b3 [.slice none 0 0, .slice none 0 0, .slice none 0 0] 38, .box b1 [.slice qM t.qh.length qI, .slice (aa b70 o71) t.qp.length xn, .slice qL t.ql.length qK] 38] [vX true (xU ++ G79) (zA ++ [.slice a77 ((t.qp[k]!).length) c78]) ((t.qp.take k) ++ [(t.qp[k]!)]), isF true G79 (.slice a77 ((t.qp[k]!).length) c78) (t.qp[k]!), isF false Fe73 (.slice ae73 ((t.qp[k]!).length) ce73) (t.qp[k]!), atF b70 (o71 + (k : Int).toNat * 1) [.slice ae73 ((t.qp[k]!).length) ce73], isF false xJ (.slice qM t.qh.length qI) t.qh, isF false zq (.slice (aa b70 o71) t.qp.length xn) t.qp, isF false xI (.slice qL t.ql.length qK) t.ql]) ?_ ?_
  ·skip
   refine Qa rfl H [2, 3, 4, 5] fun H => ?_
   have S := H.yG [2, 3, 4, 5] [0, 1, 2, 3, 4, 5]
   refine rt 0 (pp b6 (0 + 1)) (xG b6 (0) 1 Tryz.underlying38 rfl rfl Tryz.sizeOf27 rfl) S ?_
   refine rtp 2 (.slice ae73 ((t.qp[k]!).length) ce73) S ?_
   refine xq [1, 3] (by kernel_rfl) (by simp) (xZ rfl ?_ (xZ rfl ?_ xu))
   ·skip
    refine qE (.slice jV zB jU) Tryz.isAgg27 rfl (H.cell 1 rfl rfl) ?_
    refine ⟨H.pick [2, 3, 4, 5] [0, 1, 2, 3, 4, 5], ?_⟩
    refine xq [3] (by kernel_rfl) (by simp) (xZ rfl ?_ xu)
    have sz81 := H.base.size
    have lt82 := H.ltN (L := [xU]) [2]
    refine qZ #[.slice ae73 ((t.qp[k]!).length) ce73] rfl rfl Tryz.call126 (cloneI_ok w68.drew (t.qp[k]!) ae73 ce73 Fe73 (H.get 0 rfl).1 (by first | assumption | omega)) ?_
    rintro v86 w84 r86 x85
    replace H := H.zJ x85 r86
    obtain ⟨a87, c88, rfl, hc89, hm90⟩ := H.jv 0 rfl
    refine ⟨H.pick [3, 4, 5, 6] [0, 1, 2, 3, 4, 5], ?_⟩
    refine xq [4] (by kernel_rfl) (by simp) (xZ rfl ?_ xu)
    refine Xr H Tryz.underlying27 ti22 [.slice a87 ((t.qp[k]!).length) c88] fun b91 w92 H => ?_
    refine ⟨H.pick [4, 5, 6, 7] [0, 1, 2, 3, 4, 5], ?_⟩
    refine xq [5] (by kernel_rfl) (by simp) (xZ rfl ?_ xu)
    obtain ⟨G96, N, hn97, H⟩ := H.yU 1 rfl N (H.Vg [2])
    try dsimp only [List.set] at H
    refine Xt H 2 rfl 0 rfl Tryz.underlying27 ti22 rfl (by decide) rfl rfl rfl (by simp [Value.oneCell', Value.cells]) (by unfold maxLen; omega) (by omega) fun a93 c94 w95 H => ?_
    try dsimp only [List.set] at H
    replace H := H.repsSnoc 3 rfl 0 rfl
    replace N : Fresh w.heap.size [(xU ++ G96)] := (N.pick [1, 0]).join
    refine ⟨H.pick [4, 5, 6, 7] [2, 3, 4, 5, 6, 7], ?_⟩
    refine rt 6 (pp b6 (0 + 1)) (xG b6 (0) 1 Tryz.underlying38 rfl rfl Tryz.sizeOf27 rfl) (H.pick [4, 5, 6, 7] [2, 3, 4, 5, 6, 7]) ?_
    refine xq [7] (by kernel_rfl) (by simp) (xZ rfl ?_ xu)
    refine Xq H 3 [.slice ra7 t.qh.length rc8, .slice a93 (zB + 1) c94, .slice a9 t.ql.length c10] Tryz.sizeOf27 fun w98 H => ?_
    try dsimp only [List.set] at H
    refine ⟨H.pick [4, 5, 6, 7] [2, 3, 4, 5, 6, 7], ?_⟩
    refine xN (by kernel_rfl) (?_)
    exact meet ⟨_, a93, c94, a87, c88, G96, (by exact qj (qj (qj (qj (qj (rfl) rfl) rfl) rfl) rfl) rfl), N, H.pick [2, 3, 4, 5, 6, 7] [0, 1, 2, 3, 5, 6, 7]⟩
   have sz99 := H.base.size
   have lt100 := H.ltN (L := [xU]) [2]
   refine qZ #[.slice ae73 ((t.qp[k]!).length) ce73] rfl rfl Tryz.call126 (cloneI_ok w68.drew (t.qp[k]!) ae73 ce73 Fe73 (H.get 0 rfl).1 (by first | assumption | omega)) ?_
   rintro v104 w102 r104 x103
   replace H := H.zJ x103 r104
   obtain ⟨a105, c106, rfl, hc107, hm108⟩ := H.jv 0 rfl
   refine ⟨H.pick [3, 4, 5, 6] [0, 1, 2, 3, 4, 5], ?_⟩
   refine xq [1, 4] (by kernel_rfl) (by simp) (xZ rfl ?_ (xZ rfl ?_ xu))
   ·skip
    refine qE (.slice jV zB jU) Tryz.isAgg27 rfl (H.cell 2 rfl rfl) ?_
    refine ⟨H.pick [3, 4, 5, 6] [0, 1, 2, 3, 4, 5], ?_⟩
    refine xq [4] (by kernel_rfl) (by simp) (xZ rfl ?_ xu)
    refine Xr H Tryz.underlying27 ti22 [.slice a105 ((t.qp[k]!).length) c106] fun b109 w110 H => ?_
    refine ⟨H.pick [4, 5, 6, 7] [0, 1, 2, 3, 4, 5], ?_⟩
    refine xq [5] (by kernel_rfl) (by simp) (xZ rfl ?_ xu)
    obtain ⟨G114, N, hn115, H⟩ := H.yU 1 rfl N (H.Vg [2])
    try dsimp only [List.set] at H
    refine Xt H 2 rfl 0 rfl Tryz.underlying27 ti22 rfl (by decide) rfl rfl rfl (by simp [Value.oneCell', Value.cells]) (by unfold maxLen; omega) (by omega) fun a111 c112 w113 H => ?_
    try dsimp only [List.set] at H
    replace H := H.repsSnoc 3 rfl 0 rfl
    replace N : Fresh w.heap.size [(xU ++ G114)] := (N.pick [1, 0]).join
    refine ⟨H.pick [4, 5, 6, 7] [2, 3, 4, 5, 6, 7], ?_⟩
    refine rt 6 (pp b6 (0 + 1)) (xG b6 (0) 1 Tryz.underlying38 rfl rfl Tryz.sizeOf27 rfl) (H.pick [4, 5, 6, 7] [2, 3, 4, 5, 6, 7]) ?_
    refine xq [7] (by kernel_rfl) (by simp) (xZ rfl ?_ xu)
    refine Xq H 3 [.slice ra7 t.qh.length rc8, .slice a111 (zB + 1) c112, .slice a9 t.ql.length c10] Tryz.sizeOf27 fun w116 H => ?_
    try dsimp only [List.set] at H
    refine ⟨H.pick [4, 5, 6, 7] [2, 3, 4, 5, 6, 7], ?_⟩
    refine xN (by kernel_rfl) (?_)
    exact meet ⟨_, a111, c112, a105, c106, G114, (by exact qj (qj (qj (qj (qj (rfl) rfl) rfl) rfl) rfl) rfl), N, H.pick [2, 3, 4, 5, 6, 7] [0, 1, 2, 3, 5, 6, 7]⟩
   refine Xr H Tryz.underlying27 ti22 [.slice a105 ((t.qp[k]!).length) c106] fun b117 w118 H => ?_
   refine ⟨H.pick [4, 5, 6, 7] [0, 1, 2, 3, 4, 5], ?_⟩
   refine xq [1] (by kernel_rfl) (by simp) (xZ rfl ?_ xu)
   refine qE (.slice jV zB jU) Tryz.isAgg27 rfl (H.cell 3 rfl rfl) ?_
   refine ⟨H.pick [4, 5, 6, 7] [0, 1, 2, 3, 4, 5], ?_⟩
   refine xq [5] (by kernel_rfl) (by simp) (xZ rfl ?_ xu)
   obtain ⟨G122, N, hn123, H⟩ := H.yU 1 rfl N (H.Vg [2])
   try dsimp only [List.set] at H
   refine Xt H 2 rfl 0 rfl Tryz.underlying27 ti22 rfl (by decide) rfl rfl rfl (by simp [Value.oneCell', Value.cells]) (by unfold maxLen; omega) (by omega) fun a119 c120 w121 H => ?_
   try dsimp only [List.set] at H
   replace H := H.repsSnoc 3 rfl 0 rfl
   replace N : Fresh w.heap.size [(xU ++ G122)] := (N.pick [1, 0]).join
   refine ⟨H.pick [4, 5, 6, 7] [2, 3, 4, 5, 6, 7], ?_⟩
   refine rt 6 (pp b6 (0 + 1)) (xG b6 (0) 1 Tryz.underlying38 rfl rfl Tryz.sizeOf27 rfl) (H.pick [4, 5, 6, 7] [2, 3, 4, 5, 6, 7]) ?_
   refine xq [7] (by kernel_rfl) (by simp) (xZ rfl ?_ xu)
   refine Xq H 3 [.slice ra7 t.qh.length rc8, .slice a119 (zB + 1) c120, .slice a9 t.ql.length c10] Tryz.sizeOf27 fun w124 H => ?_
   try dsimp only [List.set] at H
   refine ⟨H.pick [4, 5, 6, 7] [2, 3, 4, 5, 6, 7], ?_⟩
   refine xN (by kernel_rfl) (?_)
   exact meet ⟨_, a119, c120, a105, c106, G122, (by exact qj (qj (qj (qj (qj (rfl) rfl) rfl) rfl) rfl) rfl), N, H.pick [2, 3, 4, 5, 6, 7] [0, 1, 2, 3, 5, 6, 7]⟩
  clear H N
  rintro ρ w125 ⟨junk, a75, c76, a77, c78, G79, rfl, N, H⟩
  refine b_n (t_n (qA ?_))
  refine sw (zZ k 1 rfl rfl (by omega) ?_)
  refine sp (.int .i64 (k + 1)) ?_
  refine qx ?_
  refine xH (m' := (t.qp.length - ((k + 1) : Int)).toNat) (by omega) ⟨_, k + 1, a75, zB + 1, c76, ((t.qp.take k) ++ [(t.qp[k]!)]), zA ++ [.slice a77 ((t.qp[k]!).length) c78], (xU ++ G79), (by exact qj (qj (qj (qj (qj (rfl) rfl) rfl) rfl) rfl) rfl), ?_, ?_, rfl, N, H.pick [0, 1, 2, 3, 4, 5] [0, 4, 5, 6]⟩
  · exact take_snoc (by omega)
  · omega
 replace h69 := of_decide_eq_false h69
 refine zK (t_x (t_x (b_x (t_n (qm (qA ?_))))))
 refine sw (zg [.slice ra7 t.qh.length rc8, .slice jV zB jU, .slice a9 t.ql.length c10] Tryz.isAgg38 Tryz.sizeOf38 rfl (qH (H.cells 1 rfl) 0 3) ?_)
 refine sw (xP H 4 [.slice ra7 t.qh.length rc8, .slice jV zB jU, .slice a9 t.ql.length c10] Tryz.sizeOf38 fun w126 H => ?_)
 try dsimp only [List.set] at H
 refine qx (t_n (xC ?_))
 refine retC H 4 rfl rfl Tryz.isAgg38 Tryz.sizeOf38 rfl ⟨_, rfl, ?_, H.base⟩
 obtain rfl : k = t.qp.length := by omega
 rw [List.take_length] at H
 exact ⟨ra7, t.qh.length, rc8, jV, zB, jU, zA, xU, a9, t.ql.length, c10, rfl, N, H.pick [3, 0, 2] [0]⟩

end Go.Proofs.YtkmlihdacnfhdaaGreat
