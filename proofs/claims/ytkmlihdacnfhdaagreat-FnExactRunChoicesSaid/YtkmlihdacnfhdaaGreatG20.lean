/- Walks, printed by program (wip/tools/gv.py): what each function comes to, for all arguments. -/
import Derived.Test.YtkmlihdacnfhdaaGreatG15
import Derived.Test.YtkmlihdacnfhdaaGreatP9
namespace Go.Proofs.YtkmlihdacnfhdaaGreat
open Go.Proofs.YtkmlihdacnfhdaaGreat.Tot (tot)
open Go.Proofs.YtkmlihdacnfhdaaGreat.Mark (cnt mrk mkd mkd_mark cnt_mark)
open Go.RowKit
set_option linter.unusedVariables false
set_option linter.unusedSimpArgs false
set_option maxRecDepth 100000
set_option maxHeartbeats 4000000



theorem countsCode1_ok (w : World) (n : Int) : Calls Tryz.prog 117 #[.int .i64 n] w (Ret (fun v w' => v = .bool (!isCnt n)) w) := by
 refine enter (n := 6) Tryz.func117 rfl Tryz.ntmps117 (Nat.le_of_ble_eq_true rfl) ?_
 have H := St.start w
 have N := Fresh.nil w.heap.size
 refine qm (qA ?_)
 refine sp (.bool false) ?_
 refine qx (t_n (qm (qA ?_)))
 refine sp (.int .i64 n) ?_
 refine sw (qZ #[.int .i64 n, .int .i64 0, .int .i64 1000] rfl rfl Tryz.call94 (Vy w n 0 1000) ?_)
 rintro _ w1 rfl x2
 replace H := H.ext x2
 refine sps [.bool (!(inR n 0 1000)), .bool (!(inR n 0 1000))] ?_
 refine qx (t_n (xC ?_))
 refine ret1 (.bool (!(inR n 0 1000))) rfl rfl ⟨_, rfl, ?_, H.base⟩
 rfl

theorem countsCode_ok (w : World) (s : qX) (t : qU) (counts : List Int) (qw : Option Addr) (qo : Nat) (qO : List Nat) (qF : Option Addr) (qB : Nat) (xw : List Nat) (qM : Option Addr) (qI : Nat) (xJ : List Nat) (xF : Option Addr) (xn : Nat) (zq : List Nat) (qL : Option Addr) (qK : Nat) (xI : List Nat) (acounts : Option Addr) (ccounts : Nat) (Fcounts : List Nat) (xx : qV.rep w qO [.slice qw s.qf.length qo] s.qf) (xM : qV.rep w xw [.slice qF s.qg.length qB] s.qg) (zo : qV.rep w xJ [.slice qM t.qh.length qI] t.qh) (zY : qV.rep w zq [.slice xF t.qp.length xn] t.qp) (xW : qV.rep w xI [.slice qL t.ql.length qK] t.ql) (hcounts : qV.rep w Fcounts [.slice acounts counts.length ccounts] counts) : Calls Tryz.prog 70 #[.agg #[.int .i64 s.qJ, .slice qw s.qf.length qo, .slice qF s.qg.length qB], .agg #[.slice qM t.qh.length qI, .slice xF t.qp.length xn, .slice qL t.ql.length qK], .slice acounts counts.length ccounts] w (Ret (fun v w' => v = .int .i64 (QT s t counts)) w) := by
 refine enter (n := 23) Tryz.func70 rfl Tryz.ntmps70 (Nat.le_of_ble_eq_true rfl) ?_
 have H := ((((((St.start w).arg hcounts).arg xW).arg zY).arg zo).arg xM).arg xx
 have vU := qN xx
 have jW := qN xM
 have QB := qN zo
 have Xn := qN zY
 have yT := qN xW
 have nhcounts := qN hcounts
 clear xx xM zo zY xW hcounts
 have N := Fresh.nil w.heap.size
 refine qm (qA ?_)
 refine sw (yN H [.int .i64 s.qJ, .slice qw s.qf.length qo, .slice qF s.qg.length qB] fun b1 w2 H => ?_)
 refine sw (yN H [.slice qM t.qh.length qI, .slice xF t.qp.length xn, .slice qL t.ql.length qK] fun b3 w4 H => ?_)
 refine sp (.int .i64 0) ?_
 refine qx (t_n (qm (xE (qm (qA ?_)))))
 refine sw (zg [.int .i64 s.qJ, .slice qw s.qf.length qo, .slice qF s.qg.length qB] Tryz.isAgg36 Tryz.sizeOf36 rfl (qH (H.cells 1 rfl) 0 3) ?_)
 refine sw (zg [.slice qM t.qh.length qI, .slice xF t.qp.length xn, .slice qL t.ql.length qK] Tryz.isAgg38 Tryz.sizeOf38 rfl (qH (H.cells 0 rfl) 0 3) ?_)
 refine sw (qZ #[.agg #[.int .i64 s.qJ, .slice qw s.qf.length qo, .slice qF s.qg.length qB], .agg #[.slice qM t.qh.length qI, .slice xF t.qp.length xn, .slice qL t.ql.length qK]] rfl rfl Tryz.call76 (validState_ok w4 s t qw qo qO qF qB xw qM qI xJ xF xn zq qL qK xI (H.get 0 rfl).1 (H.get 1 rfl).1 (H.get 2 rfl).1 (H.get 3 rfl).1 (H.get 4 rfl).1) ?_)
 rintro _ w6 rfl x7
 replace H := H.ext x7
 refine sps [.bool (!(dec (yI s ∧ zu s t))), .bool (!(dec (yI s ∧ zu s t)))] ?_
 refine qx (t_n ?_)
 refine qW (!(dec (yI s ∧ zu s t))) rfl (fun h8 => ?_) (fun h8 => ?_)
 ·skip
  replace h8 := xg h8
  replace h8 := xX h8
  refine qm (qA ?_)
  refine sp (.int .i64 1) ?_
  refine qx (t_n (xC (b_r (t_r ?_))))
  refine ret1 (.int .i64 1) rfl rfl ⟨_, rfl, ?_, H.base⟩
  rw [ask_1 ‹_›]
 replace h8 := qY h8
 replace h8 := jG h8
 refine qm (qA ?_)
 refine sp (.slice acounts counts.length ccounts) ?_
 refine sw (zX Tryz.underlying22 acounts counts.length ccounts rfl ?_)
 refine sw (qP b1 (0) 2 Tryz.underlying36 rfl rfl Tryz.sizeOf34 rfl ?_)
 refine sw (qE (.slice qF s.qg.length qB) Tryz.isAgg34 rfl (H.cell 1 rfl rfl) ?_)
 refine sw (zX Tryz.underlying34 qF s.qg.length qB rfl ?_)
 refine sps [.bool ((counts.length : Int) != s.qg.length), .bool ((counts.length : Int) != s.qg.length)] ?_
 cases h9 : ((counts.length : Int) != s.qg.length)
 ·skip
  replace h9 := xR h9
  refine qQ 19 rfl rfl ?_
  refine sp (.slice acounts counts.length ccounts) ?_
  refine qQ 19 rfl rfl ?_
  refine sw (qZ #[.slice acounts counts.length ccounts, .func (.func 117) #[] #[]] rfl rfl Tryz.call116 (containsFuncI_ok w6 counts 117 #[] (fun k => !isCnt (counts[k]!)) acounts ccounts Fcounts (H.get 5 rfl).1 Tryz.call117 (fun k w' hk e => countsCode1_ok w' _)) ?_)
  rintro _ w10 rfl x11
  replace H := H.ext x11
  refine sps [.bool (anyTo (fun k => !isCnt (counts[k]!)) counts.length), .bool (anyTo (fun k => !isCnt (counts[k]!)) counts.length)] ?_
  refine qx (t_n ?_)
  refine qW (anyTo (fun k => !isCnt (counts[k]!)) counts.length) rfl (fun h12 => ?_) (fun h12 => ?_)
  ·skip
   refine qm (qA ?_)
   refine sp (.int .i64 2) ?_
   refine qx (t_n (xC (b_r (t_r ?_))))
   refine ret1 (.int .i64 2) rfl rfl ⟨_, rfl, ?_, H.base⟩
   rw [ask_2 ‹yI s ∧ zu s t› (fun h => by first | (have := h.1; omega) | (have z := anyCnt_iff.2 h.2; rw [‹anyTo _ _ = true›] at z; cases z))]
  refine xk (b_n (t_n (qm (qA ?_))))
  refine sp (.int .i64 0) ?_
  refine qx (t_n (xC ?_))
  refine ret1 (.int .i64 0) rfl rfl ⟨_, rfl, ?_, H.base⟩
  rw [ask_0 ‹yI s ∧ zu s t› ⟨by omega, anyCnt_iff.1 (by rw [‹anyTo _ _ = false›]; rfl)⟩]
 replace h9 := bne_iff_ne.1 h9
 refine zf [20, 21] ?_
 refine sps [.bool true, .bool true] ?_
 refine qx (t_n ?_)
 refine qW true rfl (fun _ => ?_) (fun h => absurd h (by decide))
 refine qm (qA ?_)
 refine sp (.int .i64 2) ?_
 refine qx (t_n (xC (b_r (t_r ?_))))
 refine ret1 (.int .i64 2) rfl rfl ⟨_, rfl, ?_, H.base⟩
 rw [ask_2 ‹yI s ∧ zu s t› (fun h => by first | (have := h.1; omega) | (have z := anyCnt_iff.2 h.2; rw [‹anyTo _ _ = true›] at z; cases z))]

theorem indexI_ok (w : World) (l : List Int) (x : Int) (al : Option Addr) (cl : Nat) (Fl : List Nat) (hl : qV.rep w Fl [.slice al l.length cl] l) : Calls Tryz.prog 111 #[.slice al l.length cl, .int .i64 x] w (Ret (fun v w' => v = .int .i64 (firstIdx (fun k => x == l[k]!) l.length)) w) := by
 refine enter (n := 19) Tryz.func111 rfl Tryz.ntmps111 (Nat.le_of_ble_eq_true rfl) ?_
 have H := (St.start w).arg hl
 have nhl := qN hl
 clear hl
 have N := Fresh.nil w.heap.size
 refine qm (qA ?_)
 refine sp (.int .i64 0) ?_
 refine qx (t_n (qm (qm (qA ?_))))
 refine sp (.slice al l.length cl) ?_
 refine sw (zX Tryz.underlying22 al l.length cl rfl ?_)
 refine sp (.int .i64 0) ?_
 refine qx (t_n (xE ?_))
 refine zU (fun m' ρ w1 => ∃ (junk : Env) (i : Nat), ρ = upd (upd (upd (upd junk 0 (.slice al l.length cl)) 1 (.int .i64 x)) 7 (.int .i64 l.length)) 8 (.int .i64 i) ∧ ((i : Int) ≤ l.length) ∧ (noneTo (fun k => x == l[k]!) i) ∧ m' = (l.length - (i : Int)).toNat ∧ Fresh w.heap.size [] ∧ St w w1 [] [isF false Fl (.slice al l.length cl) l]) ((l.length - (0 : Int)).toNat) ⟨_, 0, (by exact qj (qj (qj (qj (rfl) rfl) rfl) rfl) rfl), (by omega), (by exact fun j hj => by omega), rfl, N, H⟩ ?_
 clear H N
 rintro m' ρ w2 ⟨junk, i, rfl, i0, i1, rfl, N, H⟩
 refine qm (qA ?_)
 refine sp (.bool (decide ((i : Int) < l.length))) ?_
 refine qx (t_n (qm ?_))
 refine qW (decide ((i : Int) < l.length)) rfl (fun h3 => ?_) (fun h3 => ?_)
 ·skip
  replace h3 := of_decide_eq_true h3
  refine xk (t_n (qm (xE (qm (qA ?_)))))
  refine sps [.int .i64 i, .int .i64 i] ?_
  refine qx (t_n (qm (qA ?_)))
  refine sps [.int .i64 x, .slice al l.length cl, .int .i64 i] ?_
  obtain ⟨b4, o5, rfl⟩ := H.addr 0 rfl (by omega)
  refine sw (xK i Tryz.underlying22 ti2 rfl rfl (by omega) (by omega) ?_)
  refine sw (qE (.int .i64 (l[i]!)) Tryz.isAgg2 rfl (H.jq 0 rfl i (by omega) (by omega)) ?_)
  refine sp (.bool ((x : Int) == (l[i]!))) ?_
  refine qx (t_n ?_)
  refine qW ((x : Int) == (l[i]!)) rfl (fun h7 => ?_) (fun h7 => ?_)
  ·skip
   replace h7 := eq_of_beq h7
   refine qm (qA ?_)
   refine sps [.int .i64 i, .int .i64 i] ?_
   refine qx (t_n (xC (b_r (t_r (t_r (b_r (t_r ?_)))))))
   refine ret1 (.int .i64 i) rfl rfl ⟨_, rfl, ?_, H.base⟩
   rw [firstIdx_some (k := i) (by omega) i1 (by simpa using ‹x = l[i]!›)]
  replace h7 := ne_of_beq_false h7
  refine xk (b_n (t_n (qA ?_)))
  refine sw (zZ i 1 rfl rfl (by omega) ?_)
  refine sp (.int .i64 (i + 1)) ?_
  refine qx ?_
  refine xH (m' := (l.length - ((i + 1) : Int)).toNat) (by omega) ⟨_, i + 1, (by exact qj (qj (qj (qj (rfl) rfl) rfl) rfl) rfl), ?_, ?_, rfl, N, H⟩
  · omega
  · exact noneTo_succ ‹_› (by simpa using ‹x ≠ l[i]!›)
 replace h3 := of_decide_eq_false h3
 refine zK (t_x (t_x (b_x (t_n (qm (qA ?_))))))
 refine sp (.int .i64 (-1)) ?_
 refine qx (t_n (xC ?_))
 refine ret1 (.int .i64 (-1)) rfl rfl ⟨_, rfl, ?_, H.base⟩
 rw [firstIdx_none (fun j hj => i1 j (by omega))]

theorem containsI_ok (w : World) (l : List Int) (x : Int) (al : Option Addr) (cl : Nat) (Fl : List Nat) (hl : qV.rep w Fl [.slice al l.length cl] l) : Calls Tryz.prog 64 #[.slice al l.length cl, .int .i64 x] w (Ret (fun v w' => v = .bool (dec ((x : Int) ∈ l))) w) := by
 refine enter (n := 9) Tryz.func64 rfl Tryz.ntmps64 (Nat.le_of_ble_eq_true rfl) ?_
 have H := (St.start w).arg hl
 have nhl := qN hl
 clear hl
 have N := Fresh.nil w.heap.size
 refine qm (qA ?_)
 refine sp (.bool false) ?_
 refine qx (t_n (qm (qA ?_)))
 refine sps [.slice al l.length cl, .int .i64 x] ?_
 refine sw (qZ #[.slice al l.length cl, .int .i64 x] rfl rfl Tryz.call111 (indexI_ok w l x al cl Fl (H.get 0 rfl).1) ?_)
 rintro _ w2 rfl x3
 replace H := H.ext x3
 refine sps [.bool (decide ((firstIdx (fun k => x == l[k]!) l.length : Int) ≥ 0)), .bool (decide ((firstIdx (fun k => x == l[k]!) l.length : Int) ≥ 0))] ?_
 refine qx (t_n (xC ?_))
 refine ret1 (.bool (decide ((firstIdx (fun k => x == l[k]!) l.length : Int) ≥ 0))) rfl rfl ⟨_, rfl, ?_, H.base⟩
 rw [anyTo_first, anyTo_mem]

theorem minI_ok (w : World) (l : List Int) (al : Option Addr) (cl : Nat) (Fl : List Nat) (hl : qV.rep w Fl [.slice al l.length cl] l) (p0 : 1 ≤ l.length) : Calls Tryz.prog 119 #[.slice al l.length cl] w (Ret (fun v w' => v = .int .i64 (minL l)) w) := by
 refine enter (n := 25) Tryz.func119 rfl Tryz.ntmps119 (Nat.le_of_ble_eq_true rfl) ?_
 have H := (St.start w).arg hl
 have nhl := qN hl
 clear hl
 have N := Fresh.nil w.heap.size
 refine qm (qA ?_)
 refine sp (.int .i64 0) ?_
 refine qx (t_n (qm (qm (qA ?_))))
 refine sp (.slice al l.length cl) ?_
 refine sw (zX Tryz.underlying22 al l.length cl rfl ?_)
 refine sp (.bool (decide ((l.length : Int) < 1))) ?_
 refine qx (t_n ?_)
 refine qW (decide ((l.length : Int) < 1)) rfl (fun h1 => ?_) (fun h1 => ?_)
 ·skip
  replace h1 := of_decide_eq_true h1
  exfalso; omega
 replace h1 := of_decide_eq_false h1
 refine xk (t_n (qm (qA ?_)))
 refine sp (.slice al l.length cl) ?_
 obtain ⟨b2, o3, rfl⟩ := H.addr 0 rfl (by omega)
 refine sw (xK 0 Tryz.underlying22 ti2 rfl rfl (by omega) (by omega) ?_)
 refine sw (qE (.int .i64 (l[0]!)) Tryz.isAgg2 rfl (H.jq 0 rfl 0 (by omega) (by omega)) ?_)
 refine sp (.int .i64 (l[0]!)) ?_
 refine qx (t_n (qm (qm (qA ?_))))
 refine sp (.int .i64 1) ?_
 refine qx (t_n (xE ?_))
 refine zU (fun m' ρ w5 => ∃ (junk : Env) (m : Int) (i : Nat), ρ = upd (upd (upd junk 0 (.slice (aa b2 o3) l.length cl)) 3 (.int .i64 m)) 4 (.int .i64 i) ∧ m = minTo l i ∧ ((i : Int) ≤ l.length) ∧ (1 ≤ i) ∧ m' = (l.length - (i : Int)).toNat ∧ Fresh w.heap.size [] ∧ St w w5 [] [isF false Fl (.slice (aa b2 o3) l.length cl) l]) ((l.length - (1 : Int)).toNat) ⟨_, l[0]!, 1, (by exact qj (qj (qj (rfl) rfl) rfl) rfl), (by exact (minTo_one l).symm), (by omega), (by omega), rfl, N, H⟩ ?_
 clear H N
 rintro m' ρ w6 ⟨junk, m, i, rfl, rfl, i0, i2, rfl, N, H⟩
 refine qm (qm (qA ?_))
 refine sps [.int .i64 i, .slice (aa b2 o3) l.length cl] ?_
 refine sw (zX Tryz.underlying22 (aa b2 o3) l.length cl rfl ?_)
 refine sp (.bool (decide ((i : Int) < l.length))) ?_
 refine qx (t_n ?_)
 refine qW (decide ((i : Int) < l.length)) rfl (fun h7 => ?_) (fun h7 => ?_)
 ·skip
  replace h7 := of_decide_eq_true h7
  refine xk (t_n (qm (xE (qA ?_))))
  refine sps [.int .i64 (minTo l i), .slice (aa b2 o3) l.length cl, .int .i64 i] ?_
  refine sw (xK i Tryz.underlying22 ti2 rfl rfl (by omega) (by omega) ?_)
  refine sw (qE (.int .i64 (l[i]!)) Tryz.isAgg2 rfl (H.jq 0 rfl i (by omega) (by omega)) ?_)
  refine sw (o_min (minTo l i) (l[i]!) rfl rfl ?_)
  refine sp (.int .i64 (min (minTo l i) (l[i]!))) ?_
  refine qx (b_n (t_n (qA ?_)))
  refine sp (.int .i64 i) ?_
  refine sw (zZ i 1 rfl rfl (by omega) ?_)
  refine sp (.int .i64 (i + 1)) ?_
  refine qx ?_
  refine xH (m' := (l.length - ((i + 1) : Int)).toNat) (by omega) ⟨_, min (minTo l i) (l[i]!), i + 1, (by exact qj (qj (qj (rfl) rfl) rfl) rfl), ?_, ?_, ?_, rfl, N, H⟩
  · exact (minTo_succ (by omega)).symm
  · omega
  · omega
 replace h7 := of_decide_eq_false h7
 refine zK (t_x (t_x (b_x (t_n (qm (qA ?_))))))
 refine sps [.int .i64 (minTo l i), .int .i64 (minTo l i)] ?_
 refine qx (t_n (xC ?_))
 refine ret1 (.int .i64 (minTo l i)) rfl rfl ⟨_, rfl, ?_, H.base⟩
 obtain rfl : i = l.length := by omega
 rfl

end Go.Proofs.YtkmlihdacnfhdaaGreat
