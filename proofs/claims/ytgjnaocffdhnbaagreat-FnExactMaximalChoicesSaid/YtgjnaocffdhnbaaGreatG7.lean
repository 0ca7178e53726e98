/- Walks, printed by program (wip/tools/gv.py): what each function comes to, for all arguments. -/
import Derived.Test.YtgjnaocffdhnbaaGreatG6
import Derived.Test.YtgjnaocffdhnbaaGreatI
import Derived.Test.YtgjnaocffdhnbaaGreatTI
namespace Go.Proofs.YtgjnaocffdhnbaaGreat
set_option linter.unusedVariables false
set_option linter.unusedSimpArgs false
open Go.Proofs.YtgjnaocffdhnbaaGreat.Tot (tot)
open Go.Proofs.YtgjnaocffdhnbaaGreat.Mark (cnt mrk mkd mkd_mark cnt_mark)
open Go.RowKit
set_option linter.unusedVariables false
set_option linter.unusedSimpArgs false
set_option maxRecDepth 100000
set_option maxHeartbeats 4000000

instance iC138_G7 : Qn Tryz.prog 138 := ⟨Tryz.call138⟩
instance iC139_G7 : Qn Tryz.prog 139 := ⟨Tryz.call139⟩
instance iA3_G7 : SclC Tryz.prog 3 := ⟨Tryz.isAgg3⟩
instance iC104_G7 : Qn Tryz.prog 104 := ⟨Tryz.call104⟩


theorem validSystem_ok (w : World) (s : qK) (qx : Option Addr) (qp : Nat) (xn : List Nat) (qN : Option Addr) (qL : Nat) (xG : List Nat) (xh : qE.rep w xn [.slice qx s.qf.length qp] s.qf) (xE : qE.rep w xG [.slice qN s.qh.length qL] s.qh) : Calls Tryz.prog 104 #[.agg #[.int .i64 s.qH, .slice qx s.qf.length qp, .slice qN s.qh.length qL]] w (Ret (fun v w' => v = .bool (dec (yw s))) w) := by
 refine en Tryz.func104 Tryz.ntmps104 ?_
 have H := ((St.start w).arg xE).arg xh
 have zU := qA xh
 have jD := qA xE
 clear xh xE
 have N := Fresh.nil w.heap.size
 have p1 := fun h : yt s => h.2.1
 refine qi (ql ?_)
 refine sw (zh H [.int .i64 s.qH, .slice qx s.qf.length qp, .slice qN s.qh.length qL] fun b1 w2 H => ?_)
 refine sp (.bool false) ?_
 refine qj (t_n (qi (qi (ql ?_))))
 refine sw (zC [.int .i64 s.qH, .slice qx s.qf.length qp, .slice qN s.qh.length qL] Tryz.isAgg36 Tryz.sizeOf36 rfl (qI (H.cells 0 rfl) 0 3) ?_)
 refine sw (oc (isShell_ok _ s _ _ _ _ _ _ (H.get 0 rfl).1 (H.get 1 rfl).1) ?_)
 rintro _ w4 rfl x5
 replace H := H.ext x5
 refine sps [.bool (!(dec (yt s))), .bool (!(dec (yt s)))] ?_
 cases h6 : (!(dec (yt s)))
 ·skip
  replace h6 := qJ h6
  replace h6 := vC h6
  refine qB 9 rfl rfl ?_
  refine oF rfl ?_
  refine qB 9 rfl rfl ?_
  refine oL rfl (H.cell 0 rfl rfl) ?_
  refine qB 9 rfl rfl ?_
  refine oN rfl ?_
  refine qB 9 rfl rfl ?_
  refine sps [.bool (decide ((s.qh.length : Int) > 16)), .bool (decide ((s.qh.length : Int) > 16))] ?_
  refine qj (t_n ?_)
  refine qC (decide ((s.qh.length : Int) > 16)) rfl (fun h7 => ?_) (fun h7 => ?_)
  ·skip
   replace h7 := of_decide_eq_true h7
   refine qi (ql ?_)
   refine sp (.bool false) ?_
   refine qj (t_n (qV (t_r ?_)))
   refine ret1 (.bool false) rfl rfl ⟨_, rfl, ?_, H.base⟩
   rw [qY (fun h => by obtain ⟨h1, h2, h3⟩ := h; first | contradiction | omega | (obtain ⟨r1, r2⟩ := h3 k (by omega); first | contradiction | (have := Xy (s := s) (k := k + 1) q1 q2; omega)))]
  replace h7 := of_decide_eq_false h7
  refine qM (t_n (qi (ql ?_)))
  refine sw (Qs [.int .i64 0, .int .i64 0, .int .i64 0, .int .i64 0, .int .i64 0, .int .i64 0] [] ?_)
  refine sw (xy H ti159 [.int .i64 0, .int .i64 0, .int .i64 0, .int .i64 0, .int .i64 0, .int .i64 0] fun b8 w9 H => ?_)
  refine sw (o_storeC H 0 [.int .i64 0, .int .i64 0, .int .i64 0, .int .i64 0, .int .i64 0, .int .i64 0] Tryz.sizeOf159 fun w10 H => ?_)
  try dsimp only [List.set] at H
  refine qj (t_n (qi (qi (ql ?_))))
  refine oF rfl ?_
  refine oL rfl (H.cell 1 rfl rfl) ?_
  refine oN rfl ?_
  refine sp (.int .i64 0) ?_
  refine qj (t_n (qW ?_))
  try dsimp only [List.set] at H
  have p2 := p1 ‹_›
  refine zf (fun m' ρ w11 => ∃ (junk : Env) (k : Nat) (many : List Int), ρ = upd (upd (upd (upd (upd junk 1 (pp b1 0)) 3 (pp b8 0)) 17 (.slice qN s.qh.length qL)) 18 (.int .i64 s.qh.length)) 19 (.int .i64 k) ∧ many = counts6 s k ∧ ((k : Int) ≤ s.qh.length) ∧ (RulesTo s k) ∧ m' = (s.qh.length - (k : Int)).toNat ∧ Fresh w.heap.size [] ∧ St w w11 [.box b8 (many.map (Value.int .i64)) 159, .box b1 [.int .i64 s.qH, .slice qx s.qf.length qp, .slice qN s.qh.length qL] 36] [isF false xn (.slice qx s.qf.length qp) s.qf, isF false xG (.slice qN s.qh.length qL) s.qh]) ((s.qh.length - (0 : Int)).toNat) ⟨_, 0, [0, 0, 0, 0, 0, 0], (by exact qg (qg (qg (qg (qg (rfl) rfl) rfl) rfl) rfl) rfl), (by exact counts6_zero s), (by omega), (by exact fun j hj => by omega), rfl, N, H⟩ ?_
  clear H N
  rintro m' ρ w12 ⟨junk, k, many, rfl, rfl, i0, i1, rfl, N, H⟩
  refine qi (ql ?_)
  refine sp (.bool (decide ((k : Int) < s.qh.length))) ?_
  refine qj (t_n (qi ?_))
  refine qC (decide ((k : Int) < s.qh.length)) rfl (fun h13 => ?_) (fun h13 => ?_)
  ·skip
   replace h13 := of_decide_eq_true h13
   refine qM (t_n (qi (qW (qi (ql ?_)))))
   obtain ⟨b14, o15, rfl⟩ := H.addr 1 rfl (by omega)
   obtain ⟨ae17Need, ce17Need, Fe17Need, ae17Have, ce17Have, Fe17Have, ae17Lack, ce17Lack, Fe17Lack, ae17Here, ce17Here, Fe17Here, ae17Out, ce17Out, Fe17Out, ae17Into, ce17Into, Fe17Into, H⟩ := H.jK 1 rfl k k (by omega) (by omega) (by omega)
   refine oI rfl rfl ?_
   refine sw (zC [.int .i64 ((s.qh[k]!).qw), .int .i64 ((s.qh[k]!).xN), .slice ae17Need (((s.qh[k]!).qO).length) ce17Need, .slice ae17Have (((s.qh[k]!).qX).length) ce17Have, .slice ae17Lack (((s.qh[k]!).xe).length) ce17Lack, .slice ae17Here (((s.qh[k]!).xm).length) ce17Here, .slice ae17Out (((s.qh[k]!).xZ).length) ce17Out, .slice ae17Into (((s.qh[k]!).qF).length) ce17Into, .bool ((s.qh[k]!).xO)] Tryz.isAgg121 Tryz.sizeOf121 rfl (qI (H.get 6 rfl) 0 9) ?_)
   refine sw (xy H ti121 [.int .i64 0, .int .i64 0, .slice none 0 0, .slice none 0 0, .slice none 0 0, .slice none 0 0, .slice none 0 0, .slice none 0 0, .bool false] fun b18 w19 H => ?_)
   refine sw (o_storeC H 0 [.int .i64 ((s.qh[k]!).qw), .int .i64 ((s.qh[k]!).xN), .slice ae17Need (((s.qh[k]!).qO).length) ce17Need, .slice ae17Have (((s.qh[k]!).qX).length) ce17Have, .slice ae17Lack (((s.qh[k]!).xe).length) ce17Lack, .slice ae17Here (((s.qh[k]!).xm).length) ce17Here, .slice ae17Out (((s.qh[k]!).xZ).length) ce17Out, .slice ae17Into (((s.qh[k]!).qF).length) ce17Into, .bool ((s.qh[k]!).xO)] Tryz.sizeOf121 fun w20 H => ?_)
   try dsimp only [List.set] at H
   refine qj (t_n (qi (qi (ql ?_))))
   refine sw (zC [.int .i64 s.qH, .slice qx s.qf.length qp, .slice (aa b14 o15) s.qh.length qL] Tryz.isAgg36 Tryz.sizeOf36 rfl (qI (H.cells 2 rfl) 0 3) ?_)
   refine sw (zC [.int .i64 ((s.qh[k]!).qw), .int .i64 ((s.qh[k]!).xN), .slice ae17Need (((s.qh[k]!).qO).length) ce17Need, .slice ae17Have (((s.qh[k]!).qX).length) ce17Have, .slice ae17Lack (((s.qh[k]!).xe).length) ce17Lack, .slice ae17Here (((s.qh[k]!).xm).length) ce17Here, .slice ae17Out (((s.qh[k]!).xZ).length) ce17Out, .slice ae17Into (((s.qh[k]!).qF).length) ce17Into, .bool ((s.qh[k]!).xO)] Tryz.isAgg121 Tryz.sizeOf121 rfl (qI (H.cells 0 rfl) 0 9) ?_)
   refine sw (oc (isRule_ok _ s (s.qh[k]!) _ _ _ _ _ _ _ _ _ _ _ _ _ _ _ _ _ _ _ _ _ _ _ _ (H.get 7 rfl).1 (H.get 8 rfl).1 (H.get 0 rfl).1 (H.get 1 rfl).1 (H.get 2 rfl).1 (H.get 3 rfl).1 (H.get 4 rfl).1 (H.get 5 rfl).1 (by first | assumption | omega)) ?_)
   rintro _ w22 rfl x23
   replace H := H.ext x23
   have q := fun h : RuleOk s (s.qh[k]!) => (show 0 ≤ (s.qh[k]!).qw ∧ (s.qh[k]!).qw ≤ 5 from ⟨h.1.1, by have := h.1.2; omega⟩)
   refine sp (.bool (!(dec (RuleOk s (s.qh[k]!))))) ?_
   refine qj (t_n ?_)
   refine qC (!(dec (RuleOk s (s.qh[k]!)))) rfl (fun h24 => ?_) (fun h24 => ?_)
   ·skip
    replace h24 := qP h24
    replace h24 := xI h24
    refine qi (ql ?_)
    refine sp (.bool false) ?_
    refine qj (t_n (qV (t_r (b_r (t_r (t_r (b_r (t_r ?_))))))))
    refine ret1 (.bool false) rfl rfl ⟨_, rfl, ?_, H.base⟩
    rw [qY (fun h => by obtain ⟨h1, h2, h3⟩ := h; first | contradiction | omega | (obtain ⟨r1, r2⟩ := h3 k (by omega); first | contradiction | (have := Xy (s := s) (k := k + 1) q1 q2; omega)))]
   replace h24 := qJ h24
   replace h24 := vC h24
   obtain ⟨q1, q2⟩ := q ‹_›
   have q3 := Xy (s := s) (k := k) q1 q2
   have q4 := ofCell_bd s.qh (s.qh[k]!).qw k
   refine qM (t_n (qi (ql ?_)))
   refine oF rfl ?_
   refine oL rfl (H.cell 0 rfl rfl) ?_
   refine sw (o_idxArr ((s.qh[k]!).qw) Tryz.underlying159 ti3 rfl rfl (by omega) (by omega) ?_)
   refine oL rfl (H.cell 1 rfl (ints_at (iv := (s.qh[k]!).qw) (i := (((s.qh[k]!).qw).toNat)) (by omega) (by simp only [List.length_set, List.length_cons, List.length_nil, counts6_len]; omega))) ?_
   refine sw (zk ((counts6 s k)[((s.qh[k]!).qw).toNat]!) 1 rfl rfl (by omega) ?_)
   refine sw (o_idxArr ((s.qh[k]!).qw) Tryz.underlying159 ti3 rfl rfl (by omega) (by omega) ?_)
   refine sw (o_storeArr H 1 rfl (((counts6 s k)[((s.qh[k]!).qw).toNat]!) + 1) Tryz.sizeOf3 rfl rfl (i := (((s.qh[k]!).qw).toNat)) (by omega) (by simp only [List.length_set, List.length_cons, List.length_nil, counts6_len]; omega) fun w25 H => ?_)
   rw [counts6_succ q1 q2] at H
   try dsimp only [List.set] at H
   refine qj (t_n (qi (ql ?_)))
   refine oF rfl ?_
   refine oL rfl (H.cell 0 rfl rfl) ?_
   refine sw (o_idxArr ((s.qh[k]!).qw) Tryz.underlying159 ti3 rfl rfl (by omega) (by omega) ?_)
   refine oL rfl (H.cell 1 rfl (ints_at (iv := (s.qh[k]!).qw) (i := (((s.qh[k]!).qw).toNat)) (by omega) (by simp only [List.length_set, List.length_cons, List.length_nil, counts6_len]; omega))) ?_
   refine sp (.bool (decide (((counts6 s (k + 1))[((s.qh[k]!).qw).toNat]! : Int) > 8))) ?_
   refine qj (t_n ?_)
   refine qC (decide (((counts6 s (k + 1))[((s.qh[k]!).qw).toNat]! : Int) > 8)) rfl (fun h26 => ?_) (fun h26 => ?_)
   ·skip
    replace h26 := of_decide_eq_true h26
    refine qi (ql ?_)
    refine sp (.bool false) ?_
    refine qj (t_n (qV (b_r (t_r (t_r (b_r (t_r ?_)))))))
    refine ret1 (.bool false) rfl rfl ⟨_, rfl, ?_, H.base⟩
    rw [qY (fun h => by obtain ⟨h1, h2, h3⟩ := h; first | contradiction | omega | (obtain ⟨r1, r2⟩ := h3 k (by omega); first | contradiction | (have := Xy (s := s) (k := k + 1) q1 q2; omega)))]
   replace h26 := of_decide_eq_false h26
   refine qM (b_n (t_n (ql ?_)))
   refine sw (zk k 1 rfl rfl (by omega) ?_)
   refine sp (.int .i64 (k + 1)) ?_
   refine qj ?_
   refine xk (m' := (s.qh.length - ((k + 1) : Int)).toNat) (by omega) ⟨_, k + 1, counts6 s (k + 1), (by exact qg (qg (qg (qg (qg (rfl) rfl) rfl) rfl) rfl) rfl), ?_, ?_, ?_, rfl, N, H.pick [1, 2] [7, 8]⟩
   · rfl
   · omega
   · exact i1.succ ‹_› (by have := Xy (s := s) (k := k + 1) q1 q2; omega)
  replace h13 := of_decide_eq_false h13
  refine xQ (t_x (t_x (b_x (t_n (qi (ql ?_))))))
  refine sp (.bool true) ?_
  refine qj (t_n (qV ?_))
  refine ret1 (.bool true) rfl rfl ⟨_, rfl, ?_, H.base⟩
  rw [jE ⟨by assumption, by omega, (show s.qh.length = k by omega) ▸ i1⟩]
 replace h6 := qP h6
 replace h6 := xI h6
 refine xF [10, 11, 12, 13] ?_
 refine sp (.bool true) ?_
 refine qj (t_n ?_)
 refine qC true rfl (fun _ => ?_) (fun h => absurd h (by decide))
 refine qi (ql ?_)
 refine sp (.bool false) ?_
 refine qj (t_n (qV (t_r ?_)))
 refine ret1 (.bool false) rfl rfl ⟨_, rfl, ?_, H.base⟩
 rw [qY (fun h => by obtain ⟨h1, h2, h3⟩ := h; first | contradiction | omega | (obtain ⟨r1, r2⟩ := h3 k (by omega); first | contradiction | (have := Xy (s := s) (k := k + 1) q1 q2; omega)))]

theorem validState_ok (w : World) (s : qK) (t : xu) (qx : Option Addr) (qp : Nat) (xn : List Nat) (qN : Option Addr) (qL : Nat) (xG : List Nat) (xB : Option Addr) (xx : Nat) (zy : List Nat) (xK : Option Addr) (xH : Nat) (zX : List Nat) (xg : Option Addr) (xf : Nat) (xW : List Nat) (xh : qE.rep w xn [.slice qx s.qf.length qp] s.qf) (xE : qE.rep w xG [.slice qN s.qh.length qL] s.qh) (zu : qE.rep w zy [.slice xB t.qo.length xx] t.qo) (zV : qE.rep w zX [.slice xK t.qy.length xH] t.qy) (xU : qE.rep w xW [.slice xg t.qm.length xf] t.qm) : Calls Tryz.prog 63 #[.agg #[.int .i64 s.qH, .slice qx s.qf.length qp, .slice qN s.qh.length qL], .agg #[.slice xB t.qo.length xx, .slice xK t.qy.length xH, .slice xg t.qm.length xf]] w (Ret (fun v w' => v = .bool (dec (yw s ∧ zS s t))) w) := by
 refine en Tryz.func63 Tryz.ntmps63 ?_
 have H := (((((St.start w).arg xU).arg zV).arg zu).arg xE).arg xh
 have zU := qA xh
 have jD := qA xE
 have Xr := qA zu
 have nhtBags := qA zV
 have QA := qA xU
 clear xh xE zu zV xU
 have N := Fresh.nil w.heap.size
 refine qi (ql ?_)
 refine sw (zh H [.int .i64 s.qH, .slice qx s.qf.length qp, .slice qN s.qh.length qL] fun b1 w2 H => ?_)
 refine sw (zh H [.slice xB t.qo.length xx, .slice xK t.qy.length xH, .slice xg t.qm.length xf] fun b3 w4 H => ?_)
 refine sp (.bool false) ?_
 refine qj (t_n (qi (qi (ql ?_))))
 refine sw (zC [.int .i64 s.qH, .slice qx s.qf.length qp, .slice qN s.qh.length qL] Tryz.isAgg36 Tryz.sizeOf36 rfl (qI (H.cells 1 rfl) 0 3) ?_)
 refine sw (oc (validSystem_ok _ s _ _ _ _ _ _ (H.get 0 rfl).1 (H.get 1 rfl).1) ?_)
 rintro _ w6 rfl x7
 replace H := H.ext x7
 refine sps [.bool (!(dec (yw s))), .bool (!(dec (yw s)))] ?_
 cases h8 : (!(dec (yw s)))
 ·skip
  replace h8 := qJ h8
  replace h8 := vC h8
  have z1 := (‹yw s› : yw s).1.2.1
  refine qB 10 rfl rfl ?_
  refine oF rfl ?_
  refine qB 10 rfl rfl ?_
  refine oL rfl (H.cell 0 rfl rfl) ?_
  refine qB 10 rfl rfl ?_
  refine oN rfl ?_
  refine qB 10 rfl rfl ?_
  refine oF rfl ?_
  refine qB 10 rfl rfl ?_
  refine oL rfl (H.cell 1 rfl rfl) ?_
  refine qB 10 rfl rfl ?_
  refine oN rfl ?_
  refine qB 10 rfl rfl ?_
  refine sps [.bool ((t.qo.length : Int) != s.qf.length), .bool ((t.qo.length : Int) != s.qf.length), .bool ((t.qo.length : Int) != s.qf.length)] ?_
  cases h9 : ((t.qo.length : Int) != s.qf.length)
  ·skip
   replace h9 := xw h9
   refine qB 19 rfl rfl ?_
   refine oF rfl ?_
   refine qB 19 rfl rfl ?_
   refine oL rfl (H.cell 0 rfl rfl) ?_
   refine qB 19 rfl rfl ?_
   refine oN rfl ?_
   refine qB 19 rfl rfl ?_
   refine oF rfl ?_
   refine qB 19 rfl rfl ?_
   refine oL rfl (H.cell 1 rfl rfl) ?_
   refine qB 19 rfl rfl ?_
   refine oN rfl ?_
   refine qB 19 rfl rfl ?_
   refine sps [.bool ((t.qy.length : Int) != s.qf.length), .bool ((t.qy.length : Int) != s.qf.length), .bool ((t.qy.length : Int) != s.qf.length)] ?_
   cases h10 : ((t.qy.length : Int) != s.qf.length)
   ·skip
    replace h10 := xw h10
    refine qB 28 rfl rfl ?_
    refine oF rfl ?_
    refine qB 28 rfl rfl ?_
    refine oL rfl (H.cell 0 rfl rfl) ?_
    refine qB 28 rfl rfl ?_
    obtain ⟨b11, o12, rfl⟩ := H.addr 2 rfl (by omega)
    refine oI rfl rfl ?_
    refine qB 28 rfl rfl ?_
    refine oL rfl (H.QG 2 rfl 0 (by omega) (by omega)) ?_
    refine qB 28 rfl rfl ?_
    refine sps [.bool (!(t.qo[0]!)), .bool (!(t.qo[0]!)), .bool (!(t.qo[0]!))] ?_
    cases h14 : (!(t.qo[0]!))
    ·skip
     replace h14 := qJ h14
     refine qB 35 rfl rfl ?_
     refine oF rfl ?_
     refine qB 35 rfl rfl ?_
     refine oL rfl (H.cell 1 rfl rfl) ?_
     refine qB 35 rfl rfl ?_
     refine oF rfl ?_
     refine qB 35 rfl rfl ?_
     refine oL rfl (H.cell 0 rfl rfl) ?_
     refine qB 35 rfl rfl ?_
     refine sw (oc (Xv _ s.qH t.qm _ _ _ (H.get 4 rfl).1) ?_)
     rintro _ w15 rfl x16
     replace H := H.ext x16
     refine qB 35 rfl rfl ?_
     refine sps [.bool (!(dec (zg s.qH t.qm))), .bool (!(dec (zg s.qH t.qm)))] ?_
     refine qj (t_n ?_)
     refine qC (!(dec (zg s.qH t.qm))) rfl (fun h17 => ?_) (fun h17 => ?_)
     ·skip
      replace h17 := qP h17
      replace h17 := xI h17
      refine qi (ql ?_)
      refine sp (.bool false) ?_
      refine qj (t_n (qV (t_r ?_)))
      refine ret1 (.bool false) rfl rfl ⟨_, rfl, ?_, H.base⟩
      rw [qY (fun h => by obtain ⟨h0, h1, h2, h3, h4, h5⟩ := h; first | contradiction | omega | (simp_all; done) | (obtain ⟨q1, q2⟩ := h5 c (by omega); first | contradiction | (have := q2 (by assumption); omega)))]
     replace h17 := qJ h17
     replace h17 := vC h17
     refine qM (t_n (qi (qi (ql ?_))))
     refine oF rfl ?_
     refine oL rfl (H.cell 0 rfl rfl) ?_
     refine oN rfl ?_
     refine sp (.int .i64 0) ?_
     refine qj (t_n (qW ?_))
     refine zf (fun m' ρ w18 => ∃ (junk : Env) (c : Nat), ρ = upd (upd (upd (upd (upd junk 2 (pp b1 0)) 3 (pp b3 0)) 44 (.slice xK t.qy.length xH)) 45 (.int .i64 t.qy.length)) 46 (.int .i64 c) ∧ ((c : Int) ≤ t.qy.length) ∧ (BagsTo s t c) ∧ m' = (t.qy.length - (c : Int)).toNat ∧ Fresh w.heap.size [] ∧ St w w18 [.box b3 [.slice (aa b11 o12) t.qo.length xx, .slice xK t.qy.length xH, .slice xg t.qm.length xf] 38, .box b1 [.int .i64 s.qH, .slice qx s.qf.length qp, .slice qN s.qh.length qL] 36] [isF false xn (.slice qx s.qf.length qp) s.qf, isF false xG (.slice qN s.qh.length qL) s.qh, isF false zy (.slice (aa b11 o12) t.qo.length xx) t.qo, isF false zX (.slice xK t.qy.length xH) t.qy, isF false xW (.slice xg t.qm.length xf) t.qm]) ((t.qy.length - (0 : Int)).toNat) ⟨_, 0, (by exact qg (qg (qg (qg (qg (rfl) rfl) rfl) rfl) rfl) rfl), (by omega), (by exact fun j hj => by omega), rfl, N, H⟩ ?_
     clear H N
     rintro m' ρ w19 ⟨junk, c, rfl, i0, i1, rfl, N, H⟩
     refine qi (ql ?_)
     refine sp (.bool (decide ((c : Int) < t.qy.length))) ?_
     refine qj (t_n (qi ?_))
     refine qC (decide ((c : Int) < t.qy.length)) rfl (fun h20 => ?_) (fun h20 => ?_)
     ·skip
      replace h20 := of_decide_eq_true h20
      refine qM (t_n (qi (qW (qi (ql ?_)))))
      refine sp (.int .i64 c) ?_
      obtain ⟨b21, o22, rfl⟩ := H.addr 3 rfl (by omega)
      obtain ⟨ae24, ce24, Fe24, H⟩ := H.jo 3 rfl c c (by omega) (by omega) (by omega)
      refine oI rfl rfl ?_
      refine oL rfl (H.xJ 1 rfl 0 rfl) ?_
      refine sps [.int .i64 c, .slice ae24 ((t.qy[c]!).length) ce24] ?_
      refine qj (t_n (qi (ql ?_)))
      refine oF rfl ?_
      refine oL rfl (H.cell 1 rfl rfl) ?_
      refine sp (.slice ae24 ((t.qy[c]!).length) ce24) ?_
      refine sw (oc (Xv _ s.qH (t.qy[c]!) _ _ _ (H.get 0 rfl).1) ?_)
      rintro _ w25 rfl x26
      replace H := H.ext x26
      refine sps [.bool (!(dec (zg s.qH (t.qy[c]!)))), .bool (!(dec (zg s.qH (t.qy[c]!))))] ?_
      cases h27 : (!(dec (zg s.qH (t.qy[c]!))))
      ·skip
       replace h27 := qJ h27
       replace h27 := vC h27
       refine qB 56 rfl rfl ?_
       refine oF rfl ?_
       refine qB 56 rfl rfl ?_
       refine oL rfl (H.cell 0 rfl rfl) ?_
       refine qB 56 rfl rfl ?_
       refine sp (.int .i64 c) ?_
       refine qB 56 rfl rfl ?_
       refine oI rfl rfl ?_
       refine qB 56 rfl rfl ?_
       refine oL rfl (H.QG 4 rfl c (by omega) (by omega)) ?_
       refine qB 56 rfl rfl ?_
       refine sp (.bool (!(t.qo[c]!))) ?_
       refine qB 56 rfl rfl ?_
       refine sp (.bool (!(t.qo[c]!))) ?_
       cases h28 : (!(t.qo[c]!))
       ·skip
        replace h28 := qJ h28
        refine xF [64, 65, 66] ?_
        refine qB 56 rfl rfl ?_
        refine sps [.bool false, .bool false] ?_
        refine qj (t_n ?_)
        refine qC false rfl (fun h => absurd h (by decide)) (fun _ => ?_)
        refine qM (b_n (t_n (ql ?_)))
        refine sw (zk c 1 rfl rfl (by omega) ?_)
        refine sp (.int .i64 (c + 1)) ?_
        refine qj ?_
        refine xk (m' := (t.qy.length - ((c + 1) : Int)).toNat) (by omega) ⟨_, c + 1, (by exact qg (qg (qg (qg (qg (rfl) rfl) rfl) rfl) rfl) rfl), ?_, ?_, rfl, N, H.pick [0, 1] [2, 3, 4, 5, 6]⟩
        · omega
        · exact i1.succ ‹_› (fun hk => by first | omega | simp_all)
       replace h28 := qP h28
       refine qB 63 rfl rfl ?_
       refine sp (.slice ae24 ((t.qy[c]!).length) ce24) ?_
       refine qB 63 rfl rfl ?_
       refine sw (oc (QV _ (t.qy[c]!) _ _ _ (H.get 0 rfl).1 (by first | assumption | exact zo (by assumption) | exact jw (by assumption))) ?_)
       rintro _ w29 rfl x30
       replace H := H.ext x30
       refine qB 63 rfl rfl ?_
       refine sp (.bool (decide ((Qz (t.qy[c]!) : Int) > 0))) ?_
       refine qB 56 rfl rfl ?_
       refine sps [.bool (decide ((Qz (t.qy[c]!) : Int) > 0)), .bool (decide ((Qz (t.qy[c]!) : Int) > 0))] ?_
       refine qj (t_n ?_)
       refine qC (decide ((Qz (t.qy[c]!) : Int) > 0)) rfl (fun h31 => ?_) (fun h31 => ?_)
       ·skip
        replace h31 := of_decide_eq_true h31
        refine qi (ql ?_)
        refine sp (.bool false) ?_
        refine qj (t_n (qV (b_r (t_r (t_r (b_r (t_r ?_)))))))
        refine ret1 (.bool false) rfl rfl ⟨_, rfl, ?_, H.base⟩
        rw [qY (fun h => by obtain ⟨h0, h1, h2, h3, h4, h5⟩ := h; first | contradiction | omega | (simp_all; done) | (obtain ⟨q1, q2⟩ := h5 c (by omega); first | contradiction | (have := q2 (by assumption); omega)))]
       replace h31 := of_decide_eq_false h31
       refine qM (b_n (t_n (ql ?_)))
       refine sw (zk c 1 rfl rfl (by omega) ?_)
       refine sp (.int .i64 (c + 1)) ?_
       refine qj ?_
       refine xk (m' := (t.qy.length - ((c + 1) : Int)).toNat) (by omega) ⟨_, c + 1, (by exact qg (qg (qg (qg (qg (rfl) rfl) rfl) rfl) rfl) rfl), ?_, ?_, rfl, N, H.pick [0, 1] [2, 3, 4, 5, 6]⟩
       · omega
       · exact i1.succ ‹_› (fun hk => by first | omega | simp_all)
      replace h27 := qP h27
      replace h27 := xI h27
      refine xF [57, 58, 59, 60, 61, 62, 63, 64, 65, 66, 67] ?_
      refine sp (.bool true) ?_
      refine qj (t_n ?_)
      refine qC true rfl (fun _ => ?_) (fun h => absurd h (by decide))
      refine qi (ql ?_)
      refine sp (.bool false) ?_
      refine qj (t_n (qV (b_r (t_r (t_r (b_r (t_r ?_)))))))
      refine ret1 (.bool false) rfl rfl ⟨_, rfl, ?_, H.base⟩
      rw [qY (fun h => by obtain ⟨h0, h1, h2, h3, h4, h5⟩ := h; first | contradiction | omega | (simp_all; done) | (obtain ⟨q1, q2⟩ := h5 c (by omega); first | contradiction | (have := q2 (by assumption); omega)))]
     replace h20 := of_decide_eq_false h20
     refine xQ (t_x (t_x (b_x (t_n (qi (ql ?_))))))
     refine sp (.bool true) ?_
     refine qj (t_n (qV ?_))
     refine ret1 (.bool true) rfl rfl ⟨_, rfl, ?_, H.base⟩
     rw [jE ⟨by assumption, by omega, by omega, by first | assumption | simp_all, by assumption, (show t.qy.length = c by omega) ▸ i1⟩]
    replace h14 := qP h14
    refine xF [36, 37, 38, 39, 40, 41] ?_
    refine sp (.bool true) ?_
    refine qj (t_n ?_)
    refine qC true rfl (fun _ => ?_) (fun h => absurd h (by decide))
    refine qi (ql ?_)
    refine sp (.bool false) ?_
    refine qj (t_n (qV (t_r ?_)))
    refine ret1 (.bool false) rfl rfl ⟨_, rfl, ?_, H.base⟩
    rw [qY (fun h => by obtain ⟨h0, h1, h2, h3, h4, h5⟩ := h; first | contradiction | omega | (simp_all; done) | (obtain ⟨q1, q2⟩ := h5 c (by omega); first | contradiction | (have := q2 (by assumption); omega)))]
   replace h10 := bne_iff_ne.1 h10
   refine xF [29, 30, 31, 32, 33] ?_
   refine sps [.bool true, .bool true] ?_
   refine xF [36, 37, 38, 39, 40, 41] ?_
   refine sp (.bool true) ?_
   refine qj (t_n ?_)
   refine qC true rfl (fun _ => ?_) (fun h => absurd h (by decide))
   refine qi (ql ?_)
   refine sp (.bool false) ?_
   refine qj (t_n (qV (t_r ?_)))
   refine ret1 (.bool false) rfl rfl ⟨_, rfl, ?_, H.base⟩
   rw [qY (fun h => by obtain ⟨h0, h1, h2, h3, h4, h5⟩ := h; first | contradiction | omega | (simp_all; done) | (obtain ⟨q1, q2⟩ := h5 c (by omega); first | contradiction | (have := q2 (by assumption); omega)))]
  replace h9 := bne_iff_ne.1 h9
  refine xF [20, 21, 22, 23, 24, 25, 26] ?_
  refine sps [.bool true, .bool true] ?_
  refine xF [29, 30, 31, 32, 33] ?_
  refine sps [.bool true, .bool true] ?_
  refine xF [36, 37, 38, 39, 40, 41] ?_
  refine sp (.bool true) ?_
  refine qj (t_n ?_)
  refine qC true rfl (fun _ => ?_) (fun h => absurd h (by decide))
  refine qi (ql ?_)
  refine sp (.bool false) ?_
  refine qj (t_n (qV (t_r ?_)))
  refine ret1 (.bool false) rfl rfl ⟨_, rfl, ?_, H.base⟩
  rw [qY (fun h => by obtain ⟨h0, h1, h2, h3, h4, h5⟩ := h; first | contradiction | omega | (simp_all; done) | (obtain ⟨q1, q2⟩ := h5 c (by omega); first | contradiction | (have := q2 (by assumption); omega)))]
 replace h8 := qP h8
 replace h8 := xI h8
 refine xF [11, 12, 13, 14, 15, 16, 17] ?_
 refine sps [.bool true, .bool true] ?_
 refine xF [20, 21, 22, 23, 24, 25, 26] ?_
 refine sps [.bool true, .bool true] ?_
 refine xF [29, 30, 31, 32, 33] ?_
 refine sps [.bool true, .bool true] ?_
 refine xF [36, 37, 38, 39, 40, 41] ?_
 refine sp (.bool true) ?_
 refine qj (t_n ?_)
 refine qC true rfl (fun _ => ?_) (fun h => absurd h (by decide))
 refine qi (ql ?_)
 refine sp (.bool false) ?_
 refine qj (t_n (qV (t_r ?_)))
 refine ret1 (.bool false) rfl rfl ⟨_, rfl, ?_, H.base⟩
 rw [qY (fun h => by obtain ⟨h0, h1, h2, h3, h4, h5⟩ := h; first | contradiction | omega | (simp_all; done) | (obtain ⟨q1, q2⟩ := h5 c (by omega); first | contradiction | (have := q2 (by assumption); omega)))]

theorem parentNow_ok (w : World) (s : qK) (t : xu) (c : Int) (qx : Option Addr) (qp : Nat) (xn : List Nat) (qN : Option Addr) (qL : Nat) (xG : List Nat) (xB : Option Addr) (xx : Nat) (zy : List Nat) (xK : Option Addr) (xH : Nat) (zX : List Nat) (xg : Option Addr) (xf : Nat) (xW : List Nat) (xh : qE.rep w xn [.slice qx s.qf.length qp] s.qf) (xE : qE.rep w xG [.slice qN s.qh.length qL] s.qh) (zu : qE.rep w zy [.slice xB t.qo.length xx] t.qo) (zV : qE.rep w zX [.slice xK t.qy.length xH] t.qy) (xU : qE.rep w xW [.slice xg t.qm.length xf] t.qm) (p0 : yt s) (p1 : CellIn s c) (p2 : t.qo.length = s.qf.length) : Calls Tryz.prog 188 #[.agg #[.int .i64 s.qH, .slice qx s.qf.length qp, .slice qN s.qh.length qL], .agg #[.slice xB t.qo.length xx, .slice xK t.qy.length xH, .slice xg t.qm.length xf], .int .i64 c] w (Ret (fun v w' => v = .int .i64 (vI s t c)) w) := by
 refine en Tryz.func188 Tryz.ntmps188 ?_
 have H := (((((St.start w).arg xU).arg zV).arg zu).arg xE).arg xh
 have zU := qA xh
 have jD := qA xE
 have Xr := qA zu
 have nhtBags := qA zV
 have QA := qA xU
 clear xh xE zu zV xU
 have N := Fresh.nil w.heap.size
 have p3 := p0.step p1.1 p1.2
 refine qi (ql ?_)
 refine sw (zh H [.int .i64 s.qH, .slice qx s.qf.length qp, .slice qN s.qh.length qL] fun b1 w2 H => ?_)
 refine sw (zh H [.slice xB t.qo.length xx, .slice xK t.qy.length xH, .slice xg t.qm.length xf] fun b3 w4 H => ?_)
 refine sp (.int .i64 0) ?_
 refine qj (t_n (qi (ql ?_)))
 refine oF rfl ?_
 refine oL rfl (H.cell 1 rfl rfl) ?_
 refine sp (.int .i64 c) ?_
 obtain ⟨b5, o6, rfl⟩ := H.addr 0 rfl (by omega)
 refine oI rfl rfl ?_
 refine oL rfl (H.vT 0 rfl c (by omega) (by omega)) ?_
 refine sp (.int .i64 (s.qf[c.toNat]!)) ?_
 refine qj (t_n (qi (qW ?_)))
 refine zf (fun m' ρ w8 => ∃ (junk : Env) (p : Int) (n : Nat), ρ = upd (upd (upd junk 3 (pp b1 0)) 4 (pp b3 0)) 7 (.int .i64 p) ∧ (-1 ≤ p ∧ p ≤ (s.qf.length : Int) - 1) ∧ (p < n) ∧ (vI s t c = climb s.qf t.qo n p) ∧ m' = (p + 1).toNat ∧ Fresh w.heap.size [] ∧ St w w8 [.box b3 [.slice xB t.qo.length xx, .slice xK t.qy.length xH, .slice xg t.qm.length xf] 38, .box b1 [.int .i64 s.qH, .slice (aa b5 o6) s.qf.length qp, .slice qN s.qh.length qL] 36] [isF false xn (.slice (aa b5 o6) s.qf.length qp) s.qf, isF false xG (.slice qN s.qh.length qL) s.qh, isF false zy (.slice xB t.qo.length xx) t.qo, isF false zX (.slice xK t.qy.length xH) t.qy, isF false xW (.slice xg t.qm.length xf) t.qm]) (((s.qf[c.toNat]!) + 1).toNat) ⟨_, s.qf[c.toNat]!, s.qf.length, (by exact qg (qg (qg (rfl) rfl) rfl) rfl), (by omega), (by omega), (by rfl), rfl, N, H⟩ ?_
 clear H N
 rintro m' ρ w9 ⟨junk, p, n, rfl, i0, i1, i2, rfl, N, H⟩
 have up := fun h => p0.step (c := p) h i0.2
 refine qi (qi (ql ?_))
 refine sps [.int .i64 p, .bool (decide ((p : Int) ≥ 0)), .bool (decide ((p : Int) ≥ 0))] ?_
 cases h10 : (decide ((p : Int) ≥ 0))
 ·skip
  replace h10 := of_decide_eq_false h10
  refine xF [16, 17, 18, 19, 20, 21] ?_
  refine sp (.bool false) ?_
  refine qj (t_n ?_)
  refine qC false rfl (fun h => absurd h (by decide)) (fun _ => ?_)
  refine xQ (t_x (t_x (b_x (t_n (qi (ql ?_))))))
  refine sps [.int .i64 p, .int .i64 p] ?_
  refine qj (t_n (qV ?_))
  refine ret1 (.int .i64 p) rfl rfl ⟨_, rfl, ?_, H.base⟩
  rw [i2, climb_end (by first | omega | simp_all)]
 replace h10 := of_decide_eq_true h10
 refine qB 15 rfl rfl ?_
 refine oF rfl ?_
 refine qB 15 rfl rfl ?_
 refine oL rfl (H.cell 0 rfl rfl) ?_
 refine qB 15 rfl rfl ?_
 refine sp (.int .i64 p) ?_
 refine qB 15 rfl rfl ?_
 obtain ⟨b11, o12, rfl⟩ := H.addr 2 rfl (by omega)
 refine oI rfl rfl ?_
 refine qB 15 rfl rfl ?_
 refine oL rfl (H.QG 2 rfl p (by omega) (by omega)) ?_
 refine qB 15 rfl rfl ?_
 refine sps [.bool (!(t.qo[p.toNat]!)), .bool (!(t.qo[p.toNat]!))] ?_
 refine qj (t_n ?_)
 refine qC (!(t.qo[p.toNat]!)) rfl (fun h14 => ?_) (fun h14 => ?_)
 ·skip
  replace h14 := qP h14
  refine qM (t_n (qW (ql ?_)))
  refine oF rfl ?_
  refine oL rfl (H.cell 1 rfl rfl) ?_
  refine sp (.int .i64 p) ?_
  refine oI rfl rfl ?_
  refine oL rfl (H.vT 0 rfl p (by omega) (by omega)) ?_
  refine sp (.int .i64 (s.qf[p.toNat]!)) ?_
  refine qj (b_n ?_)
  have up1 := up (by omega)
  refine xk (m' := ((s.qf[p.toNat]!) + 1).toNat) (by omega) ⟨_, s.qf[p.toNat]!, n - 1, (by exact qg (qg (qg (rfl) rfl) rfl) rfl), ?_, ?_, ?_, rfl, N, H⟩
  · omega
  · omega
  · exact i2.trans (climb_go (by omega) (by omega) ‹_›)
 replace h14 := qJ h14
 refine xQ (t_x (t_x (b_x (t_n (qi (ql ?_))))))
 refine sps [.int .i64 p, .int .i64 p] ?_
 refine qj (t_n (qV ?_))
 refine ret1 (.int .i64 p) rfl rfl ⟨_, rfl, ?_, H.base⟩
 rw [i2, climb_end (by first | omega | simp_all)]

end Go.Proofs.YtgjnaocffdhnbaaGreat
