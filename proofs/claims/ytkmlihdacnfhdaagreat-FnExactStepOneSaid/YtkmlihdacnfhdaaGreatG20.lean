/- Walks, printed by program (wip/tools/gv.py): what each function comes to, for all arguments. -/
import Derived.Test.YtkmlihdacnfhdaaGreatG15
import Derived.Test.YtkmlihdacnfhdaaGreatP9
namespace Go.Proofs.YtkmlihdacnfhdaaGreat
open Go.Proofs.YtkmlihdacnfhdaaGreat.Tot (tot)
open Go.Proofs.YtkmlihdacnfhdaaGreat.Mark (cnt mrk mkd mkd_mark cnt_mark)
open Go.RowKit
set_option linter.unusedVariables false
set_option linter.unusedSimpArgs false
set_option maxRecDepth 100000
set_option maxHeartbeats 4000000



theorem l03Single_ok (w : World) (s : qW) (i : Int) (bs os : Nat) (qw : Option Addr) (qo : Nat) (qO : List Nat) (qG : Option Addr) (qE : Nat) (xA : List Nat) (hs : vT w bs os [.int .i64 s.qH, .slice qw s.qf.length qo, .slice qG s.qg.length qE]) (xn : qR.rep w qO [.slice qw s.qf.length qo] s.qf) (xJ : qR.rep w xA [.slice qG s.qg.length qE] s.qg) (p0 : 0 ≤ i ∧ i ≤ (s.qg.length : Int) - 1) (p1 : s.qg.length ≤ 16) : Calls Tryz.prog 62 #[pp bs os, .int .i64 i] w (Ret (fun v w' => ∃ (ra : Option Addr) (rn : Nat) (rc : Nat), v = .slice ra rn rc ∧ Fresh w.heap.size [] ∧ St w w' [.row (.slice ra rn rc) 2 1 rn ((single s i.toNat).map (Value.int .i64))] []) w) := by
 refine enter (n := 16) Tryz.func62 rfl Tryz.ntmps62 (Nat.le_of_ble_eq_true rfl) ?_
 have H := (((St.start w).arg xJ).arg xn).argAt hs
 have vK := qL xn
 have jP := qL xJ
 clear hs xn xJ
 have N := Fresh.nil w.heap.size
 refine qm (qB ?_)
 refine sp (.slice none 0 0) ?_
 refine qy (t_n (qm (qB ?_)))
 refine sps [pp bs os, pp bs os] ?_
 refine sw (qK bs (os) 2 Tryz.underlying36 rfl rfl Tryz.sizeOf34 rfl ?_)
 refine sw (qF (.slice qG s.qg.length qE) Tryz.isAgg34 rfl (H.xZ 0 rfl 2 rfl) ?_)
 refine sw (zX Tryz.underlying34 qG s.qg.length qE rfl ?_)
 refine sw (o_makeI H Tryz.underlying22 ti2 s.qg.length rfl rfl (by omega) (by omega) (by omega) fun b1 w2 H => ?_)
 refine sp (.slice (aa b1 0) s.qg.length s.qg.length) ?_
 refine qy (t_n (qm (qB ?_)))
 refine sps [.slice (aa b1 0) s.qg.length s.qg.length, .int .i64 i] ?_
 refine sw (xK i Tryz.underlying22 ti2 rfl rfl (by omega) (by omega) ?_)
 refine sw (o_storeInt H 0 rfl 1 Tryz.sizeOf2 rfl rfl (i := i.toNat) (by omega) (by omega) fun w3 H => ?_)
 try dsimp only [List.set] at H
 refine qy (t_n (qm (qB ?_)))
 refine sps [.slice (aa b1 0) s.qg.length s.qg.length, .slice (aa b1 0) s.qg.length s.qg.length] ?_
 refine qy (t_n (xB ?_))
 refine ret1 (.slice (aa b1 0) s.qg.length s.qg.length) rfl rfl ⟨_, rfl, ?_, H.base⟩
 exact ⟨(aa b1 0), s.qg.length, s.qg.length, rfl, N, H.pick [0] []⟩

theorem single_ok (w : World) (s : qW) (i : Int) (qw : Option Addr) (qo : Nat) (qO : List Nat) (qG : Option Addr) (qE : Nat) (xA : List Nat) (xn : qR.rep w qO [.slice qw s.qf.length qo] s.qf) (xJ : qR.rep w xA [.slice qG s.qg.length qE] s.qg) (p0 : 0 ≤ i ∧ i ≤ (s.qg.length : Int) - 1) (p1 : s.qg.length ≤ 16) : Calls Tryz.prog 67 #[.agg #[.int .i64 s.qH, .slice qw s.qf.length qo, .slice qG s.qg.length qE], .int .i64 i] w (Ret (fun v w' => ∃ (ra : Option Addr) (rn : Nat) (rc : Nat), v = .slice ra rn rc ∧ Fresh w.heap.size [] ∧ St w w' [.row (.slice ra rn rc) 2 1 rn ((single s i.toNat).map (Value.int .i64))] []) w) := by
 refine enter (n := 14) Tryz.func67 rfl Tryz.ntmps67 (Nat.le_of_ble_eq_true rfl) ?_
 have H := ((St.start w).arg xJ).arg xn
 have vK := qL xn
 have jP := qL xJ
 clear xn xJ
 have N := Fresh.nil w.heap.size
 refine qm (qB ?_)
 refine sw (yD H [.int .i64 s.qH, .slice qw s.qf.length qo, .slice qG s.qg.length qE] fun b1 w2 H => ?_)
 refine sp (.slice none 0 0) ?_
 refine qy (t_n (qm (qB ?_)))
 refine sw (qK b1 (0) 2 Tryz.underlying36 rfl rfl Tryz.sizeOf34 rfl ?_)
 refine sw (qF (.slice qG s.qg.length qE) Tryz.isAgg34 rfl (H.cell 0 rfl rfl) ?_)
 refine sw (zX Tryz.underlying34 qG s.qg.length qE rfl ?_)
 refine sw (o_makeI H Tryz.underlying22 ti2 s.qg.length rfl rfl (by omega) (by omega) (by omega) fun b3 w4 H => ?_)
 refine sp (.slice (aa b3 0) s.qg.length s.qg.length) ?_
 refine qy (t_n (qm (qB ?_)))
 refine sps [.slice (aa b3 0) s.qg.length s.qg.length, .int .i64 i] ?_
 refine sw (xK i Tryz.underlying22 ti2 rfl rfl (by omega) (by omega) ?_)
 refine sw (o_storeInt H 0 rfl 1 Tryz.sizeOf2 rfl rfl (i := i.toNat) (by omega) (by omega) fun w5 H => ?_)
 try dsimp only [List.set] at H
 refine qy (t_n (qm (qB ?_)))
 refine sps [.slice (aa b3 0) s.qg.length s.qg.length, .slice (aa b3 0) s.qg.length s.qg.length] ?_
 refine qy (t_n (xB ?_))
 refine ret1 (.slice (aa b3 0) s.qg.length s.qg.length) rfl rfl ⟨_, rfl, ?_, H.base⟩
 exact ⟨(aa b3 0), s.qg.length, s.qg.length, rfl, N, H.pick [0] []⟩

theorem specOne_ok (w : World) (s : qW) (t : qU) (i : Int) (qw : Option Addr) (qo : Nat) (qO : List Nat) (qG : Option Addr) (qE : Nat) (xA : List Nat) (qP : Option Addr) (qJ : Nat) (xO : List Nat) (xH : Option Addr) (xC : Nat) (zL : List Nat) (qN : Option Addr) (qM : Nat) (xI : List Nat) (xn : qR.rep w qO [.slice qw s.qf.length qo] s.qf) (xJ : qR.rep w xA [.slice qG s.qg.length qE] s.qg) (zA : qR.rep w xO [.slice qP t.qh.length qJ] t.qh) (vH : qR.rep w zL [.slice xH t.qp.length xC] t.qp) (zh : qR.rep w xI [.slice qN t.ql.length qM] t.ql) : Calls Tryz.prog 21 #[.agg #[.int .i64 s.qH, .slice qw s.qf.length qo, .slice qG s.qg.length qE], .agg #[.slice qP t.qh.length qJ, .slice xH t.qp.length xC, .slice qN t.ql.length qM], .int .i64 i] w (Ret (fun v w' => ∃ (ra0Alive : Option Addr) (QY : Nat) (rc0Alive : Nat) (ra0Bags : Option Addr) (XM : Nat) (rc0Bags : Nat) (rx0Bags : List Value) (rF0Bags : List Nat) (Xh : Option Addr) (Qr : Nat) (Xg : Nat), v = .tuple #[.agg #[.slice ra0Alive QY rc0Alive, .slice ra0Bags XM rc0Bags, .slice Xh Qr Xg], .int .i64 ((qx s t i).2)] ∧ Fresh w.heap.size [rF0Bags] ∧ St w w' [.row (.slice ra0Alive QY rc0Alive) 4 1 QY ((((qx s t i).1).qh).map (Value.bool)), .row (.slice ra0Bags XM rc0Bags) 22 1 XM rx0Bags, .row (.slice Xh Qr Xg) 2 1 Qr ((((qx s t i).1).ql).map (Value.int .i64))] [jf true rF0Bags rx0Bags (((qx s t i).1).qp)]) w) := by
 refine enter (n := 24) Tryz.func21 rfl Tryz.ntmps21 (Nat.le_of_ble_eq_true rfl) ?_
 have H := (((((St.start w).arg zh).arg vH).arg zA).arg xJ).arg xn
 have vK := qL xn
 have jP := qL xJ
 have QZ := qL zA
 have XN := qL vH
 have Qu := qL zh
 clear xn xJ zA vH zh
 have N := Fresh.nil w.heap.size
 refine qm (qB ?_)
 refine sw (yD H [.int .i64 s.qH, .slice qw s.qf.length qo, .slice qG s.qg.length qE] fun b1 w2 H => ?_)
 refine sw (yD H [.slice qP t.qh.length qJ, .slice xH t.qp.length xC, .slice qN t.ql.length qM] fun b3 w4 H => ?_)
 refine sw (zn H ti38 [.slice none 0 0, .slice none 0 0, .slice none 0 0] fun b5 w6 H => ?_)
 refine sp (.int .i64 0) ?_
 refine qy (t_n (qm (qm (qB ?_))))
 refine sw (xf #[pp b1 0, pp b3 0] rfl rfl Tryz.call60 (l03Both_ok w6 s t b1 0 qw qo qO qG qE xA b3 0 qP qJ xO xH xC zL qN qM xI (qI (H.cells 2 rfl) 0 3) (H.get 0 rfl).1 (H.get 1 rfl).1 (qI (H.cells 1 rfl) 0 3) (H.get 2 rfl).1 (H.get 3 rfl).1 (H.get 4 rfl).1) ?_)
 rintro _ w8 rfl x9
 replace H := H.ext x9
 refine sp (.bool (!(dec (yC s ∧ zH s t)))) ?_
 refine qy (t_n ?_)
 refine qZ (!(dec (yC s ∧ zH s t))) rfl (fun h10 => ?_) (fun h10 => ?_)
 ·skip
  replace h10 := xg h10
  replace h10 := zg h10
  refine qm (qB ?_)
  refine sw (jr [.slice none 0 0, .slice none 0 0, .slice none 0 0] [] ?_)
  refine sw (xU H 0 [.slice none 0 0, .slice none 0 0, .slice none 0 0] Tryz.sizeOf38 fun w11 H => ?_)
  try dsimp only [List.set] at H
  refine sp (.int .i64 1) ?_
  refine qy (t_n (xB (t_r ?_)))
  replace H := H.nilRowB 4
  replace H := H.nilRow 22 1
  replace H := H.Xa (α := List Int)
  replace H := H.nilRowI 2
  refine retC2 H 3 rfl (.int .i64 1) rfl Tryz.isAgg38 Tryz.sizeOf38 rfl rfl ⟨_, rfl, ?_, H.base⟩
  rw [one_1 ‹_›]
  exact ⟨none, 0, 0, none, 0, 0, [], [], none, 0, 0, rfl, N.emp, H.pick [2, 1, 0] [0]⟩
 replace h10 := qX h10
 replace h10 := jI h10
 refine xx (t_n (qm (qm (qB ?_))))
 refine sp (.int .i64 i) ?_
 refine sw (qK b1 (0) 2 Tryz.underlying36 rfl rfl Tryz.sizeOf34 rfl ?_)
 refine sw (qF (.slice qG s.qg.length qE) Tryz.isAgg34 rfl (H.cell 2 rfl rfl) ?_)
 refine sw (zX Tryz.underlying34 qG s.qg.length qE rfl ?_)
 refine sw (o_sub s.qg.length 1 rfl rfl (by omega) ?_)
 refine sw (xf #[.int .i64 i, .int .i64 0, .int .i64 (s.qg.length - 1)] rfl rfl Tryz.call44 (l00In_ok w8 i 0 (s.qg.length - 1)) ?_)
 rintro _ w12 rfl x13
 replace H := H.ext x13
 refine sp (.bool (!(inR i 0 (s.qg.length - 1)))) ?_
 refine qy (t_n ?_)
 refine qZ (!(inR i 0 (s.qg.length - 1))) rfl (fun h14 => ?_) (fun h14 => ?_)
 ·skip
  replace h14 := xg h14
  replace h14 := Xb h14
  refine qm (qB ?_)
  refine sw (jr [.slice none 0 0, .slice none 0 0, .slice none 0 0] [] ?_)
  refine sw (xU H 0 [.slice none 0 0, .slice none 0 0, .slice none 0 0] Tryz.sizeOf38 fun w15 H => ?_)
  try dsimp only [List.set] at H
  refine sp (.int .i64 2) ?_
  refine qy (t_n (xB (t_r ?_)))
  replace H := H.nilRowB 4
  replace H := H.nilRow 22 1
  replace H := H.Xa (α := List Int)
  replace H := H.nilRowI 2
  refine retC2 H 3 rfl (.int .i64 2) rfl Tryz.isAgg38 Tryz.sizeOf38 rfl rfl ⟨_, rfl, ?_, H.base⟩
  rw [one_2 ‹yC s ∧ zH s t› ‹_›]
  exact ⟨none, 0, 0, none, 0, 0, [], [], none, 0, 0, rfl, N.emp, H.pick [2, 1, 0] [0]⟩
 replace h14 := qX h14
 replace h14 := QI.1 h14
 refine xx (t_n (qm (qB ?_)))
 refine sp (.int .i64 i) ?_
 have k0 := (‹yC s ∧ zH s t› : yC s ∧ zH s t)
 have k1 := k0.1
 have k2 := k0.2
 have k4 := k1.2.1
 have sz19 := H.base.size
 refine sw (xf #[pp b1 0, .int .i64 i] rfl rfl Tryz.call62 (l03Single_ok w12 s i b1 0 qw qo qO qG qE xA (qI (H.cells 2 rfl) 0 3) (H.get 0 rfl).1 (H.get 1 rfl).1 (by first | assumption | omega) (by first | assumption | omega)) ?_)
 rintro _ w17 ⟨ra16, rn16, rc16, rfl, M, K⟩ _
 replace H := H.merge K M
 dsimp only [List.cons_append, List.nil_append] at H
 obtain rfl := H.QX 0 rfl
 obtain ⟨G22, hn23, h24⟩ := H.rowIsI 0 rfl
 have k3 := single_cnt (s := s) (i := i.toNat) (by omega)
 have sz28 := H.base.size
 refine sw (xf #[pp b1 0, pp b3 0, .slice ra16 ((single s i.toNat).length) rc16] rfl rfl Tryz.call61 (l03Step_ok w17 s t (single s i.toNat) b1 0 qw qo qO qG qE xA b3 0 qP qJ xO xH xC zL qN qM xI ra16 rc16 G22 (qI (H.cells 3 rfl) 0 3) (H.get 0 rfl).1 (H.get 1 rfl).1 (qI (H.cells 2 rfl) 0 3) (H.get 2 rfl).1 (H.get 3 rfl).1 (H.get 4 rfl).1 h24 (by first | assumption | omega) (by first | assumption | omega) (by first | assumption | omega)) ?_)
 rintro _ w26 ⟨ra25aAlive, rn25aAlive, rc25aAlive, ra25aBags, rn25aBags, rc25aBags, rx25aBags, rF25aBags, ra25aAround, rn25aAround, rc25aAround, rfl, M, K⟩ _
 replace N := N.merge sz28 (by simp) M
 replace H := H.merge K M
 dsimp only [List.cons_append, List.nil_append] at H
 obtain rfl := H.QN 0 rfl
 obtain rfl := H.zy (α := List Int) 1 rfl 0 rfl (by decide)
 obtain rfl := H.QX 2 rfl
 refine sps [.agg #[.slice ra25aAlive ((((yw s t (single s i.toNat)).1).qh).length) rc25aAlive, .slice ra25aBags ((((yw s t (single s i.toNat)).1).qp).length) rc25aBags, .slice ra25aAround ((((yw s t (single s i.toNat)).1).ql).length) rc25aAround], .int .i64 ((yw s t (single s i.toNat)).2)] ?_
 refine sw (xU H 4 [.slice ra25aAlive ((((yw s t (single s i.toNat)).1).qh).length) rc25aAlive, .slice ra25aBags ((((yw s t (single s i.toNat)).1).qp).length) rc25aBags, .slice ra25aAround ((((yw s t (single s i.toNat)).1).ql).length) rc25aAround] Tryz.sizeOf38 fun w33 H => ?_)
 try dsimp only [List.set] at H
 refine sp (.int .i64 ((yw s t (single s i.toNat)).2)) ?_
 refine qy (t_n (xB ?_))
 refine retC2 H 4 rfl (.int .i64 ((yw s t (single s i.toNat)).2)) rfl Tryz.isAgg38 Tryz.sizeOf38 rfl rfl ⟨_, rfl, ?_, H.base⟩
 rw [one_0 ‹yC s ∧ zH s t› ‹_›]
 exact ⟨ra25aAlive, (((yw s t (single s i.toNat)).1).qh).length, rc25aAlive, ra25aBags, (((yw s t (single s i.toNat)).1).qp).length, rc25aBags, rx25aBags, rF25aBags, ra25aAround, (((yw s t (single s i.toNat)).1).ql).length, rc25aAround, rfl, N, H.pick [0, 1, 2] [0]⟩

theorem indexI_ok (w : World) (l : List Int) (x : Int) (al : Option Addr) (cl : Nat) (Fl : List Nat) (hl : qR.rep w Fl [.slice al l.length cl] l) : Calls Tryz.prog 111 #[.slice al l.length cl, .int .i64 x] w (Ret (fun v w' => v = .int .i64 (firstIdx (fun k => x == l[k]!) l.length)) w) := by
 refine enter (n := 19) Tryz.func111 rfl Tryz.ntmps111 (Nat.le_of_ble_eq_true rfl) ?_
 have H := (St.start w).arg hl
 have nhl := qL hl
 clear hl
 have N := Fresh.nil w.heap.size
 refine qm (qB ?_)
 refine sp (.int .i64 0) ?_
 refine qy (t_n (qm (qm (qB ?_))))
 refine sp (.slice al l.length cl) ?_
 refine sw (zX Tryz.underlying22 al l.length cl rfl ?_)
 refine sp (.int .i64 0) ?_
 refine qy (t_n (xE ?_))
 refine zW (fun m' ρ w1 => ∃ (junk : Env) (i : Nat), ρ = upd (upd (upd (upd junk 0 (.slice al l.length cl)) 1 (.int .i64 x)) 7 (.int .i64 l.length)) 8 (.int .i64 i) ∧ ((i : Int) ≤ l.length) ∧ (noneTo (fun k => x == l[k]!) i) ∧ m' = (l.length - (i : Int)).toNat ∧ Fresh w.heap.size [] ∧ St w w1 [] [isF false Fl (.slice al l.length cl) l]) ((l.length - (0 : Int)).toNat) ⟨_, 0, (by exact qj (qj (qj (qj (rfl) rfl) rfl) rfl) rfl), (by omega), (by exact fun j hj => by omega), rfl, N, H⟩ ?_
 clear H N
 rintro m' ρ w2 ⟨junk, i, rfl, i0, i1, rfl, N, H⟩
 refine qm (qB ?_)
 refine sp (.bool (decide ((i : Int) < l.length))) ?_
 refine qy (t_n (qm ?_))
 refine qZ (decide ((i : Int) < l.length)) rfl (fun h3 => ?_) (fun h3 => ?_)
 ·skip
  replace h3 := of_decide_eq_true h3
  refine xx (t_n (qm (xE (qm (qB ?_)))))
  refine sps [.int .i64 i, .int .i64 i] ?_
  refine qy (t_n (qm (qB ?_)))
  refine sps [.int .i64 x, .slice al l.length cl, .int .i64 i] ?_
  obtain ⟨b4, o5, rfl⟩ := H.addr 0 rfl (by omega)
  refine sw (xK i Tryz.underlying22 ti2 rfl rfl (by omega) (by omega) ?_)
  refine sw (qF (.int .i64 (l[i]!)) Tryz.isAgg2 rfl (H.je 0 rfl i (by omega) (by omega)) ?_)
  refine sp (.bool ((x : Int) == (l[i]!))) ?_
  refine qy (t_n ?_)
  refine qZ ((x : Int) == (l[i]!)) rfl (fun h7 => ?_) (fun h7 => ?_)
  ·skip
   replace h7 := eq_of_beq h7
   refine qm (qB ?_)
   refine sps [.int .i64 i, .int .i64 i] ?_
   refine qy (t_n (xB (b_r (t_r (t_r (b_r (t_r ?_)))))))
   refine ret1 (.int .i64 i) rfl rfl ⟨_, rfl, ?_, H.base⟩
   rw [firstIdx_some (k := i) (by omega) i1 (by simpa using ‹x = l[i]!›)]
  replace h7 := ne_of_beq_false h7
  refine xx (b_n (t_n (qB ?_)))
  refine sw (vw i 1 rfl rfl (by omega) ?_)
  refine sp (.int .i64 (i + 1)) ?_
  refine qy ?_
  refine xG (m' := (l.length - ((i + 1) : Int)).toNat) (by omega) ⟨_, i + 1, (by exact qj (qj (qj (qj (rfl) rfl) rfl) rfl) rfl), ?_, ?_, rfl, N, H⟩
  · omega
  · exact noneTo_succ ‹_› (by simpa using ‹x ≠ l[i]!›)
 replace h3 := of_decide_eq_false h3
 refine zT (t_x (t_x (b_x (t_n (qm (qB ?_))))))
 refine sp (.int .i64 (-1)) ?_
 refine qy (t_n (xB ?_))
 refine ret1 (.int .i64 (-1)) rfl rfl ⟨_, rfl, ?_, H.base⟩
 rw [firstIdx_none (fun j hj => i1 j (by omega))]

theorem containsI_ok (w : World) (l : List Int) (x : Int) (al : Option Addr) (cl : Nat) (Fl : List Nat) (hl : qR.rep w Fl [.slice al l.length cl] l) : Calls Tryz.prog 64 #[.slice al l.length cl, .int .i64 x] w (Ret (fun v w' => v = .bool (dec ((x : Int) ∈ l))) w) := by
 refine enter (n := 9) Tryz.func64 rfl Tryz.ntmps64 (Nat.le_of_ble_eq_true rfl) ?_
 have H := (St.start w).arg hl
 have nhl := qL hl
 clear hl
 have N := Fresh.nil w.heap.size
 refine qm (qB ?_)
 refine sp (.bool false) ?_
 refine qy (t_n (qm (qB ?_)))
 refine sps [.slice al l.length cl, .int .i64 x] ?_
 refine sw (xf #[.slice al l.length cl, .int .i64 x] rfl rfl Tryz.call111 (indexI_ok w l x al cl Fl (H.get 0 rfl).1) ?_)
 rintro _ w2 rfl x3
 replace H := H.ext x3
 refine sps [.bool (decide ((firstIdx (fun k => x == l[k]!) l.length : Int) ≥ 0)), .bool (decide ((firstIdx (fun k => x == l[k]!) l.length : Int) ≥ 0))] ?_
 refine qy (t_n (xB ?_))
 refine ret1 (.bool (decide ((firstIdx (fun k => x == l[k]!) l.length : Int) ≥ 0))) rfl rfl ⟨_, rfl, ?_, H.base⟩
 rw [anyTo_first, anyTo_mem]

theorem sizeR_ok (w : World) (l : List Qk) (al : Option Addr) (cl : Nat) (Fl : List Nat) (hl : qR.rep w Fl [.slice al l.length cl] l) : Calls Tryz.prog 110 #[.slice al l.length cl] w (Ret (fun v w' => v = .int .i64 l.length) w) := by
 refine enter (n := 5) Tryz.func110 rfl Tryz.ntmps110 (Nat.le_of_ble_eq_true rfl) ?_
 have H := (St.start w).arg hl
 have nhl := qL hl
 clear hl
 have N := Fresh.nil w.heap.size
 refine qm (qB ?_)
 refine sp (.int .i64 0) ?_
 refine qy (t_n (qm (qB ?_)))
 refine sp (.slice al l.length cl) ?_
 refine sw (zX Tryz.underlying34 al l.length cl rfl ?_)
 refine sp (.int .i64 l.length) ?_
 refine qy (t_n (xB ?_))
 refine ret1 (.int .i64 l.length) rfl rfl ⟨_, rfl, ?_, H.base⟩
 rfl

theorem implOne_ok (w : World) (s : qW) (t : qU) (i : Int) (qw : Option Addr) (qo : Nat) (qO : List Nat) (qG : Option Addr) (qE : Nat) (xA : List Nat) (qP : Option Addr) (qJ : Nat) (xO : List Nat) (xH : Option Addr) (xC : Nat) (zL : List Nat) (qN : Option Addr) (qM : Nat) (xI : List Nat) (xn : qR.rep w qO [.slice qw s.qf.length qo] s.qf) (xJ : qR.rep w xA [.slice qG s.qg.length qE] s.qg) (zA : qR.rep w xO [.slice qP t.qh.length qJ] t.qh) (vH : qR.rep w zL [.slice xH t.qp.length xC] t.qp) (zh : qR.rep w xI [.slice qN t.ql.length qM] t.ql) : Calls Tryz.prog 22 #[.agg #[.int .i64 s.qH, .slice qw s.qf.length qo, .slice qG s.qg.length qE], .agg #[.slice qP t.qh.length qJ, .slice xH t.qp.length xC, .slice qN t.ql.length qM], .int .i64 i] w (Ret (fun v w' => ∃ (ra0Alive : Option Addr) (QY : Nat) (rc0Alive : Nat) (ra0Bags : Option Addr) (XM : Nat) (rc0Bags : Nat) (rx0Bags : List Value) (rF0Bags : List Nat) (Xh : Option Addr) (Qr : Nat) (Xg : Nat), v = .tuple #[.agg #[.slice ra0Alive QY rc0Alive, .slice ra0Bags XM rc0Bags, .slice Xh Qr Xg], .int .i64 ((qx s t i).2)] ∧ Fresh w.heap.size [rF0Bags] ∧ St w w' [.row (.slice ra0Alive QY rc0Alive) 4 1 QY ((((qx s t i).1).qh).map (Value.bool)), .row (.slice ra0Bags XM rc0Bags) 22 1 XM rx0Bags, .row (.slice Xh Qr Xg) 2 1 Qr ((((qx s t i).1).ql).map (Value.int .i64))] [jf true rF0Bags rx0Bags (((qx s t i).1).qp)]) w) := by
 refine enter (n := 35) Tryz.func22 rfl Tryz.ntmps22 (Nat.le_of_ble_eq_true rfl) ?_
 have H := (((((St.start w).arg zh).arg vH).arg zA).arg xJ).arg xn
 have vK := qL xn
 have jP := qL xJ
 have QZ := qL zA
 have XN := qL vH
 have Qu := qL zh
 clear xn xJ zA vH zh
 have N := Fresh.nil w.heap.size
 refine qm (qB ?_)
 refine sw (yD H [.int .i64 s.qH, .slice qw s.qf.length qo, .slice qG s.qg.length qE] fun b1 w2 H => ?_)
 refine sw (yD H [.slice qP t.qh.length qJ, .slice xH t.qp.length xC, .slice qN t.ql.length qM] fun b3 w4 H => ?_)
 refine sw (zn H ti38 [.slice none 0 0, .slice none 0 0, .slice none 0 0] fun b5 w6 H => ?_)
 refine sp (.int .i64 0) ?_
 refine qy (t_n (qm (qB ?_)))
 refine sw (zi [.int .i64 s.qH, .slice qw s.qf.length qo, .slice qG s.qg.length qE] Tryz.isAgg36 Tryz.sizeOf36 rfl (qI (H.cells 2 rfl) 0 3) ?_)
 refine sw (zi [.slice qP t.qh.length qJ, .slice xH t.qp.length xC, .slice qN t.ql.length qM] Tryz.isAgg38 Tryz.sizeOf38 rfl (qI (H.cells 1 rfl) 0 3) ?_)
 refine sp (.int .i64 i) ?_
 refine sw (QD #[.agg #[.int .i64 s.qH, .slice qw s.qf.length qo, .slice qG s.qg.length qE], .agg #[.slice qP t.qh.length qJ, .slice xH t.qp.length xC, .slice qN t.ql.length qM], .int .i64 i] rfl rfl Tryz.call63 ?_)
 refine enter (n := 20) Tryz.func63 rfl Tryz.ntmps63 (Nat.le_of_ble_eq_true rfl) ?_
 refine qm (qB ?_)
 refine sw (yD H [.int .i64 s.qH, .slice qw s.qf.length qo, .slice qG s.qg.length qE] fun b7 w8 H => ?_)
 refine sw (yD H [.slice qP t.qh.length qJ, .slice xH t.qp.length xC, .slice qN t.ql.length qM] fun b9 w10 H => ?_)
 refine sp (.int .i64 0) ?_
 refine qy (t_n (qm (xE (qm (qB ?_)))))
 refine sw (zi [.int .i64 s.qH, .slice qw s.qf.length qo, .slice qG s.qg.length qE] Tryz.isAgg36 Tryz.sizeOf36 rfl (qI (H.cells 1 rfl) 0 3) ?_)
 refine sw (zi [.slice qP t.qh.length qJ, .slice xH t.qp.length xC, .slice qN t.ql.length qM] Tryz.isAgg38 Tryz.sizeOf38 rfl (qI (H.cells 0 rfl) 0 3) ?_)
 refine sw (xf #[.agg #[.int .i64 s.qH, .slice qw s.qf.length qo, .slice qG s.qg.length qE], .agg #[.slice qP t.qh.length qJ, .slice xH t.qp.length xC, .slice qN t.ql.length qM]] rfl rfl Tryz.call76 (validState_ok w10 s t qw qo qO qG qE xA qP qJ xO xH xC zL qN qM xI (H.get 0 rfl).1 (H.get 1 rfl).1 (H.get 2 rfl).1 (H.get 3 rfl).1 (H.get 4 rfl).1) ?_)
 rintro _ w12 rfl x13
 replace H := H.ext x13
 refine sps [.bool (!(dec (yC s ∧ zH s t))), .bool (!(dec (yC s ∧ zH s t)))] ?_
 refine qy (t_n ?_)
 refine qZ (!(dec (yC s ∧ zH s t))) rfl (fun h14 => ?_) (fun h14 => ?_)
 ·skip
  replace h14 := xg h14
  replace h14 := zg h14
  refine qm (qB ?_)
  refine sp (.int .i64 1) ?_
  refine qy (t_n (xB (b_r (t_r ?_))))
  refine ret1 (.int .i64 1) rfl rfl ⟨_, rfl, ?_⟩
  replace H := H.erases [1, 0]
  dsimp only [yE, List.eraseIdx] at H
  refine sp (.int .i64 1) ?_
  refine qy (t_n (qm (qm (qB ?_))))
  refine sps [.int .i64 1, .bool false, .bool false] ?_
  refine xW [16, 17, 18, 19, 20, 21] ?_
  refine sp (.bool false) ?_
  refine qy (t_n ?_)
  refine qZ false rfl (fun h => absurd h (by decide)) (fun _ => ?_)
  refine xx (t_n (qm (qm (qB ?_))))
  refine sps [.int .i64 1, .bool true] ?_
  refine qy (t_n ?_)
  refine qZ true rfl (fun _ => ?_) (fun h => absurd h (by decide))
  refine qm (qB ?_)
  refine sw (jr [.slice none 0 0, .slice none 0 0, .slice none 0 0] [] ?_)
  refine sp (.int .i64 1) ?_
  refine sw (xU H 0 [.slice none 0 0, .slice none 0 0, .slice none 0 0] Tryz.sizeOf38 fun w15 H => ?_)
  try dsimp only [List.set] at H
  refine sp (.int .i64 1) ?_
  refine qy (t_n (xB (t_r ?_)))
  replace H := H.nilRowB 4
  replace H := H.nilRow 22 1
  replace H := H.Xa (α := List Int)
  replace H := H.nilRowI 2
  refine retC2 H 3 rfl (.int .i64 1) rfl Tryz.isAgg38 Tryz.sizeOf38 rfl rfl ⟨_, rfl, ?_, H.base⟩
  rw [one_1 ‹_›]
  exact ⟨none, 0, 0, none, 0, 0, [], [], none, 0, 0, rfl, N.emp, H.pick [2, 1, 0] [0]⟩
 replace h14 := qX h14
 replace h14 := jI h14
 refine qm (qB ?_)
 refine sp (.int .i64 i) ?_
 refine sw (qK b7 (0) 2 Tryz.underlying36 rfl rfl Tryz.sizeOf34 rfl ?_)
 refine sw (qF (.slice qG s.qg.length qE) Tryz.isAgg34 rfl (H.cell 1 rfl rfl) ?_)
 refine sw (xf #[.slice qG s.qg.length qE] rfl rfl Tryz.call110 (sizeR_ok w12 s.qg qG qE xA (H.get 1 rfl).1) ?_)
 rintro _ w17 rfl x18
 replace H := H.ext x18
 refine sw (o_sub s.qg.length 1 rfl rfl (by omega) ?_)
 refine sw (xf #[.int .i64 i, .int .i64 0, .int .i64 (s.qg.length - 1)] rfl rfl Tryz.call94 (XW w17 i 0 (s.qg.length - 1)) ?_)
 rintro _ w19 rfl x20
 replace H := H.ext x20
 refine sps [.bool (!(inR i 0 (s.qg.length - 1))), .bool (!(inR i 0 (s.qg.length - 1)))] ?_
 refine qy (t_n ?_)
 refine qZ (!(inR i 0 (s.qg.length - 1))) rfl (fun h21 => ?_) (fun h21 => ?_)
 ·skip
  replace h21 := xg h21
  replace h21 := Xb h21
  refine qm (qB ?_)
  refine sp (.int .i64 2) ?_
  refine qy (t_n (xB (b_r (t_r ?_))))
  refine ret1 (.int .i64 2) rfl rfl ⟨_, rfl, ?_⟩
  replace H := H.erases [1, 0]
  dsimp only [yE, List.eraseIdx] at H
  refine sp (.int .i64 2) ?_
  refine qy (t_n (qm (qm (qB ?_))))
  refine sps [.int .i64 2, .bool false, .bool false] ?_
  refine xW [16, 17, 18, 19, 20, 21] ?_
  refine sp (.bool false) ?_
  refine qy (t_n ?_)
  refine qZ false rfl (fun h => absurd h (by decide)) (fun _ => ?_)
  refine xx (t_n (qm (qm (qB ?_))))
  refine sps [.int .i64 2, .bool true] ?_
  refine qy (t_n ?_)
  refine qZ true rfl (fun _ => ?_) (fun h => absurd h (by decide))
  refine qm (qB ?_)
  refine sw (jr [.slice none 0 0, .slice none 0 0, .slice none 0 0] [] ?_)
  refine sp (.int .i64 2) ?_
  refine sw (xU H 0 [.slice none 0 0, .slice none 0 0, .slice none 0 0] Tryz.sizeOf38 fun w22 H => ?_)
  try dsimp only [List.set] at H
  refine sp (.int .i64 2) ?_
  refine qy (t_n (xB (t_r ?_)))
  replace H := H.nilRowB 4
  replace H := H.nilRow 22 1
  replace H := H.Xa (α := List Int)
  replace H := H.nilRowI 2
  refine retC2 H 3 rfl (.int .i64 2) rfl Tryz.isAgg38 Tryz.sizeOf38 rfl rfl ⟨_, rfl, ?_, H.base⟩
  rw [one_2 ‹yC s ∧ zH s t› ‹_›]
  exact ⟨none, 0, 0, none, 0, 0, [], [], none, 0, 0, rfl, N.emp, H.pick [2, 1, 0] [0]⟩
 replace h21 := qX h21
 replace h21 := QI.1 h21
 refine xx (b_n (t_n (qm (qB ?_))))
 refine sp (.int .i64 0) ?_
 refine qy (t_n (xB ?_))
 refine ret1 (.int .i64 0) rfl rfl ⟨_, rfl, ?_⟩
 replace H := H.erases [1, 0]
 dsimp only [yE, List.eraseIdx] at H
 refine sp (.int .i64 0) ?_
 refine qy (t_n (qm (qm (qB ?_))))
 refine sps [.int .i64 0, .bool true, .bool true] ?_
 refine qQ 15 rfl rfl ?_
 refine sw (zi [.int .i64 s.qH, .slice qw s.qf.length qo, .slice qG s.qg.length qE] Tryz.isAgg36 Tryz.sizeOf36 rfl (qI (H.cells 2 rfl) 0 3) ?_)
 refine qQ 15 rfl rfl ?_
 refine sw (zi [.slice qP t.qh.length qJ, .slice xH t.qp.length xC, .slice qN t.ql.length qM] Tryz.isAgg38 Tryz.sizeOf38 rfl (qI (H.cells 1 rfl) 0 3) ?_)
 refine qQ 15 rfl rfl ?_
 have k0 := (‹yC s ∧ zH s t› : yC s ∧ zH s t)
 have k1 := k0.1
 have k2 := k0.2
 have k4 := k1.2.1
 have sz26 := H.base.size
 refine sw (xf #[.agg #[.int .i64 s.qH, .slice qw s.qf.length qo, .slice qG s.qg.length qE], .agg #[.slice qP t.qh.length qJ, .slice xH t.qp.length xC, .slice qN t.ql.length qM]] rfl rfl Tryz.call65 (applicable_ok w19 s t qw qo qO qG qE xA qP qJ xO xH xC zL qN qM xI (H.get 0 rfl).1 (H.get 1 rfl).1 (H.get 2 rfl).1 (H.get 3 rfl).1 (H.get 4 rfl).1 (by first | assumption | omega) (by first | assumption | omega)) ?_)
 rintro _ w24 ⟨ra23, rn23, rc23, rfl, M, K⟩ _
 replace H := H.merge K M
 dsimp only [List.cons_append, List.nil_append] at H
 obtain rfl := H.QX 0 rfl
 refine qQ 15 rfl rfl ?_
 refine sp (.int .i64 i) ?_
 refine qQ 15 rfl rfl ?_
 obtain ⟨G29, hn30, h31⟩ := H.rowIsI 0 rfl
 refine sw (xf #[.slice ra23 ((appls s t).length) rc23, .int .i64 i] rfl rfl Tryz.call64 (containsI_ok w24 (appls s t) i ra23 rc23 G29 h31) ?_)
 rintro _ w33 rfl x34
 replace H := H.ext x34
 refine qQ 15 rfl rfl ?_
 refine sps [.bool (!(dec ((i : Int) ∈ (appls s t)))), .bool (!(dec ((i : Int) ∈ (appls s t))))] ?_
 refine qy (t_n ?_)
 refine qZ (!(dec ((i : Int) ∈ (appls s t)))) rfl (fun h35 => ?_) (fun h35 => ?_)
 ·skip
  replace h35 := xg h35
  replace h35 := zg h35
  refine qB ?_
  refine sp (.int .i64 4) ?_
  refine qy (t_n (qm (qm (qB ?_))))
  refine sps [.int .i64 4, .bool true] ?_
  refine qy (t_n ?_)
  refine qZ true rfl (fun _ => ?_) (fun h => absurd h (by decide))
  refine qm (qB ?_)
  refine sw (jr [.slice none 0 0, .slice none 0 0, .slice none 0 0] [] ?_)
  refine sp (.int .i64 4) ?_
  refine sw (xU H 1 [.slice none 0 0, .slice none 0 0, .slice none 0 0] Tryz.sizeOf38 fun w36 H => ?_)
  try dsimp only [List.set] at H
  refine sp (.int .i64 4) ?_
  refine qy (t_n (xB (t_r ?_)))
  replace H := H.nilRowB 4
  replace H := H.nilRow 22 1
  replace H := H.Xa (α := List Int)
  replace H := H.nilRowI 2
  refine retC2 H 4 rfl (.int .i64 4) rfl Tryz.isAgg38 Tryz.sizeOf38 rfl rfl ⟨_, rfl, ?_, H.base⟩
  rw [one_4 ‹yC s ∧ zH s t› ‹_› ‹_›]
  exact ⟨none, 0, 0, none, 0, 0, [], [], none, 0, 0, rfl, N.emp, H.pick [2, 1, 0] [0]⟩
 replace h35 := qX h35
 replace h35 := jI h35
 refine xx (t_n (qm (qm (qB ?_))))
 refine sps [.int .i64 0, .bool false] ?_
 refine qy (t_n ?_)
 refine qZ false rfl (fun h => absurd h (by decide)) (fun _ => ?_)
 refine xx (t_n (qm ?_))
 refine yL rfl H [0, 2, 3] fun H => ?_
 have S := H.yx [0, 2, 3] [0, 1, 2, 3, 4]
 refine rt 0 (.agg #[.int .i64 s.qH, .slice qw s.qf.length qo, .slice qG s.qg.length qE]) (yG (cs := [.int .i64 s.qH, .slice qw s.qf.length qo, .slice qG s.qg.length qE]) Tryz.isAgg36 Tryz.sizeOf36 rfl (fun _ h => qI (h.cells 2 rfl) 0 3)) S ?_
 refine rt 1 (.agg #[.slice qP t.qh.length qJ, .slice xH t.qp.length xC, .slice qN t.ql.length qM]) (yG (cs := [.slice qP t.qh.length qJ, .slice xH t.qp.length xC, .slice qN t.ql.length qM]) Tryz.isAgg38 Tryz.sizeOf38 rfl (fun _ h => qI (h.cells 1 rfl) 0 3)) S ?_
 refine rt 2 (.agg #[.int .i64 s.qH, .slice qw s.qf.length qo, .slice qG s.qg.length qE]) (yG (cs := [.int .i64 s.qH, .slice qw s.qf.length qo, .slice qG s.qg.length qE]) Tryz.isAgg36 Tryz.sizeOf36 rfl (fun _ h => qI (h.cells 2 rfl) 0 3)) S ?_
 refine rtp 3 (.int .i64 i) S ?_
 refine xq [4] (by kernel_rfl) (by simp) (xX rfl ?_ xu)
 have sz41 := H.base.size
 refine xf #[.agg #[.int .i64 s.qH, .slice qw s.qf.length qo, .slice qG s.qg.length qE], .int .i64 i] rfl rfl Tryz.call67 (single_ok w33.drew s i qw qo qO qG qE xA (H.get 0 rfl).1 (H.get 1 rfl).1 (by first | assumption | omega) (by first | assumption | omega)) ?_
 rintro _ w39 ⟨ra38, rn38, rc38, rfl, M, K⟩ _
 replace H := H.merge K M
 dsimp only [List.cons_append, List.nil_append] at H
 obtain rfl := H.QX 0 rfl
 refine ⟨H.pick [1, 3, 4] [0, 1, 2, 3, 4], ?_⟩
 refine xq [5] (by kernel_rfl) (by simp) (xX rfl ?_ xu)
 obtain ⟨G44, hn45, h46⟩ := H.rowIsI 0 rfl
 have k3 := single_cnt (s := s) (i := i.toNat) (by omega)
 have k5 := (single_isCh k1 k2 (i := i.toNat) (by omega)).2 ((mem_applsI (by omega) (by omega)).1 ‹i ∈ appls s t›)
 have sz50 := H.base.size
 refine xf #[.agg #[.int .i64 s.qH, .slice qw s.qf.length qo, .slice qG s.qg.length qE], .agg #[.slice qP t.qh.length qJ, .slice xH t.qp.length xC, .slice qN t.ql.length qM], .slice ra38 ((single s i.toNat).length) rc38] rfl rfl Tryz.call66 (step_ok w39 s t (single s i.toNat) qw qo qO qG qE xA qP qJ xO xH xC zL qN qM xI ra38 rc38 G44 (H.get 0 rfl).1 (H.get 1 rfl).1 (H.get 2 rfl).1 (H.get 3 rfl).1 (H.get 4 rfl).1 h46 (by first | assumption | omega) (by first | assumption | omega) (by first | assumption | omega) (by first | assumption | omega)) ?_
 rintro _ w48 ⟨ra47aAlive, rn47aAlive, rc47aAlive, ra47aBags, rn47aBags, rc47aBags, rx47aBags, rF47aBags, ra47aAround, rn47aAround, rc47aAround, rfl, M, K⟩ _
 replace N := N.merge sz50 (by simp) M
 replace H := H.merge K M
 dsimp only [List.cons_append, List.nil_append] at H
 obtain rfl := H.QN 0 rfl
 obtain rfl := H.zy (α := List Int) 1 rfl 0 rfl (by decide)
 obtain rfl := H.QX 2 rfl
 refine ⟨H.pick [4, 6, 7] [1, 2, 3, 4, 5], ?_⟩
 have S := H.yx [4, 6, 7] [1, 2, 3, 4, 5]
 refine rtp 6 (.agg #[.slice ra47aAlive ((((yw s t (single s i.toNat)).1).qh).length) rc47aAlive, .slice ra47aBags ((((yw s t (single s i.toNat)).1).qp).length) rc47aBags, .slice ra47aAround ((((yw s t (single s i.toNat)).1).ql).length) rc47aAround]) S ?_
 refine rtp 7 (.int .i64 ((yw s t (single s i.toNat)).2)) S ?_
 refine xq [8] (by kernel_rfl) (by simp) (xX rfl ?_ xu)
 refine xU H 5 [.slice ra47aAlive ((((yw s t (single s i.toNat)).1).qh).length) rc47aAlive, .slice ra47aBags ((((yw s t (single s i.toNat)).1).qp).length) rc47aBags, .slice ra47aAround ((((yw s t (single s i.toNat)).1).ql).length) rc47aAround] Tryz.sizeOf38 fun w55 H => ?_
 try dsimp only [List.set] at H
 refine ⟨H.pick [4, 6, 7] [1, 2, 3, 4, 5], ?_⟩
 refine rtp 9 (.int .i64 ((yw s t (single s i.toNat)).2)) (H.pick [4, 6, 7] [1, 2, 3, 4, 5]) ?_
 refine xM (by kernel_rfl) (t_n ?_)
 refine xB ?_
 refine retC2 H 5 rfl (.int .i64 ((yw s t (single s i.toNat)).2)) rfl Tryz.isAgg38 Tryz.sizeOf38 rfl rfl ⟨_, rfl, ?_, H.base⟩
 rw [one_0 ‹yC s ∧ zH s t› ‹_›]
 exact ⟨ra47aAlive, (((yw s t (single s i.toNat)).1).qh).length, rc47aAlive, ra47aBags, (((yw s t (single s i.toNat)).1).qp).length, rc47aBags, rx47aBags, rF47aBags, ra47aAround, (((yw s t (single s i.toNat)).1).ql).length, rc47aAround, rfl, N, H.pick [0, 1, 2] [0]⟩

end Go.Proofs.YtkmlihdacnfhdaaGreat
