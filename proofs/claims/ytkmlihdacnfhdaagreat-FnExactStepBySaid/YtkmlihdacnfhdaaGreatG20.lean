/- Walks, printed by program (wip/tools/gv.py): what each function comes to, for all arguments. -/
import Derived.Test.YtkmlihdacnfhdaaGreatG15
import Derived.Test.YtkmlihdacnfhdaaGreatP9
namespace Go.Proofs.YtkmlihdacnfhdaaGreat
open Go.Proofs.YtkmlihdacnfhdaaGreat.Tot (tot)
open Go.Proofs.YtkmlihdacnfhdaaGreat.Mark (cnt mrk mkd mkd_mark cnt_mark)
open Go.RowKit
set_option linter.unusedVariables false
set_option linter.unusedSimpArgs false
set_option maxRecDepth 100000
set_option maxHeartbeats 4000000



theorem l03Asked_ok (w : World) (s : qY) (t : qU) (counts : List Int) (bs os : Nat) (qw : Option Addr) (qp : Nat) (qP : List Nat) (qG : Option Addr) (qC : Nat) (xC : List Nat) (bt ot : Nat) (qO : Option Addr) (qJ : Nat) (xK : List Nat) (xG : Option Addr) (xA : Nat) (zy : List Nat) (qL : Option Addr) (qK : Nat) (xI : List Nat) (acounts : Option Addr) (ccounts : Nat) (Fcounts : List Nat) (hs : vY w bs os [.int .i64 s.qH, .slice qw s.qf.length qp, .slice qG s.qg.length qC]) (xx : qQ.rep w qP [.slice qw s.qf.length qp] s.qf) (xM : qQ.rep w xC [.slice qG s.qg.length qC] s.qg) (ht : vY w bt ot [.slice qO t.qh.length qJ, .slice xG t.qo.length xA, .slice qL t.ql.length qK]) (zo : qQ.rep w xK [.slice qO t.qh.length qJ] t.qh) (vk : qQ.rep w zy [.slice xG t.qo.length xA] t.qo) (xW : qQ.rep w xI [.slice qL t.ql.length qK] t.ql) (hcounts : qQ.rep w Fcounts [.slice acounts counts.length ccounts] counts) : Calls Tryz.prog 69 #[pp bs os, pp bt ot, .slice acounts counts.length ccounts] w (Ret (fun v w' => v = .int .i64 (yu s t counts)) w) := by
 refine enter (n := 19) Tryz.func69 rfl Tryz.ntmps69 (Nat.le_of_ble_eq_true rfl) ?_
 have H := ((((((((St.start w).arg hcounts).arg xW).arg vk).arg zo).argAt ht).arg xM).arg xx).argAt hs
 have vU := qM xx
 have jZ := qM xM
 have QN := qM zo
 have Xt := qM vk
 have Qn := qM xW
 have nhcounts := qM hcounts
 clear hs xx xM ht zo vk xW hcounts
 have N := Fresh.nil w.heap.size
 refine qm (qA ?_)
 refine sp (.int .i64 0) ?_
 refine qx (t_n (qm (qm (qA ?_))))
 refine sps [pp bs os, pp bt ot] ?_
 refine sw (xe #[pp bs os, pp bt ot] rfl rfl Tryz.call60 (l03Both_ok w s t bs os qw qp qP qG qC xC bt ot qO qJ xK xG xA zy qL qK xI (qI (H.get 0 rfl) 0 3) (H.get 1 rfl).1 (H.get 2 rfl).1 (qI (H.get 3 rfl) 0 3) (H.get 4 rfl).1 (H.get 5 rfl).1 (H.get 6 rfl).1) ?_)
 rintro _ w2 rfl x3
 replace H := H.ext x3
 refine sp (.bool (!(dec (Qz s ∧ ve s t)))) ?_
 refine qx (t_n ?_)
 refine qW (!(dec (Qz s ∧ ve s t))) rfl (fun h4 => ?_) (fun h4 => ?_)
 ·skip
  replace h4 := xg h4
  replace h4 := zi h4
  refine qm (qA ?_)
  refine sp (.int .i64 1) ?_
  refine qx (t_n (xB (t_r ?_)))
  refine ret1 (.int .i64 1) rfl rfl ⟨_, rfl, ?_, H.base⟩
  rw [ask_1 ‹_›]
 replace h4 := qX h4
 replace h4 := jI h4
 refine xu (t_n (qm (qm (qA ?_))))
 refine sps [pp bs os, pp bs os] ?_
 refine sw (qN bs (os) 2 Tryz.underlying36 rfl rfl Tryz.sizeOf34 rfl ?_)
 refine sw (qE (.slice qG s.qg.length qC) Tryz.isAgg34 rfl (H.zh 0 rfl 2 rfl) ?_)
 refine sw (zZ Tryz.underlying34 qG s.qg.length qC rfl ?_)
 refine sp (.slice acounts counts.length ccounts) ?_
 refine sw (xe #[.int .i64 s.qg.length, .slice acounts counts.length ccounts] rfl rfl Tryz.call72 (l01Counts_ok w2 s.qg.length counts acounts ccounts Fcounts (H.get 7 rfl).1) ?_)
 rintro _ w6 rfl x7
 replace H := H.ext x7
 refine sp (.bool (!(dec ((counts.length : Int) = s.qg.length ∧ Counts counts counts.length)))) ?_
 refine qx (t_n ?_)
 refine qW (!(dec ((counts.length : Int) = s.qg.length ∧ Counts counts counts.length))) rfl (fun h8 => ?_) (fun h8 => ?_)
 ·skip
  replace h8 := xg h8
  replace h8 := zi h8
  refine qm (qA ?_)
  refine sp (.int .i64 2) ?_
  refine qx (t_n (xB (t_r ?_)))
  refine ret1 (.int .i64 2) rfl rfl ⟨_, rfl, ?_, H.base⟩
  rw [ask_2 ‹_› (fun h => ‹¬ (_ ∧ Counts counts counts.length)› ⟨by have := h.1; omega, h.2⟩)]
 replace h8 := qX h8
 replace h8 := jI h8
 refine xu (t_n (qm (qA ?_)))
 refine sp (.int .i64 0) ?_
 refine qx (t_n (xB ?_))
 refine ret1 (.int .i64 0) rfl rfl ⟨_, rfl, ?_, H.base⟩
 obtain ⟨z1, z2⟩ := (‹(counts.length : Int) = _ ∧ Counts counts counts.length›)
 rw [ask_0 ‹_› ⟨by omega, z2⟩]

theorem specBy_ok (w : World) (s : qY) (t : qU) (counts : List Int) (qw : Option Addr) (qp : Nat) (qP : List Nat) (qG : Option Addr) (qC : Nat) (xC : List Nat) (qO : Option Addr) (qJ : Nat) (xK : List Nat) (xG : Option Addr) (xA : Nat) (zy : List Nat) (qL : Option Addr) (qK : Nat) (xI : List Nat) (acounts : Option Addr) (ccounts : Nat) (Fcounts : List Nat) (xx : qQ.rep w qP [.slice qw s.qf.length qp] s.qf) (xM : qQ.rep w xC [.slice qG s.qg.length qC] s.qg) (zo : qQ.rep w xK [.slice qO t.qh.length qJ] t.qh) (vk : qQ.rep w zy [.slice xG t.qo.length xA] t.qo) (xW : qQ.rep w xI [.slice qL t.ql.length qK] t.ql) (hcounts : qQ.rep w Fcounts [.slice acounts counts.length ccounts] counts) : Calls Tryz.prog 24 #[.agg #[.int .i64 s.qH, .slice qw s.qf.length qp, .slice qG s.qg.length qC], .agg #[.slice qO t.qh.length qJ, .slice xG t.qo.length xA, .slice qL t.ql.length qK], .slice acounts counts.length ccounts] w (Ret (fun v w' => ∃ (ra0Alive : Option Addr) (Xc : Nat) (rc0Alive : Nat) (ra0Bags : Option Addr) (XW : Nat) (rc0Bags : Nat) (rx0Bags : List Value) (rF0Bags : List Nat) (Xq : Option Addr) (QG : Nat) (Xp : Nat), v = .tuple #[.agg #[.slice ra0Alive Xc rc0Alive, .slice ra0Bags XW rc0Bags, .slice Xq QG Xp], .int .i64 ((qF s t counts).2)] ∧ Fresh w.heap.size [rF0Bags] ∧ St w w' [.row (.slice ra0Alive Xc rc0Alive) 4 1 Xc ((((qF s t counts).1).qh).map (Value.bool)), .row (.slice ra0Bags XW rc0Bags) 22 1 XW rx0Bags, .row (.slice Xq QG Xp) 2 1 QG ((((qF s t counts).1).ql).map (Value.int .i64))] [jk true rF0Bags rx0Bags (((qF s t counts).1).qo)]) w) := by
 refine enter (n := 19) Tryz.func24 rfl Tryz.ntmps24 (Nat.le_of_ble_eq_true rfl) ?_
 have H := ((((((St.start w).arg hcounts).arg xW).arg vk).arg zo).arg xM).arg xx
 have vU := qM xx
 have jZ := qM xM
 have QN := qM zo
 have Xt := qM vk
 have Qn := qM xW
 have nhcounts := qM hcounts
 clear xx xM zo vk xW hcounts
 have N := Fresh.nil w.heap.size
 refine qm (qA ?_)
 refine sw (yG H [.int .i64 s.qH, .slice qw s.qf.length qp, .slice qG s.qg.length qC] fun b1 w2 H => ?_)
 refine sw (yG H [.slice qO t.qh.length qJ, .slice xG t.qo.length xA, .slice qL t.ql.length qK] fun b3 w4 H => ?_)
 refine sw (zn H ti38 [.slice none 0 0, .slice none 0 0, .slice none 0 0] fun b5 w6 H => ?_)
 refine sp (.int .i64 0) ?_
 refine qx (t_n (qm (qm (qA ?_))))
 refine sp (.slice acounts counts.length ccounts) ?_
 refine sw (xe #[pp b1 0, pp b3 0, .slice acounts counts.length ccounts] rfl rfl Tryz.call69 (l03Asked_ok w6 s t counts b1 0 qw qp qP qG qC xC b3 0 qO qJ xK xG xA zy qL qK xI acounts ccounts Fcounts (qI (H.cells 2 rfl) 0 3) (H.get 0 rfl).1 (H.get 1 rfl).1 (qI (H.cells 1 rfl) 0 3) (H.get 2 rfl).1 (H.get 3 rfl).1 (H.get 4 rfl).1 (H.get 5 rfl).1) ?_)
 rintro _ w8 rfl x9
 replace H := H.ext x9
 refine sp (.int .i64 (yu s t counts)) ?_
 refine qx (t_n (qm (qA ?_)))
 refine sps [.int .i64 (yu s t counts), .bool ((yu s t counts : Int) != 0)] ?_
 refine qx (t_n ?_)
 refine qW ((yu s t counts : Int) != 0) rfl (fun h10 => ?_) (fun h10 => ?_)
 ·skip
  replace h10 := bne_iff_ne.1 h10
  refine qm (qA ?_)
  refine sw (jH [.slice none 0 0, .slice none 0 0, .slice none 0 0] [] ?_)
  refine sp (.int .i64 (yu s t counts)) ?_
  refine sw (xU H 0 [.slice none 0 0, .slice none 0 0, .slice none 0 0] Tryz.sizeOf38 fun w11 H => ?_)
  try dsimp only [List.set] at H
  refine sp (.int .i64 (yu s t counts)) ?_
  refine qx (t_n (xB (t_r ?_)))
  replace H := H.nilRowB 4
  replace H := H.nilRow 22 1
  replace H := H.Xo (α := List Int)
  replace H := H.nilRowI 2
  refine retC2 H 3 rfl (.int .i64 (yu s t counts)) rfl Tryz.isAgg38 Tryz.sizeOf38 rfl rfl ⟨_, rfl, ?_, H.base⟩
  rw [by_bad ‹_›]
  exact ⟨none, 0, 0, none, 0, 0, [], [], none, 0, 0, rfl, N.emp, H.pick [2, 1, 0] [0]⟩
 replace h10 := xR h10
 refine xu (t_n (qm (qA ?_)))
 refine sp (.slice acounts counts.length ccounts) ?_
 obtain ⟨k1, k2, k3⟩ := ask_ok ‹yu s t counts = 0›
 have sz15 := H.base.size
 refine sw (xe #[pp b1 0, pp b3 0, .slice acounts counts.length ccounts] rfl rfl Tryz.call61 (l03Step_ok w8 s t counts b1 0 qw qp qP qG qC xC b3 0 qO qJ xK xG xA zy qL qK xI acounts ccounts Fcounts (qI (H.cells 2 rfl) 0 3) (H.get 0 rfl).1 (H.get 1 rfl).1 (qI (H.cells 1 rfl) 0 3) (H.get 2 rfl).1 (H.get 3 rfl).1 (H.get 4 rfl).1 (H.get 5 rfl).1 (by first | assumption | omega) (by first | assumption | omega) (by first | assumption | omega)) ?_)
 rintro _ w13 ⟨ra12aAlive, rn12aAlive, rc12aAlive, ra12aBags, rn12aBags, rc12aBags, rx12aBags, rF12aBags, ra12aAround, rn12aAround, rc12aAround, rfl, M, K⟩ _
 replace N := N.merge sz15 (by simp) M
 replace H := H.merge K M
 dsimp only [List.cons_append, List.nil_append] at H
 obtain rfl := H.QQ 0 rfl
 obtain rfl := H.zu (α := List Int) 1 rfl 0 rfl (by decide)
 obtain rfl := H.Xb 2 rfl
 refine sps [.agg #[.slice ra12aAlive ((((yD s t counts).1).qh).length) rc12aAlive, .slice ra12aBags ((((yD s t counts).1).qo).length) rc12aBags, .slice ra12aAround ((((yD s t counts).1).ql).length) rc12aAround], .int .i64 ((yD s t counts).2)] ?_
 refine sw (xU H 3 [.slice ra12aAlive ((((yD s t counts).1).qh).length) rc12aAlive, .slice ra12aBags ((((yD s t counts).1).qo).length) rc12aBags, .slice ra12aAround ((((yD s t counts).1).ql).length) rc12aAround] Tryz.sizeOf38 fun w20 H => ?_)
 try dsimp only [List.set] at H
 refine sp (.int .i64 ((yD s t counts).2)) ?_
 refine qx (t_n (xB ?_))
 refine retC2 H 3 rfl (.int .i64 ((yD s t counts).2)) rfl Tryz.isAgg38 Tryz.sizeOf38 rfl rfl ⟨_, rfl, ?_, H.base⟩
 rw [by_ok ‹_›]
 exact ⟨ra12aAlive, (((yD s t counts).1).qh).length, rc12aAlive, ra12aBags, (((yD s t counts).1).qo).length, rc12aBags, rx12aBags, rF12aBags, ra12aAround, (((yD s t counts).1).ql).length, rc12aAround, rfl, N, H.pick [0, 1, 2] [0]⟩

theorem countsCode1_ok (w : World) (n : Int) : Calls Tryz.prog 117 #[.int .i64 n] w (Ret (fun v w' => v = .bool (!isCnt n)) w) := by
 refine enter (n := 6) Tryz.func117 rfl Tryz.ntmps117 (Nat.le_of_ble_eq_true rfl) ?_
 have H := St.start w
 have N := Fresh.nil w.heap.size
 refine qm (qA ?_)
 refine sp (.bool false) ?_
 refine qx (t_n (qm (qA ?_)))
 refine sp (.int .i64 n) ?_
 refine sw (xe #[.int .i64 n, .int .i64 0, .int .i64 1000] rfl rfl Tryz.call94 (X6 w n 0 1000) ?_)
 rintro _ w1 rfl x2
 replace H := H.ext x2
 refine sps [.bool (!(inR n 0 1000)), .bool (!(inR n 0 1000))] ?_
 refine qx (t_n (xB ?_))
 refine ret1 (.bool (!(inR n 0 1000))) rfl rfl ⟨_, rfl, ?_, H.base⟩
 rfl

theorem countsCode_ok (w : World) (s : qY) (t : qU) (counts : List Int) (qw : Option Addr) (qp : Nat) (qP : List Nat) (qG : Option Addr) (qC : Nat) (xC : List Nat) (qO : Option Addr) (qJ : Nat) (xK : List Nat) (xG : Option Addr) (xA : Nat) (zy : List Nat) (qL : Option Addr) (qK : Nat) (xI : List Nat) (acounts : Option Addr) (ccounts : Nat) (Fcounts : List Nat) (xx : qQ.rep w qP [.slice qw s.qf.length qp] s.qf) (xM : qQ.rep w xC [.slice qG s.qg.length qC] s.qg) (zo : qQ.rep w xK [.slice qO t.qh.length qJ] t.qh) (vk : qQ.rep w zy [.slice xG t.qo.length xA] t.qo) (xW : qQ.rep w xI [.slice qL t.ql.length qK] t.ql) (hcounts : qQ.rep w Fcounts [.slice acounts counts.length ccounts] counts) : Calls Tryz.prog 70 #[.agg #[.int .i64 s.qH, .slice qw s.qf.length qp, .slice qG s.qg.length qC], .agg #[.slice qO t.qh.length qJ, .slice xG t.qo.length xA, .slice qL t.ql.length qK], .slice acounts counts.length ccounts] w (Ret (fun v w' => v = .int .i64 (yu s t counts)) w) := by
 refine enter (n := 23) Tryz.func70 rfl Tryz.ntmps70 (Nat.le_of_ble_eq_true rfl) ?_
 have H := ((((((St.start w).arg hcounts).arg xW).arg vk).arg zo).arg xM).arg xx
 have vU := qM xx
 have jZ := qM xM
 have QN := qM zo
 have Xt := qM vk
 have Qn := qM xW
 have nhcounts := qM hcounts
 clear xx xM zo vk xW hcounts
 have N := Fresh.nil w.heap.size
 refine qm (qA ?_)
 refine sw (yG H [.int .i64 s.qH, .slice qw s.qf.length qp, .slice qG s.qg.length qC] fun b1 w2 H => ?_)
 refine sw (yG H [.slice qO t.qh.length qJ, .slice xG t.qo.length xA, .slice qL t.ql.length qK] fun b3 w4 H => ?_)
 refine sp (.int .i64 0) ?_
 refine qx (t_n (qm (xE (qm (qA ?_)))))
 refine sw (zl [.int .i64 s.qH, .slice qw s.qf.length qp, .slice qG s.qg.length qC] Tryz.isAgg36 Tryz.sizeOf36 rfl (qI (H.cells 1 rfl) 0 3) ?_)
 refine sw (zl [.slice qO t.qh.length qJ, .slice xG t.qo.length xA, .slice qL t.ql.length qK] Tryz.isAgg38 Tryz.sizeOf38 rfl (qI (H.cells 0 rfl) 0 3) ?_)
 refine sw (xe #[.agg #[.int .i64 s.qH, .slice qw s.qf.length qp, .slice qG s.qg.length qC], .agg #[.slice qO t.qh.length qJ, .slice xG t.qo.length xA, .slice qL t.ql.length qK]] rfl rfl Tryz.call76 (validState_ok w4 s t qw qp qP qG qC xC qO qJ xK xG xA zy qL qK xI (H.get 0 rfl).1 (H.get 1 rfl).1 (H.get 2 rfl).1 (H.get 3 rfl).1 (H.get 4 rfl).1) ?_)
 rintro _ w6 rfl x7
 replace H := H.ext x7
 refine sps [.bool (!(dec (Qz s ∧ ve s t))), .bool (!(dec (Qz s ∧ ve s t)))] ?_
 refine qx (t_n ?_)
 refine qW (!(dec (Qz s ∧ ve s t))) rfl (fun h8 => ?_) (fun h8 => ?_)
 ·skip
  replace h8 := xg h8
  replace h8 := zi h8
  refine qm (qA ?_)
  refine sp (.int .i64 1) ?_
  refine qx (t_n (xB (b_r (t_r ?_))))
  refine ret1 (.int .i64 1) rfl rfl ⟨_, rfl, ?_, H.base⟩
  rw [ask_1 ‹_›]
 replace h8 := qX h8
 replace h8 := jI h8
 refine qm (qA ?_)
 refine sp (.slice acounts counts.length ccounts) ?_
 refine sw (zZ Tryz.underlying22 acounts counts.length ccounts rfl ?_)
 refine sw (qN b1 (0) 2 Tryz.underlying36 rfl rfl Tryz.sizeOf34 rfl ?_)
 refine sw (qE (.slice qG s.qg.length qC) Tryz.isAgg34 rfl (H.cell 1 rfl rfl) ?_)
 refine sw (zZ Tryz.underlying34 qG s.qg.length qC rfl ?_)
 refine sps [.bool ((counts.length : Int) != s.qg.length), .bool ((counts.length : Int) != s.qg.length)] ?_
 cases h9 : ((counts.length : Int) != s.qg.length)
 ·skip
  replace h9 := xR h9
  refine qR 19 rfl rfl ?_
  refine sp (.slice acounts counts.length ccounts) ?_
  refine qR 19 rfl rfl ?_
  refine sw (xe #[.slice acounts counts.length ccounts, .func (.func 117) #[] #[]] rfl rfl Tryz.call116 (containsFuncI_ok w6 counts 117 #[] (fun k => !isCnt (counts[k]!)) acounts ccounts Fcounts (H.get 5 rfl).1 Tryz.call117 (fun k w' hk e => countsCode1_ok w' _)) ?_)
  rintro _ w10 rfl x11
  replace H := H.ext x11
  refine sps [.bool (anyTo (fun k => !isCnt (counts[k]!)) counts.length), .bool (anyTo (fun k => !isCnt (counts[k]!)) counts.length)] ?_
  refine qx (t_n ?_)
  refine qW (anyTo (fun k => !isCnt (counts[k]!)) counts.length) rfl (fun h12 => ?_) (fun h12 => ?_)
  ·skip
   refine qm (qA ?_)
   refine sp (.int .i64 2) ?_
   refine qx (t_n (xB (b_r (t_r ?_))))
   refine ret1 (.int .i64 2) rfl rfl ⟨_, rfl, ?_, H.base⟩
   rw [ask_2 ‹Qz s ∧ ve s t› (fun h => by first | (have := h.1; omega) | (have z := anyCnt_iff.2 h.2; rw [‹anyTo _ _ = true›] at z; cases z))]
  refine xu (b_n (t_n (qm (qA ?_))))
  refine sp (.int .i64 0) ?_
  refine qx (t_n (xB ?_))
  refine ret1 (.int .i64 0) rfl rfl ⟨_, rfl, ?_, H.base⟩
  rw [ask_0 ‹Qz s ∧ ve s t› ⟨by omega, anyCnt_iff.1 (by rw [‹anyTo _ _ = false›]; rfl)⟩]
 replace h9 := bne_iff_ne.1 h9
 refine xY [20, 21] ?_
 refine sps [.bool true, .bool true] ?_
 refine qx (t_n ?_)
 refine qW true rfl (fun _ => ?_) (fun h => absurd h (by decide))
 refine qm (qA ?_)
 refine sp (.int .i64 2) ?_
 refine qx (t_n (xB (b_r (t_r ?_))))
 refine ret1 (.int .i64 2) rfl rfl ⟨_, rfl, ?_, H.base⟩
 rw [ask_2 ‹Qz s ∧ ve s t› (fun h => by first | (have := h.1; omega) | (have z := anyCnt_iff.2 h.2; rw [‹anyTo _ _ = true›] at z; cases z))]

theorem indexI_ok (w : World) (l : List Int) (x : Int) (al : Option Addr) (cl : Nat) (Fl : List Nat) (hl : qQ.rep w Fl [.slice al l.length cl] l) : Calls Tryz.prog 111 #[.slice al l.length cl, .int .i64 x] w (Ret (fun v w' => v = .int .i64 (firstIdx (fun k => x == l[k]!) l.length)) w) := by
 refine enter (n := 19) Tryz.func111 rfl Tryz.ntmps111 (Nat.le_of_ble_eq_true rfl) ?_
 have H := (St.start w).arg hl
 have nhl := qM hl
 clear hl
 have N := Fresh.nil w.heap.size
 refine qm (qA ?_)
 refine sp (.int .i64 0) ?_
 refine qx (t_n (qm (qm (qA ?_))))
 refine sp (.slice al l.length cl) ?_
 refine sw (zZ Tryz.underlying22 al l.length cl rfl ?_)
 refine sp (.int .i64 0) ?_
 refine qx (t_n (xE ?_))
 refine zX (fun m' ρ w1 => ∃ (junk : Env) (i : Nat), ρ = upd (upd (upd (upd junk 0 (.slice al l.length cl)) 1 (.int .i64 x)) 7 (.int .i64 l.length)) 8 (.int .i64 i) ∧ ((i : Int) ≤ l.length) ∧ (noneTo (fun k => x == l[k]!) i) ∧ m' = (l.length - (i : Int)).toNat ∧ Fresh w.heap.size [] ∧ St w w1 [] [isF false Fl (.slice al l.length cl) l]) ((l.length - (0 : Int)).toNat) ⟨_, 0, (by exact qj (qj (qj (qj (rfl) rfl) rfl) rfl) rfl), (by omega), (by exact fun j hj => by omega), rfl, N, H⟩ ?_
 clear H N
 rintro m' ρ w2 ⟨junk, i, rfl, i0, i1, rfl, N, H⟩
 refine qm (qA ?_)
 refine sp (.bool (decide ((i : Int) < l.length))) ?_
 refine qx (t_n (qm ?_))
 refine qW (decide ((i : Int) < l.length)) rfl (fun h3 => ?_) (fun h3 => ?_)
 ·skip
  replace h3 := of_decide_eq_true h3
  refine xu (t_n (qm (xE (qm (qA ?_)))))
  refine sps [.int .i64 i, .int .i64 i] ?_
  refine qx (t_n (qm (qA ?_)))
  refine sps [.int .i64 x, .slice al l.length cl, .int .i64 i] ?_
  obtain ⟨b4, o5, rfl⟩ := H.addr 0 rfl (by omega)
  refine sw (xJ i Tryz.underlying22 ti2 rfl rfl (by omega) (by omega) ?_)
  refine sw (qE (.int .i64 (l[i]!)) Tryz.isAgg2 rfl (H.ja 0 rfl i (by omega) (by omega)) ?_)
  refine sp (.bool ((x : Int) == (l[i]!))) ?_
  refine qx (t_n ?_)
  refine qW ((x : Int) == (l[i]!)) rfl (fun h7 => ?_) (fun h7 => ?_)
  ·skip
   replace h7 := eq_of_beq h7
   refine qm (qA ?_)
   refine sps [.int .i64 i, .int .i64 i] ?_
   refine qx (t_n (xB (b_r (t_r (t_r (b_r (t_r ?_)))))))
   refine ret1 (.int .i64 i) rfl rfl ⟨_, rfl, ?_, H.base⟩
   rw [firstIdx_some (k := i) (by omega) i1 (by simpa using ‹x = l[i]!›)]
  replace h7 := ne_of_beq_false h7
  refine xu (b_n (t_n (qA ?_)))
  refine sw (vg i 1 rfl rfl (by omega) ?_)
  refine sp (.int .i64 (i + 1)) ?_
  refine qx ?_
  refine xH (m' := (l.length - ((i + 1) : Int)).toNat) (by omega) ⟨_, i + 1, (by exact qj (qj (qj (qj (rfl) rfl) rfl) rfl) rfl), ?_, ?_, rfl, N, H⟩
  · omega
  · exact noneTo_succ ‹_› (by simpa using ‹x ≠ l[i]!›)
 replace h3 := of_decide_eq_false h3
 refine zU (t_x (t_x (b_x (t_n (qm (qA ?_))))))
 refine sp (.int .i64 (-1)) ?_
 refine qx (t_n (xB ?_))
 refine ret1 (.int .i64 (-1)) rfl rfl ⟨_, rfl, ?_, H.base⟩
 rw [firstIdx_none (fun j hj => i1 j (by omega))]

theorem containsI_ok (w : World) (l : List Int) (x : Int) (al : Option Addr) (cl : Nat) (Fl : List Nat) (hl : qQ.rep w Fl [.slice al l.length cl] l) : Calls Tryz.prog 64 #[.slice al l.length cl, .int .i64 x] w (Ret (fun v w' => v = .bool (dec ((x : Int) ∈ l))) w) := by
 refine enter (n := 9) Tryz.func64 rfl Tryz.ntmps64 (Nat.le_of_ble_eq_true rfl) ?_
 have H := (St.start w).arg hl
 have nhl := qM hl
 clear hl
 have N := Fresh.nil w.heap.size
 refine qm (qA ?_)
 refine sp (.bool false) ?_
 refine qx (t_n (qm (qA ?_)))
 refine sps [.slice al l.length cl, .int .i64 x] ?_
 refine sw (xe #[.slice al l.length cl, .int .i64 x] rfl rfl Tryz.call111 (indexI_ok w l x al cl Fl (H.get 0 rfl).1) ?_)
 rintro _ w2 rfl x3
 replace H := H.ext x3
 refine sps [.bool (decide ((firstIdx (fun k => x == l[k]!) l.length : Int) ≥ 0)), .bool (decide ((firstIdx (fun k => x == l[k]!) l.length : Int) ≥ 0))] ?_
 refine qx (t_n (xB ?_))
 refine ret1 (.bool (decide ((firstIdx (fun k => x == l[k]!) l.length : Int) ≥ 0))) rfl rfl ⟨_, rfl, ?_, H.base⟩
 rw [anyTo_first, anyTo_mem]

theorem minI_ok (w : World) (l : List Int) (al : Option Addr) (cl : Nat) (Fl : List Nat) (hl : qQ.rep w Fl [.slice al l.length cl] l) (p0 : 1 ≤ l.length) : Calls Tryz.prog 119 #[.slice al l.length cl] w (Ret (fun v w' => v = .int .i64 (minL l)) w) := by
 refine enter (n := 25) Tryz.func119 rfl Tryz.ntmps119 (Nat.le_of_ble_eq_true rfl) ?_
 have H := (St.start w).arg hl
 have nhl := qM hl
 clear hl
 have N := Fresh.nil w.heap.size
 refine qm (qA ?_)
 refine sp (.int .i64 0) ?_
 refine qx (t_n (qm (qm (qA ?_))))
 refine sp (.slice al l.length cl) ?_
 refine sw (zZ Tryz.underlying22 al l.length cl rfl ?_)
 refine sp (.bool (decide ((l.length : Int) < 1))) ?_
 refine qx (t_n ?_)
 refine qW (decide ((l.length : Int) < 1)) rfl (fun h1 => ?_) (fun h1 => ?_)
 ·skip
  replace h1 := of_decide_eq_true h1
  exfalso; omega
 replace h1 := of_decide_eq_false h1
 refine xu (t_n (qm (qA ?_)))
 refine sp (.slice al l.length cl) ?_
 obtain ⟨b2, o3, rfl⟩ := H.addr 0 rfl (by omega)
 refine sw (xJ 0 Tryz.underlying22 ti2 rfl rfl (by omega) (by omega) ?_)
 refine sw (qE (.int .i64 (l[0]!)) Tryz.isAgg2 rfl (H.ja 0 rfl 0 (by omega) (by omega)) ?_)
 refine sp (.int .i64 (l[0]!)) ?_
 refine qx (t_n (qm (qm (qA ?_))))
 refine sp (.int .i64 1) ?_
 refine qx (t_n (xE ?_))
 refine zX (fun m' ρ w5 => ∃ (junk : Env) (m : Int) (i : Nat), ρ = upd (upd (upd junk 0 (.slice (aa b2 o3) l.length cl)) 3 (.int .i64 m)) 4 (.int .i64 i) ∧ m = minTo l i ∧ ((i : Int) ≤ l.length) ∧ (1 ≤ i) ∧ m' = (l.length - (i : Int)).toNat ∧ Fresh w.heap.size [] ∧ St w w5 [] [isF false Fl (.slice (aa b2 o3) l.length cl) l]) ((l.length - (1 : Int)).toNat) ⟨_, l[0]!, 1, (by exact qj (qj (qj (rfl) rfl) rfl) rfl), (by exact (minTo_one l).symm), (by omega), (by omega), rfl, N, H⟩ ?_
 clear H N
 rintro m' ρ w6 ⟨junk, m, i, rfl, rfl, i0, i2, rfl, N, H⟩
 refine qm (qm (qA ?_))
 refine sps [.int .i64 i, .slice (aa b2 o3) l.length cl] ?_
 refine sw (zZ Tryz.underlying22 (aa b2 o3) l.length cl rfl ?_)
 refine sp (.bool (decide ((i : Int) < l.length))) ?_
 refine qx (t_n ?_)
 refine qW (decide ((i : Int) < l.length)) rfl (fun h7 => ?_) (fun h7 => ?_)
 ·skip
  replace h7 := of_decide_eq_true h7
  refine xu (t_n (qm (xE (qA ?_))))
  refine sps [.int .i64 (minTo l i), .slice (aa b2 o3) l.length cl, .int .i64 i] ?_
  refine sw (xJ i Tryz.underlying22 ti2 rfl rfl (by omega) (by omega) ?_)
  refine sw (qE (.int .i64 (l[i]!)) Tryz.isAgg2 rfl (H.ja 0 rfl i (by omega) (by omega)) ?_)
  refine sw (o_min (minTo l i) (l[i]!) rfl rfl ?_)
  refine sp (.int .i64 (min (minTo l i) (l[i]!))) ?_
  refine qx (b_n (t_n (qA ?_)))
  refine sp (.int .i64 i) ?_
  refine sw (vg i 1 rfl rfl (by omega) ?_)
  refine sp (.int .i64 (i + 1)) ?_
  refine qx ?_
  refine xH (m' := (l.length - ((i + 1) : Int)).toNat) (by omega) ⟨_, min (minTo l i) (l[i]!), i + 1, (by exact qj (qj (qj (rfl) rfl) rfl) rfl), ?_, ?_, ?_, rfl, N, H⟩
  · exact (minTo_succ (by omega)).symm
  · omega
  · omega
 replace h7 := of_decide_eq_false h7
 refine zU (t_x (t_x (b_x (t_n (qm (qA ?_))))))
 refine sps [.int .i64 (minTo l i), .int .i64 (minTo l i)] ?_
 refine qx (t_n (xB ?_))
 refine ret1 (.int .i64 (minTo l i)) rfl rfl ⟨_, rfl, ?_, H.base⟩
 obtain rfl : i = l.length := by omega
 rfl

theorem implBy_ok (w : World) (s : qY) (t : qU) (counts : List Int) (qw : Option Addr) (qp : Nat) (qP : List Nat) (qG : Option Addr) (qC : Nat) (xC : List Nat) (qO : Option Addr) (qJ : Nat) (xK : List Nat) (xG : Option Addr) (xA : Nat) (zy : List Nat) (qL : Option Addr) (qK : Nat) (xI : List Nat) (acounts : Option Addr) (ccounts : Nat) (Fcounts : List Nat) (xx : qQ.rep w qP [.slice qw s.qf.length qp] s.qf) (xM : qQ.rep w xC [.slice qG s.qg.length qC] s.qg) (zo : qQ.rep w xK [.slice qO t.qh.length qJ] t.qh) (vk : qQ.rep w zy [.slice xG t.qo.length xA] t.qo) (xW : qQ.rep w xI [.slice qL t.ql.length qK] t.ql) (hcounts : qQ.rep w Fcounts [.slice acounts counts.length ccounts] counts) : Calls Tryz.prog 26 #[.agg #[.int .i64 s.qH, .slice qw s.qf.length qp, .slice qG s.qg.length qC], .agg #[.slice qO t.qh.length qJ, .slice xG t.qo.length xA, .slice qL t.ql.length qK], .slice acounts counts.length ccounts] w (Ret (fun v w' => ∃ (ra0Alive : Option Addr) (Xc : Nat) (rc0Alive : Nat) (ra0Bags : Option Addr) (XW : Nat) (rc0Bags : Nat) (rx0Bags : List Value) (rF0Bags : List Nat) (Xq : Option Addr) (QG : Nat) (Xp : Nat), v = .tuple #[.agg #[.slice ra0Alive Xc rc0Alive, .slice ra0Bags XW rc0Bags, .slice Xq QG Xp], .int .i64 ((qF s t counts).2)] ∧ Fresh w.heap.size [rF0Bags] ∧ St w w' [.row (.slice ra0Alive Xc rc0Alive) 4 1 Xc ((((qF s t counts).1).qh).map (Value.bool)), .row (.slice ra0Bags XW rc0Bags) 22 1 XW rx0Bags, .row (.slice Xq QG Xp) 2 1 QG ((((qF s t counts).1).ql).map (Value.int .i64))] [jk true rF0Bags rx0Bags (((qF s t counts).1).qo)]) w) := by
 refine enter (n := 35) Tryz.func26 rfl Tryz.ntmps26 (Nat.le_of_ble_eq_true rfl) ?_
 have H := ((((((St.start w).arg hcounts).arg xW).arg vk).arg zo).arg xM).arg xx
 have vU := qM xx
 have jZ := qM xM
 have QN := qM zo
 have Xt := qM vk
 have Qn := qM xW
 have nhcounts := qM hcounts
 clear xx xM zo vk xW hcounts
 have N := Fresh.nil w.heap.size
 refine qm (qA ?_)
 refine sw (yG H [.int .i64 s.qH, .slice qw s.qf.length qp, .slice qG s.qg.length qC] fun b1 w2 H => ?_)
 refine sw (yG H [.slice qO t.qh.length qJ, .slice xG t.qo.length xA, .slice qL t.ql.length qK] fun b3 w4 H => ?_)
 refine sw (zn H ti38 [.slice none 0 0, .slice none 0 0, .slice none 0 0] fun b5 w6 H => ?_)
 refine sp (.int .i64 0) ?_
 refine qx (t_n (qm (qm (qA ?_))))
 refine sw (zl [.int .i64 s.qH, .slice qw s.qf.length qp, .slice qG s.qg.length qC] Tryz.isAgg36 Tryz.sizeOf36 rfl (qI (H.cells 2 rfl) 0 3) ?_)
 refine sw (zl [.slice qO t.qh.length qJ, .slice xG t.qo.length xA, .slice qL t.ql.length qK] Tryz.isAgg38 Tryz.sizeOf38 rfl (qI (H.cells 1 rfl) 0 3) ?_)
 refine sp (.slice acounts counts.length ccounts) ?_
 refine sw (xe #[.agg #[.int .i64 s.qH, .slice qw s.qf.length qp, .slice qG s.qg.length qC], .agg #[.slice qO t.qh.length qJ, .slice xG t.qo.length xA, .slice qL t.ql.length qK], .slice acounts counts.length ccounts] rfl rfl Tryz.call70 (countsCode_ok w6 s t counts qw qp qP qG qC xC qO qJ xK xG xA zy qL qK xI acounts ccounts Fcounts (H.get 0 rfl).1 (H.get 1 rfl).1 (H.get 2 rfl).1 (H.get 3 rfl).1 (H.get 4 rfl).1 (H.get 5 rfl).1) ?_)
 rintro _ w8 rfl x9
 replace H := H.ext x9
 refine sp (.int .i64 (yu s t counts)) ?_
 refine qx (t_n (qm (qA ?_)))
 refine sps [.int .i64 (yu s t counts), .bool ((yu s t counts : Int) != 0)] ?_
 refine qx (t_n ?_)
 refine qW ((yu s t counts : Int) != 0) rfl (fun h10 => ?_) (fun h10 => ?_)
 ·skip
  replace h10 := bne_iff_ne.1 h10
  refine qm (qA ?_)
  refine sw (jH [.slice none 0 0, .slice none 0 0, .slice none 0 0] [] ?_)
  refine sp (.int .i64 (yu s t counts)) ?_
  refine sw (xU H 0 [.slice none 0 0, .slice none 0 0, .slice none 0 0] Tryz.sizeOf38 fun w11 H => ?_)
  try dsimp only [List.set] at H
  refine sp (.int .i64 (yu s t counts)) ?_
  refine qx (t_n (xB (t_r ?_)))
  replace H := H.nilRowB 4
  replace H := H.nilRow 22 1
  replace H := H.Xo (α := List Int)
  replace H := H.nilRowI 2
  refine retC2 H 3 rfl (.int .i64 (yu s t counts)) rfl Tryz.isAgg38 Tryz.sizeOf38 rfl rfl ⟨_, rfl, ?_, H.base⟩
  rw [by_bad ‹_›]
  exact ⟨none, 0, 0, none, 0, 0, [], [], none, 0, 0, rfl, N.emp, H.pick [2, 1, 0] [0]⟩
 replace h10 := xR h10
 refine xu (t_n (qm (qm (qA ?_))))
 refine sw (zl [.int .i64 s.qH, .slice qw s.qf.length qp, .slice qG s.qg.length qC] Tryz.isAgg36 Tryz.sizeOf36 rfl (qI (H.cells 2 rfl) 0 3) ?_)
 refine sw (zl [.slice qO t.qh.length qJ, .slice xG t.qo.length xA, .slice qL t.ql.length qK] Tryz.isAgg38 Tryz.sizeOf38 rfl (qI (H.cells 1 rfl) 0 3) ?_)
 refine sp (.slice acounts counts.length ccounts) ?_
 obtain ⟨k1, k2, k3⟩ := ask_ok ‹yu s t counts = 0›
 have kn : 1 ≤ QD s := by have := k1.1.1.1; unfold QD; omega
 have k7 := k2.2.1
 have k8 := k1.2.1
 have k9 := k3.1
 have k10 := k1.1.2.1
 have k11 : ji s = s.qf.length := rfl
 refine sw (Qs #[.agg #[.int .i64 s.qH, .slice qw s.qf.length qp, .slice qG s.qg.length qC], .agg #[.slice qO t.qh.length qJ, .slice xG t.qo.length xA, .slice qL t.ql.length qK], .slice acounts counts.length ccounts] rfl rfl Tryz.call71 ?_)
 refine enter (n := 56) Tryz.func71 rfl Tryz.ntmps71 (Nat.le_of_ble_eq_true rfl) ?_
 refine qm (qA ?_)
 refine sw (yG H [.int .i64 s.qH, .slice qw s.qf.length qp, .slice qG s.qg.length qC] fun b12 w13 H => ?_)
 refine sw (yG H [.slice qO t.qh.length qJ, .slice xG t.qo.length xA, .slice qL t.ql.length qK] fun b14 w15 H => ?_)
 refine sps [.slice none 0 0, .bool false] ?_
 refine qx (t_n (qm ?_))
 refine yA rfl H fun H => ?_
 refine rt 0 (pp b14 (0 + 1)) (xF b14 (0) 1 Tryz.underlying38 rfl rfl Tryz.sizeOf27 rfl) H ?_
 refine rt 1 (.slice xG t.qo.length xA) (xw Tryz.isAgg27 rfl (fun _ h => h.cell 0 rfl rfl)) H ?_
 refine rt 3 (.agg #[.int .i64 s.qH, .slice qw s.qf.length qp, .slice qG s.qg.length qC]) (Qm (cs := [.int .i64 s.qH, .slice qw s.qf.length qp, .slice qG s.qg.length qC]) Tryz.isAgg36 Tryz.sizeOf36 rfl (fun _ h => qI (h.cells 1 rfl) 0 3)) H ?_
 refine rt 4 (.agg #[.slice qO t.qh.length qJ, .slice xG t.qo.length xA, .slice qL t.ql.length qK]) (Qm (cs := [.slice qO t.qh.length qJ, .slice xG t.qo.length xA, .slice qL t.ql.length qK]) Tryz.isAgg38 Tryz.sizeOf38 rfl (fun _ h => qI (h.cells 0 rfl) 0 3)) H ?_
 refine xn [2] (by kernel_rfl) (by simp) (xX rfl ?_ xq)
 have sz20 := H.base.size
 refine xe #[.slice xG t.qo.length xA] rfl rfl Tryz.call98 (cloneSS_ok w15.drew t.qo xG xA zy (H.get 3 rfl).1 (by first | assumption | omega)) ?_
 rintro _ w18 ⟨ra17, rn17, rc17, rx17, rF17, rfl, hG22, K⟩ _
 replace H := H.mergeIn K 3 rfl hG22
 dsimp only [List.cons_append, List.nil_append] at H
 obtain rfl := H.zu (α := List Int) 0 rfl 0 rfl (by decide)
 refine ⟨H.pick [1, 2, 3, 4, 5] [1, 2, 3, 4, 5, 6], ?_⟩
 refine xn [5] (by kernel_rfl) (by simp) (xX rfl ?_ xq)
 have sz26 := H.base.size
 refine xe #[.agg #[.int .i64 s.qH, .slice qw s.qf.length qp, .slice qG s.qg.length qC], .agg #[.slice qO t.qh.length qJ, .slice xG t.qo.length xA, .slice qL t.ql.length qK]] rfl rfl Tryz.call65 (applicable_ok w18 s t qw qp qP qG qC xC qO qJ xK xG xA zy qL qK xI (H.get 1 rfl).1 (H.get 2 rfl).1 (H.get 3 rfl).1 (H.get 4 rfl).1 (H.get 5 rfl).1 (by first | assumption | omega) (by first | assumption | omega)) ?_
 rintro _ w24 ⟨ra23, rn23, rc23, rfl, M, K⟩ _
 replace H := H.merge K M
 dsimp only [List.cons_append, List.nil_append] at H
 obtain rfl := H.Xb 0 rfl
 have al : (appls s t).length ≤ s.qg.length := applL_le s t s.qg.length
 refine ⟨H.pick [2, 3, 4, 5, 6] [1, 2, 3, 4, 5, 6], ?_⟩
 have S := H.yw [2, 3, 4, 5, 6] [1, 2, 3, 4, 5, 6]
 refine rtp 6 (.slice ra17 t.qo.length rc17) S ?_
 refine rtp 7 (.slice ra23 ((appls s t).length) rc23) S ?_
 refine xN (by kernel_rfl) (t_n ?_)
 refine qm (qm (qA ?_))
 refine sp (.slice acounts counts.length ccounts) ?_
 refine sw (zZ Tryz.underlying22 acounts counts.length ccounts rfl ?_)
 refine sp (.int .i64 0) ?_
 refine qx (t_n (xE ?_))
 refine zX (fun m' ρ w29 => ∃ (junk : Env) (i : Nat) (rest : List (List Int)) (x_rest : List Value) (F_rest : List Nat), ρ = upd (upd (upd (upd (upd (upd junk 3 (pp b12 0)) 8 (.slice ra17 t.qo.length rc17)) 9 (.slice ra23 ((appls s t).length) rc23)) 19 (.slice acounts counts.length ccounts)) 20 (.int .i64 counts.length)) 21 (.int .i64 i) ∧ rest = zN s t counts i ∧ ((i : Int) ≤ counts.length) ∧ (GoodTo s t counts i) ∧ m' = (counts.length - (i : Int)).toNat ∧ Fresh w.heap.size [] ∧ St w w29 [.row (.slice ra23 ((appls s t).length) rc23) 2 1 ((appls s t).length) ((appls s t).map (Value.int .i64)), .row (.slice ra17 t.qo.length rc17) 22 1 t.qo.length x_rest, .box b14 [.slice qO t.qh.length qJ, .slice xG t.qo.length xA, .slice qL t.ql.length qK] 38, .box b12 [.int .i64 s.qH, .slice qw s.qf.length qp, .slice qG s.qg.length qC] 36, .box b5 [.slice none 0 0, .slice none 0 0, .slice none 0 0] 38, .box b3 [.slice qO t.qh.length qJ, .slice xG t.qo.length xA, .slice qL t.ql.length qK] 38, .box b1 [.int .i64 s.qH, .slice qw s.qf.length qp, .slice qG s.qg.length qC] 36] [jk false F_rest x_rest rest, isF false qP (.slice qw s.qf.length qp) s.qf, isF false xC (.slice qG s.qg.length qC) s.qg, isF false xK (.slice qO t.qh.length qJ) t.qh, isF false zy (.slice xG t.qo.length xA) t.qo, isF false xI (.slice qL t.ql.length qK) t.ql, isF false Fcounts (.slice acounts counts.length ccounts) counts]) ((counts.length - (0 : Int)).toNat) ⟨_, 0, t.qo, rx17, rF17, (by exact qj (qj (qj (qj (qj (qj (rfl) rfl) rfl) rfl) rfl) rfl) rfl), (by rfl), (by omega), (by exact fun j hj => by omega), rfl, N, H⟩ ?_
 clear H N
 rintro m' ρ w30 ⟨junk, i, rest, x_rest, F_rest, rfl, rfl, i0, i1, rfl, N, H⟩
 have hn_rest := H.zu (α := List Int) 1 rfl 0 rfl (by decide)
 have rl := restR_len (s := s) (t := t) (counts := counts) i
 refine qm (qA ?_)
 refine sp (.bool (decide ((i : Int) < counts.length))) ?_
 refine qx (t_n (qm ?_))
 refine qW (decide ((i : Int) < counts.length)) rfl (fun h31 => ?_) (fun h31 => ?_)
 ·skip
  replace h31 := of_decide_eq_true h31
  have q := k1.rule (i := i) (by omega)
  have qc := q.1
  have qk := q.cell
  have b1 := q.2.2.2.2.1
  have p10 := k3.bd (i := i) (by omega)
  refine xu (t_n (qm (xE (qm (qA ?_)))))
  refine sp (.int .i64 i) ?_
  obtain ⟨b32, o33, rfl⟩ := H.addr 6 rfl (by omega)
  refine sw (xJ i Tryz.underlying22 ti2 rfl rfl (by omega) (by omega) ?_)
  refine sw (qE (.int .i64 (counts[i]!)) Tryz.isAgg2 rfl (H.ja 6 rfl i (by omega) (by omega)) ?_)
  refine sps [.int .i64 i, .int .i64 (counts[i]!)] ?_
  refine qx (t_n (qm (qm (qA ?_))))
  refine sps [.int .i64 (counts[i]!), .bool ((counts[i]! : Int) == 0)] ?_
  refine qx (t_n ?_)
  refine qW ((counts[i]! : Int) == 0) rfl (fun h35 => ?_) (fun h35 => ?_)
  ·skip
   replace h35 := eq_of_beq h35
   refine zU (t_x (b_x (t_n (qA ?_))))
   refine sw (vg i 1 rfl rfl (by omega) ?_)
   refine sp (.int .i64 (i + 1)) ?_
   refine qx ?_
   refine xH (m' := (counts.length - ((i + 1) : Int)).toNat) (by omega) ⟨_, i + 1, (zN s t counts i), x_rest, F_rest, (by exact qj (qj (qj (qj (qj (qj (rfl) rfl) rfl) rfl) rfl) rfl) rfl), ?_, ?_, ?_, rfl, N, H⟩
   · first | rfl | exact (restR_skip k1 k2 (by omega) ‹_›).symm
   · omega
   · exact i1.succ (fun h => by obtain ⟨u, v⟩ := h; first | omega | exact v ((mem_appls (by omega)).1 ‹_›))
  replace h35 := ne_of_beq_false h35
  refine xu (t_n (qm (qm (qA ?_))))
  refine sps [.slice ra23 ((appls s t).length) rc23, .int .i64 i] ?_
  obtain ⟨G36, hn37, h38⟩ := H.Xd 0 rfl
  refine sw (xe #[.slice ra23 ((appls s t).length) rc23, .int .i64 i] rfl rfl Tryz.call64 (containsI_ok w30 (appls s t) i ra23 rc23 G36 h38) ?_)
  rintro _ w40 rfl x41
  replace H := H.ext x41
  refine sp (.bool (!(dec ((i : Int) ∈ (appls s t))))) ?_
  refine qx (t_n ?_)
  refine qW (!(dec ((i : Int) ∈ (appls s t)))) rfl (fun h42 => ?_) (fun h42 => ?_)
  ·skip
   replace h42 := xg h42
   replace h42 := zi h42
   refine qm (qA ?_)
   refine sps [.slice none 0 0, .bool false] ?_
   refine qx (t_n (xB (t_r (b_r (t_r (t_r (b_r (t_r ?_))))))))
   refine ret2 (.slice none 0 0) (.bool false) rfl rfl rfl ⟨_, rfl, ?_⟩
   replace H := H.erases [3, 2, 1, 0]
   dsimp only [yJ, List.eraseIdx] at H
   refine sps [.tuple #[.slice none 0 0, .bool false], .slice none 0 0, .bool false, .slice none 0 0, .bool false] ?_
   refine qx (t_n (qm (qA ?_)))
   refine sps [.bool false, .bool true] ?_
   refine qx (t_n ?_)
   refine qW true rfl (fun _ => ?_) (fun h => absurd h (by decide))
   refine qm (qA ?_)
   refine sw (jH [.slice none 0 0, .slice none 0 0, .slice none 0 0] [] ?_)
   refine sw (xU H 0 [.slice none 0 0, .slice none 0 0, .slice none 0 0] Tryz.sizeOf38 fun w43 H => ?_)
   try dsimp only [List.set] at H
   refine sp (.int .i64 4) ?_
   refine qx (t_n (xB (t_r ?_)))
   replace H := H.nilRowB 4
   replace H := H.nilRow 22 1
   replace H := H.Xo (α := List Int)
   replace H := H.nilRowI 2
   refine retC2 H 3 rfl (.int .i64 4) rfl Tryz.isAgg38 Tryz.sizeOf38 rfl rfl ⟨_, rfl, ?_, H.base⟩
   rw [by_ok ‹_›, stepBy_no (fun h => by first | exact h.1 i (by omega) ⟨by omega, fun a => ‹¬ (i : Int) ∈ appls s t› ((mem_appls (by omega)).2 a)⟩ | (have e : i = counts.length := (by omega); have h2 := h.2; rw [← e] at h2; exact (minL_neg (by omega)).1 ‹minL ((zN s t counts i)[i_1]!) < 0› (h2 i_1 (by omega))))]
   exact ⟨none, 0, 0, none, 0, 0, [], [], none, 0, 0, rfl, N.emp, H.pick [2, 1, 0] [0]⟩
  replace h42 := qX h42
  replace h42 := jI h42
  refine xu (t_n (qm (qA ?_)))
  refine sw (qN b12 (0) 2 Tryz.underlying36 rfl rfl Tryz.sizeOf34 rfl ?_)
  refine sw (qE (.slice qG s.qg.length qC) Tryz.isAgg34 rfl (H.cell 3 rfl rfl) ?_)
  refine sp (.int .i64 i) ?_
  obtain ⟨b44, o45, rfl⟩ := H.addr 2 rfl (by omega)
  obtain ⟨yN, yK, Fe47Need, QX, QV, Fe47Have, QW, QU, Fe47Lack, Qk, Qj, Fe47Here, Qq, Qp, Fe47Out, yO, yL, Fe47Into, H⟩ := H.yI 2 rfl i i (by omega) (by omega) (by omega)
  refine sw (xJ i Tryz.underlying34 ti110 rfl rfl (by omega) (by omega) ?_)
  refine sw (zl [.int .i64 ((s.qg[i]!).qy), .int .i64 ((s.qg[i]!).xZ), .slice yN (((s.qg[i]!).qV).length) yK, .slice QX (((s.qg[i]!).xh).length) QV, .slice QW (((s.qg[i]!).xk).length) QU, .slice Qk (((s.qg[i]!).xm).length) Qj, .slice Qq (((s.qg[i]!).zg).length) Qp, .slice yO (((s.qg[i]!).qB).length) yL, .bool ((s.qg[i]!).xO)] Tryz.isAgg110 Tryz.sizeOf110 rfl (qI (H.get 6 rfl) 0 9) ?_)
  refine sw (zn H ti110 [.int .i64 0, .int .i64 0, .slice none 0 0, .slice none 0 0, .slice none 0 0, .slice none 0 0, .slice none 0 0, .slice none 0 0, .bool false] fun b48 w49 H => ?_)
  refine sw (xU H 0 [.int .i64 ((s.qg[i]!).qy), .int .i64 ((s.qg[i]!).xZ), .slice yN (((s.qg[i]!).qV).length) yK, .slice QX (((s.qg[i]!).xh).length) QV, .slice QW (((s.qg[i]!).xk).length) QU, .slice Qk (((s.qg[i]!).xm).length) Qj, .slice Qq (((s.qg[i]!).zg).length) Qp, .slice yO (((s.qg[i]!).qB).length) yL, .bool ((s.qg[i]!).xO)] Tryz.sizeOf110 fun w50 H => ?_)
  try dsimp only [List.set] at H
  refine qx (t_n ?_)
  refine yS rfl H [0, 1, 3, 4, 5, 6, 7] fun H => ?_
  have S := H.yw [0, 1, 3, 4, 5, 6, 7] [0, 1, 2, 3, 4, 5, 6, 7, 8, 9, 10, 11, 12, 13]
  refine rtp 0 (.slice ra17 t.qo.length rc17) S ?_
  refine rt 1 (pp b48 (0 + 0)) (xF b48 (0) 0 Tryz.underlying110 rfl rfl Tryz.sizeOf2 rfl) S ?_
  refine rt 2 (.int .i64 ((s.qg[i]!).qy)) (xw Tryz.isAgg2 rfl (fun _ h => h.cell 0 rfl rfl)) S ?_
  refine rtp 3 (.slice ra17 t.qo.length rc17) S ?_
  refine rt 4 (pp b48 (0 + 0)) (xF b48 (0) 0 Tryz.underlying110 rfl rfl Tryz.sizeOf2 rfl) S ?_
  refine rt 5 (.int .i64 ((s.qg[i]!).qy)) (xw Tryz.isAgg2 rfl (fun _ h => h.cell 0 rfl rfl)) S ?_
  obtain ⟨b52, rfl⟩ := H.rowAddr 2 rfl (by omega)
  have S := H.yw [0, 1, 3, 4, 5, 6, 7] [0, 1, 2, 3, 4, 5, 6, 7, 8, 9, 10, 11, 12, 13]
  refine rt 6 (pp b52 (0 + ((s.qg[i]!).qy : Int).toNat * 1)) (xQ b52 (0) t.qo.length rc17 ((s.qg[i]!).qy) Tryz.underlying27 ti22 rfl rfl (by omega) (by omega)) S ?_
  refine rt 8 (pp b48 (0 + 2)) (xF b48 (0) 2 Tryz.underlying110 rfl rfl Tryz.sizeOf22 rfl) S ?_
  refine rt 9 (.slice yN (((s.qg[i]!).qV).length) yK) (xw Tryz.isAgg22 rfl (fun _ h => h.cell 0 rfl rfl)) S ?_
  refine rtp 10 (.int .i64 (counts[i]!)) S ?_
  refine rt 11 (.int .i64 (-(counts[i]!))) (y_neg (counts[i]!) rfl (by omega)) S ?_
  refine xn [7] (by kernel_rfl) (by simp) (xX rfl ?_ xq)
  obtain ⟨a53, c54, G55, s56, h57, H⟩ := H.jE 2 rfl 7 rfl (iv := (s.qg[i]!).qy) (((s.qg[i]!).qy).toNat) (by omega) (by omega)
  refine qE (.slice a53 (((zN s t counts i)[((s.qg[i]!).qy).toNat]!).length) c54) Tryz.isAgg22 rfl (h57) ?_
  refine ⟨H.pick [0, 1, 3, 4, 5, 6, 7] [1, 2, 3, 4, 5, 6, 7, 8, 9, 10, 11, 12, 13, 14], ?_⟩
  refine xn [12] (by kernel_rfl) (by simp) (xX rfl ?_ xq)
  obtain ⟨u1, u2⟩ := restR_row (c := (s.qg[i]!).qy.toNat) k1 k2 k3 (show i ≤ _ by omega) qk
  have u3 := b1.len
  have u4 := b1.yj (t := -(counts[i]!)) (by omega)
  have sz58 := H.base.size
  refine xe #[.slice a53 (((zN s t counts i)[((s.qg[i]!).qy).toNat]!).length) c54, .slice yN (((s.qg[i]!).qV).length) yK, .int .i64 (-(counts[i]!))] rfl rfl Tryz.call100 (plus_ok w50.drew ((zN s t counts i)[((s.qg[i]!).qy).toNat]!) ((s.qg[i]!).qV) (-(counts[i]!)) a53 c54 G55 yN yK Fe47Need (H.get 0 rfl).1 (H.get 1 rfl).1 (by first | assumption | omega) (by first | assumption | omega) (by first | assumption | omega)) ?_
  rintro v63 w61 r63 x62
  replace H := H.zf x62 r63
  obtain ⟨a64, c65, rfl, hc66, hm67⟩ := H.jd 0 rfl
  refine ⟨H.pick [1, 2, 4, 5, 6, 7, 8] [1, 2, 3, 4, 5, 6, 7, 8, 9, 10, 11, 12, 13, 14], ?_⟩
  refine rt 13 (pp b52 (0 + ((s.qg[i]!).qy : Int).toNat * 1)) (xQ b52 (0) t.qo.length rc17 ((s.qg[i]!).qy) Tryz.underlying27 ti22 rfl rfl (by omega) (by omega)) (H.pick [1, 2, 4, 5, 6, 7, 8] [1, 2, 3, 4, 5, 6, 7, 8, 9, 10, 11, 12, 13, 14]) ?_
  refine xn [14] (by kernel_rfl) (by simp) (xX rfl ?_ xq)
  obtain ⟨G69, N, hn70, H⟩ := H.yH 0 rfl N (H.XR [])
  try dsimp only [List.set] at H
  refine jw false H 3 rfl 9 rfl (.slice a64 ((yl ((zN s t counts i)[((s.qg[i]!).qy).toNat]!) ((s.qg[i]!).qV) (-(counts[i]!))).length) c65) 0 rfl rfl Tryz.sizeOf22 rfl rfl (i := (((s.qg[i]!).qy).toNat)) (by omega) (by omega) (by simp) fun w68 xs71 F72 hs73 H => ?_
  try dsimp only [List.set] at H
  refine ⟨H.pick [1, 2, 4, 5, 6, 7, 8] [3, 4, 5, 6, 7, 8, 9, 10, 11, 12, 13, 14, 15, 16], ?_⟩
  refine xN (by kernel_rfl) (b_n (t_n ?_))
  refine qA ?_
  refine sw (vg i 1 rfl rfl (by omega) ?_)
  refine sp (.int .i64 (i + 1)) ?_
  refine qx ?_
  refine xH (m' := (counts.length - ((i + 1) : Int)).toNat) (by omega) ⟨_, i + 1, ((zN s t counts i).set (((s.qg[i]!).qy).toNat) (yl ((zN s t counts i)[((s.qg[i]!).qy).toNat]!) ((s.qg[i]!).qV) (-(counts[i]!)))), xs71, F72, (by exact qj (qj (qj (qj (qj (qj (rfl) rfl) rfl) rfl) rfl) rfl) rfl), ?_, ?_, ?_, rfl, (N.pick []), H.pick [2, 3, 4, 5, 6, 7, 8] [0, 11, 12, 13, 14, 15, 16]⟩
  · first | rfl | exact (restR_skip k1 k2 (by omega) ‹_›).symm
  · omega
  · exact i1.succ (fun h => by obtain ⟨u, v⟩ := h; first | omega | exact v ((mem_appls (by omega)).1 ‹_›))
 replace h31 := of_decide_eq_false h31
 refine zU (t_x (t_x (b_x (t_n (qm (qA ?_))))))
 refine sps [.slice ra17 t.qo.length rc17, .slice ra17 t.qo.length rc17] ?_
 refine sw (Qs #[.slice ra17 t.qo.length rc17, .func (.func 118) #[] #[]] rfl rfl Tryz.call101 ?_)
 refine enter (n := 9) Tryz.func101 rfl Tryz.ntmps101 (Nat.le_of_ble_eq_true rfl) ?_
 refine qm (qA ?_)
 refine sp (.bool false) ?_
 refine qx (t_n (qm (qA ?_)))
 refine sps [.slice ra17 t.qo.length rc17, .func (.func 118) #[] #[]] ?_
 refine sw (Qs #[.slice ra17 t.qo.length rc17, .func (.func 118) #[] #[]] rfl rfl Tryz.call147 ?_)
 refine enter (n := 19) Tryz.func147 rfl Tryz.ntmps147 (Nat.le_of_ble_eq_true rfl) ?_
 refine qm (qA ?_)
 refine sp (.int .i64 0) ?_
 refine qx (t_n (qm (qm (qA ?_))))
 refine sp (.slice ra17 t.qo.length rc17) ?_
 refine sw (zZ Tryz.underlying27 ra17 t.qo.length rc17 rfl ?_)
 refine sp (.int .i64 0) ?_
 refine qx (t_n (xE ?_))
 refine zX (fun m' ρ w74 => ∃ (junk : Env) (i_1 : Nat), ρ = upd (upd (upd (upd junk 0 (.slice ra17 t.qo.length rc17)) 1 (.func (.func 118) #[] #[])) 7 (.int .i64 t.qo.length)) 8 (.int .i64 i_1) ∧ ((i_1 : Int) ≤ t.qo.length) ∧ (NonNeg (zN s t counts i) i_1) ∧ m' = (t.qo.length - (i_1 : Int)).toNat ∧ Fresh w.heap.size [] ∧ St w w74 [.row (.slice ra23 ((appls s t).length) rc23) 2 1 ((appls s t).length) ((appls s t).map (Value.int .i64)), .row (.slice ra17 t.qo.length rc17) 22 1 t.qo.length x_rest, .box b14 [.slice qO t.qh.length qJ, .slice xG t.qo.length xA, .slice qL t.ql.length qK] 38, .box b12 [.int .i64 s.qH, .slice qw s.qf.length qp, .slice qG s.qg.length qC] 36, .box b5 [.slice none 0 0, .slice none 0 0, .slice none 0 0] 38, .box b3 [.slice qO t.qh.length qJ, .slice xG t.qo.length xA, .slice qL t.ql.length qK] 38, .box b1 [.int .i64 s.qH, .slice qw s.qf.length qp, .slice qG s.qg.length qC] 36] [jk false F_rest x_rest (zN s t counts i), isF false qP (.slice qw s.qf.length qp) s.qf, isF false xC (.slice qG s.qg.length qC) s.qg, isF false xK (.slice qO t.qh.length qJ) t.qh, isF false zy (.slice xG t.qo.length xA) t.qo, isF false xI (.slice qL t.ql.length qK) t.ql, isF false Fcounts (.slice acounts counts.length ccounts) counts]) ((t.qo.length - (0 : Int)).toNat) ⟨_, 0, (by exact qj (qj (qj (qj (rfl) rfl) rfl) rfl) rfl), (by omega), (by exact fun j hj => by omega), rfl, N, H⟩ ?_
 clear H N
 rintro m' ρ w75 ⟨junk, i_1, rfl, i0, i2, rfl, N, H⟩
 refine qm (qA ?_)
 refine sp (.bool (decide ((i_1 : Int) < t.qo.length))) ?_
 refine qx (t_n (qm ?_))
 refine qW (decide ((i_1 : Int) < t.qo.length)) rfl (fun h76 => ?_) (fun h76 => ?_)
 ·skip
  replace h76 := of_decide_eq_true h76
  refine xu (t_n (qm (xE (qm (qA ?_)))))
  refine sps [.int .i64 i_1, .int .i64 i_1] ?_
  refine qx (t_n (qm (qA ?_)))
  refine sps [.func (.func 118) #[] #[], .slice ra17 t.qo.length rc17, .int .i64 i_1] ?_
  obtain ⟨b77, rfl⟩ := H.rowAddr 1 rfl (by omega)
  refine sw (xJ i_1 Tryz.underlying27 ti22 rfl rfl (by omega) (by omega) ?_)
  obtain ⟨a78, c79, G80, s81, h82, H⟩ := H.jE 1 rfl 0 rfl (iv := i_1) i_1 (by omega) (by omega)
  refine sw (qE (.slice a78 (((zN s t counts i)[i_1]!).length) c79) Tryz.isAgg22 rfl (h82) ?_)
  refine sw (Qs #[.slice a78 (((zN s t counts i)[i_1]!).length) c79] rfl rfl Tryz.call118 ?_)
  refine enter (n := 6) Tryz.func118 rfl Tryz.ntmps118 (Nat.le_of_ble_eq_true rfl) ?_
  refine qm (qA ?_)
  refine sp (.bool false) ?_
  refine qx (t_n (qm (qA ?_)))
  refine sp (.slice a78 (((zN s t counts i)[i_1]!).length) c79) ?_
  obtain ⟨u1, u2⟩ := restR_row (c := i_1) k1 k2 k3 (show i ≤ _ by omega) (by omega)
  refine sw (xe #[.slice a78 (((zN s t counts i)[i_1]!).length) c79] rfl rfl Tryz.call119 (minI_ok w75 ((zN s t counts i)[i_1]!) a78 c79 G80 (H.get 0 rfl).1 (by first | assumption | omega)) ?_)
  rintro _ w84 rfl x85
  replace H := H.ext x85
  refine sps [.bool (decide ((minL ((zN s t counts i)[i_1]!) : Int) < 0)), .bool (decide ((minL ((zN s t counts i)[i_1]!) : Int) < 0))] ?_
  refine qx (t_n (xB ?_))
  refine ret1 (.bool (decide ((minL ((zN s t counts i)[i_1]!) : Int) < 0))) rfl rfl ⟨_, rfl, ?_⟩
  refine qx (t_n ?_)
  refine qW (decide ((minL ((zN s t counts i)[i_1]!) : Int) < 0)) rfl (fun h86 => ?_) (fun h86 => ?_)
  ·skip
   replace h86 := of_decide_eq_true h86
   refine qm (qA ?_)
   refine sps [.int .i64 i_1, .int .i64 i_1] ?_
   refine qx (t_n (xB (b_r (t_r (t_r (b_r (t_r ?_)))))))
   refine ret1 (.int .i64 i_1) rfl rfl ⟨_, rfl, ?_⟩
   refine sw (o_pure (.bool true) (by show some (Value.bool (decide ((i_1 : Int) ≥ 0))) = some (Value.bool true); rw [decide_eq_true (by omega)]) ?_)
   refine sp (.bool true) ?_
   refine qx (t_n (xB ?_))
   refine ret1 (.bool true) rfl rfl ⟨_, rfl, ?_⟩
   refine sps [.bool false, .slice (aa b77 0) t.qo.length rc17, .bool false] ?_
   refine qx (t_n (xB ?_))
   refine ret2 (.slice (aa b77 0) t.qo.length rc17) (.bool false) rfl rfl rfl ⟨_, rfl, ?_⟩
   replace H := H.erases [3, 2, 0]
   dsimp only [yJ, List.eraseIdx] at H
   refine sps [.tuple #[.slice (aa b77 0) t.qo.length rc17, .bool false], .slice (aa b77 0) t.qo.length rc17, .bool false, .slice (aa b77 0) t.qo.length rc17, .bool false] ?_
   refine qx (t_n (qm (qA ?_)))
   refine sps [.bool false, .bool true] ?_
   refine qx (t_n ?_)
   refine qW true rfl (fun _ => ?_) (fun h => absurd h (by decide))
   refine qm (qA ?_)
   refine sw (jH [.slice none 0 0, .slice none 0 0, .slice none 0 0] [] ?_)
   refine sw (xU H 1 [.slice none 0 0, .slice none 0 0, .slice none 0 0] Tryz.sizeOf38 fun w87 H => ?_)
   try dsimp only [List.set] at H
   refine sp (.int .i64 4) ?_
   refine qx (t_n (xB (t_r ?_)))
   replace H := H.nilRowB 4
   replace H := H.nilRow 22 1
   replace H := H.Xo (α := List Int)
   replace H := H.nilRowI 2
   refine retC2 H 4 rfl (.int .i64 4) rfl Tryz.isAgg38 Tryz.sizeOf38 rfl rfl ⟨_, rfl, ?_, H.base⟩
   rw [by_ok ‹_›, stepBy_no (fun h => by first | exact h.1 i (by omega) ⟨by omega, fun a => ‹¬ (i : Int) ∈ appls s t› ((mem_appls (by omega)).2 a)⟩ | (have e : i = counts.length := (by omega); have h2 := h.2; rw [← e] at h2; exact (minL_neg (by omega)).1 ‹minL ((zN s t counts i)[i_1]!) < 0› (h2 i_1 (by omega))))]
   exact ⟨none, 0, 0, none, 0, 0, [], [], none, 0, 0, rfl, N.emp, H.pick [2, 1, 0] [0]⟩
  replace h86 := of_decide_eq_false h86
  refine xu (b_n (t_n (qA ?_)))
  refine sw (vg i_1 1 rfl rfl (by omega) ?_)
  refine sp (.int .i64 (i_1 + 1)) ?_
  refine qx ?_
  refine xH (m' := (t.qo.length - ((i_1 + 1) : Int)).toNat) (by omega) ⟨_, i_1 + 1, (by exact qj (qj (qj (qj (rfl) rfl) rfl) rfl) rfl), ?_, ?_, rfl, N, H.pick [0, 1, 2, 3, 4, 5, 6] [1, 2, 3, 4, 5, 6, 7]⟩
  · omega
  · exact i2.succ (Classical.byContradiction fun h => ‹¬ minL ((zN s t counts i)[i_1]!) < 0› ((minL_neg (by omega)).2 h))
 replace h76 := of_decide_eq_false h76
 refine zU (t_x (t_x (b_x (t_n (qm (qA ?_))))))
 refine sp (.int .i64 (-1)) ?_
 refine qx (t_n (xB ?_))
 refine ret1 (.int .i64 (-1)) rfl rfl ⟨_, rfl, ?_⟩
 refine sps [.bool false, .bool false] ?_
 refine qx (t_n (xB ?_))
 refine ret1 (.bool false) rfl rfl ⟨_, rfl, ?_⟩
 refine sps [.bool true, .slice ra17 t.qo.length rc17, .bool true] ?_
 refine qx (t_n (xB ?_))
 refine ret2 (.slice ra17 t.qo.length rc17) (.bool true) rfl rfl rfl ⟨_, rfl, ?_⟩
 replace H := H.erases [3, 2, 0]
 dsimp only [yJ, List.eraseIdx] at H
 refine sps [.tuple #[.slice ra17 t.qo.length rc17, .bool true], .slice ra17 t.qo.length rc17, .bool true, .slice ra17 t.qo.length rc17, .bool true] ?_
 refine qx (t_n (qm (qA ?_)))
 refine sps [.bool true, .bool false] ?_
 refine qx (t_n ?_)
 refine qW false rfl (fun h => absurd h (by decide)) (fun _ => ?_)
 refine xu (t_n (qm (qA ?_)))
 refine sw (zl [.int .i64 s.qH, .slice qw s.qf.length qp, .slice qG s.qg.length qC] Tryz.isAgg36 Tryz.sizeOf36 rfl (qI (H.cells 3 rfl) 0 3) ?_)
 refine sw (zl [.slice qO t.qh.length qJ, .slice xG t.qo.length xA, .slice qL t.ql.length qK] Tryz.isAgg38 Tryz.sizeOf38 rfl (qI (H.cells 2 rfl) 0 3) ?_)
 refine sp (.slice acounts counts.length ccounts) ?_
 have k5 : IsCh s t counts := ⟨fun j hj => i1 j (by omega), by have e : i = counts.length := (by omega); rw [← e]; exact fun p hp => i2 p (by omega)⟩
 have sz91 := H.base.size
 refine sw (xe #[.agg #[.int .i64 s.qH, .slice qw s.qf.length qp, .slice qG s.qg.length qC], .agg #[.slice qO t.qh.length qJ, .slice xG t.qo.length xA, .slice qL t.ql.length qK], .slice acounts counts.length ccounts] rfl rfl Tryz.call66 (step_ok w75 s t counts qw qp qP qG qC xC qO qJ xK xG xA zy qL qK xI acounts ccounts Fcounts (H.get 1 rfl).1 (H.get 2 rfl).1 (H.get 3 rfl).1 (H.get 4 rfl).1 (H.get 5 rfl).1 (H.get 6 rfl).1 (by first | assumption | omega) (by first | assumption | omega) (by first | assumption | omega) (by first | assumption | omega)) ?_)
 rintro _ w89 ⟨ra88aAlive, rn88aAlive, rc88aAlive, ra88aBags, rn88aBags, rc88aBags, rx88aBags, rF88aBags, ra88aAround, rn88aAround, rc88aAround, rfl, M, K⟩ _
 replace N := N.merge sz91 (by simp) M
 replace H := H.merge K M
 dsimp only [List.cons_append, List.nil_append] at H
 obtain rfl := H.QQ 0 rfl
 obtain rfl := H.zu (α := List Int) 1 rfl 0 rfl (by decide)
 obtain rfl := H.Xb 2 rfl
 refine sps [.agg #[.slice ra88aAlive ((((yD s t counts).1).qh).length) rc88aAlive, .slice ra88aBags ((((yD s t counts).1).qo).length) rc88aBags, .slice ra88aAround ((((yD s t counts).1).ql).length) rc88aAround], .int .i64 ((yD s t counts).2)] ?_
 refine sw (xU H 4 [.slice ra88aAlive ((((yD s t counts).1).qh).length) rc88aAlive, .slice ra88aBags ((((yD s t counts).1).qo).length) rc88aBags, .slice ra88aAround ((((yD s t counts).1).ql).length) rc88aAround] Tryz.sizeOf38 fun w96 H => ?_)
 try dsimp only [List.set] at H
 refine sp (.int .i64 ((yD s t counts).2)) ?_
 refine qx (t_n (xB ?_))
 refine retC2 H 4 rfl (.int .i64 ((yD s t counts).2)) rfl Tryz.isAgg38 Tryz.sizeOf38 rfl rfl ⟨_, rfl, ?_, H.base⟩
 rw [by_ok ‹_›]
 exact ⟨ra88aAlive, (((yD s t counts).1).qh).length, rc88aAlive, ra88aBags, (((yD s t counts).1).qo).length, rc88aBags, rx88aBags, rF88aBags, ra88aAround, (((yD s t counts).1).ql).length, rc88aAround, rfl, N, H.pick [0, 1, 2] [0]⟩

end Go.Proofs.YtkmlihdacnfhdaaGreat
