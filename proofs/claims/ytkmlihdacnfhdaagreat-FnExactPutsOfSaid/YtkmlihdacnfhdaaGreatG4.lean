/- Walks, printed by program (wip/tools/gv.py): what each function comes to, for all arguments. -/
import Derived.Test.YtkmlihdacnfhdaaGreatG3
import Derived.Test.YtkmlihdacnfhdaaGreatP1
namespace Go.Proofs.YtkmlihdacnfhdaaGreat
open Go.Proofs.YtkmlihdacnfhdaaGreat.Tot (tot)
open Go.Proofs.YtkmlihdacnfhdaaGreat.Mark (cnt mrk mkd mkd_mark cnt_mark)
open Go.RowKit
set_option linter.unusedVariables false
set_option linter.unusedSimpArgs false
set_option maxRecDepth 100000
set_option maxHeartbeats 4000000



theorem l01Bag_ok (w : World) (l : List Int) (al : Option Addr) (cl : Nat) (Fl : List Nat) (hl : qM.rep w Fl [.slice al l.length cl] l) : Calls Tryz.prog 89 #[.slice al l.length cl] w (Ret (fun v w' => v = .bool (dec (BagAny l))) w) := by
 refine enter (n := 19) Tryz.func89 rfl Tryz.ntmps89 (Nat.le_of_ble_eq_true rfl) ?_
 have H := (St.start w).arg hl
 have nhl := qJ hl
 clear hl
 refine qh (qp ?_)
 refine sp (.bool false) ?_
 refine qo (t_n (qh (qh (qp ?_))))
 refine sp (.int .i64 0) ?_
 refine qo (t_n (xn ?_))
 refine zC (fun m' ρ w1 => ∃ (junk : Env) (k : Nat), ρ = upd (upd junk 0 (.slice al l.length cl)) 3 (.int .i64 k) ∧ (k ≤ l.length) ∧ (Counts l k) ∧ m' = l.length - k ∧ St w w1 [] [isF false Fl (.slice al l.length cl) l]) (l.length - 0) ⟨_, 0, (by exact qj (qj (rfl) rfl) rfl), (by omega), (by exact Counts.zero l), rfl, H⟩ ?_
 clear H
 rintro m' ρ w2 ⟨junk, k, rfl, i0, i1, rfl, H⟩
 refine qh (qh (qp ?_))
 refine sps [.int .i64 k, .slice al l.length cl] ?_
 refine sw (zK Tryz.underlying22 al l.length cl rfl ?_)
 refine sp (.bool (decide ((k : Int) < l.length))) ?_
 refine qo (t_n ?_)
 refine qP (decide ((k : Int) < l.length)) rfl (fun h3 => ?_) (fun h3 => ?_)
 ·skip
  replace h3 := of_decide_eq_true h3
  refine xg (t_n (qh (xn (qh (qp ?_)))))
  refine sps [.slice al l.length cl, .int .i64 k] ?_
  obtain ⟨b4, o5, rfl⟩ := H.addr 0 rfl (by omega)
  refine sw (xE k Tryz.underlying22 ti2 rfl rfl (by omega) (by omega) ?_)
  refine sw (qC (.int .i64 (l[k]!)) Tryz.isAgg2 rfl (H.vH 0 rfl k (by omega) (by omega)) ?_)
  refine sw (xm #[.int .i64 (l[k]!), .int .i64 0, .int .i64 1000] rfl rfl Tryz.call44 (l00In_ok w2 (l[k]!) 0 1000) ?_)
  rintro _ w6 rfl x7
  replace H := H.ext x7
  refine sp (.bool (!(inR (l[k]!) 0 1000))) ?_
  refine qo (t_n ?_)
  refine qP (!(inR (l[k]!) 0 1000)) rfl (fun h8 => ?_) (fun h8 => ?_)
  ·skip
   replace h8 := qQ h8
   replace h8 := Qx h8
   refine qh (qp ?_)
   refine sp (.bool false) ?_
   refine qo (t_n (xh (b_r (t_r (t_r (b_r (t_r ?_)))))))
   refine ret1 (.bool false) rfl rfl ⟨_, rfl, ?_, H.base⟩
   rw [xf (fun h => ‹¬ (0 ≤ l[k]! ∧ l[k]! ≤ 1000)› (h.1 k (by omega)))]
  replace h8 := qN h8
  replace h8 := yZ.1 h8
  refine xg (b_n (t_n (qp ?_)))
  refine sp (.int .i64 k) ?_
  refine sw (zD k 1 rfl rfl (by omega) ?_)
  refine sp (.int .i64 (k + 1)) ?_
  refine qo ?_
  refine xy (m' := l.length - (k + 1)) (by omega) ⟨_, k + 1, (by exact qj (qj (rfl) rfl) rfl), ?_, ?_, rfl, H⟩
  · omega
  · exact i1.succ ‹_›
 replace h3 := of_decide_eq_false h3
 refine zx (t_x (t_x (b_x (t_n (qh (qp ?_))))))
 refine sp (.slice al l.length cl) ?_
 refine sw (zK Tryz.underlying22 al l.length cl rfl ?_)
 refine sw (xm #[.int .i64 l.length, .int .i64 1, .int .i64 8] rfl rfl Tryz.call44 (l00In_ok w2 l.length 1 8) ?_)
 rintro _ w9 rfl x10
 replace H := H.ext x10
 refine sp (.bool (inR l.length 1 8)) ?_
 refine qo (t_n (xh ?_))
 refine ret1 (.bool (inR l.length 1 8)) rfl rfl ⟨_, rfl, ?_, H.base⟩
 obtain rfl : k = l.length := by omega
 refine congrArg Value.bool (dec_eq ?_)
 rw [yZ]
 exact ⟨fun h => ⟨i1, by omega, by omega⟩, fun h => by have := h.2; omega⟩

theorem yT (w : World) (s : qR) (b : List Int) (bs os : Nat) (qm : Option Addr) (ql : Nat) (qL : List Nat) (qE : Option Addr) (qA : Nat) (xk : List Nat) (ab : Option Addr) (cb : Nat) (Fb : List Nat) (hs : vg w bs os [.int .i64 s.qF, .slice qm s.qg.length ql, .slice qE s.qf.length qA]) (qY : qM.rep w qL [.slice qm s.qg.length ql] s.qg) (xA : qM.rep w xk [.slice qE s.qf.length qA] s.qf) (hb : qM.rep w Fb [.slice ab b.length cb] b) : Calls Tryz.prog 136 #[pp bs os, .slice ab b.length cb] w (Ret (fun v w' => v = .bool (dec (zi s.qF b))) w) := by
 refine enter (n := 16) Tryz.func136 rfl Tryz.ntmps136 (Nat.le_of_ble_eq_true rfl) ?_
 have H := ((((St.start w).arg hb).arg xA).arg qY).argAt hs
 have zH := qJ qY
 have vN := qJ xA
 have nhb := qJ hb
 clear hs qY xA hb
 refine qh (qp ?_)
 refine sp (.bool false) ?_
 refine qo (t_n (qh (qp ?_)))
 refine sp (.slice ab b.length cb) ?_
 refine sw (xm #[.slice ab b.length cb] rfl rfl Tryz.call89 (l01Bag_ok w b ab cb Fb (H.get 3 rfl).1) ?_)
 rintro _ w1 rfl x2
 replace H := H.ext x2
 refine sp (.bool (dec (BagAny b))) ?_
 cases h3 : (dec (BagAny b))
 ·skip
  replace h3 := xP h3
  refine xN [8, 9, 10, 11, 12, 13, 14] ?_
  refine sps [.bool false, .bool false] ?_
  refine qo (t_n (xh ?_))
  refine ret1 (.bool false) rfl rfl ⟨_, rfl, ?_, H.base⟩
  rw [xf (fun h => ‹¬ BagAny b› h.1)]
 replace h3 := vT h3
 refine qO 7 rfl rfl ?_
 refine sp (.slice ab b.length cb) ?_
 refine qO 7 rfl rfl ?_
 refine sw (zK Tryz.underlying22 ab b.length cb rfl ?_)
 refine qO 7 rfl rfl ?_
 refine sp (pp bs os) ?_
 refine qO 7 rfl rfl ?_
 refine sp (pp bs os) ?_
 refine qO 7 rfl rfl ?_
 refine sw (qH bs (os) 0 Tryz.underlying36 rfl rfl Tryz.sizeOf2 rfl ?_)
 refine qO 7 rfl rfl ?_
 refine sw (qC (.int .i64 s.qF) Tryz.isAgg2 rfl (H.xU 0 rfl 0 rfl) ?_)
 refine qO 7 rfl rfl ?_
 refine sps [.bool ((b.length : Int) == s.qF), .bool ((b.length : Int) == s.qF), .bool ((b.length : Int) == s.qF)] ?_
 refine qo (t_n (xh ?_))
 refine ret1 (.bool ((b.length : Int) == s.qF)) rfl rfl ⟨_, rfl, ?_, H.base⟩
 refine congrArg Value.bool (dec_eq ?_)
 rw [beq_iff_eq]
 exact ⟨fun h => ⟨‹_›, h⟩, fun h => h.2⟩

theorem l02Frame_ok (w : World) (s : qR) (bs os : Nat) (qm : Option Addr) (ql : Nat) (qL : List Nat) (qE : Option Addr) (qA : Nat) (xk : List Nat) (hs : vg w bs os [.int .i64 s.qF, .slice qm s.qg.length ql, .slice qE s.qf.length qA]) (qY : qM.rep w qL [.slice qm s.qg.length ql] s.qg) (xA : qM.rep w xk [.slice qE s.qf.length qA] s.qf) : Calls Tryz.prog 83 #[pp bs os] w (Ret (fun v w' => v = .bool (dec (vZ s))) w) := by
 refine enter (n := 48) Tryz.func83 rfl Tryz.ntmps83 (Nat.le_of_ble_eq_true rfl) ?_
 have H := (((St.start w).arg xA).arg qY).argAt hs
 have zH := qJ qY
 have vN := qJ xA
 clear hs qY xA
 refine qh (qp ?_)
 refine sp (.bool false) ?_
 refine qo (t_n (qh (qh (qp ?_))))
 refine sps [pp bs os, pp bs os] ?_
 refine sw (qH bs (os) 0 Tryz.underlying36 rfl rfl Tryz.sizeOf2 rfl ?_)
 refine sw (qC (.int .i64 s.qF) Tryz.isAgg2 rfl (H.xU 0 rfl 0 rfl) ?_)
 refine sw (xm #[.int .i64 s.qF, .int .i64 1, .int .i64 8] rfl rfl Tryz.call44 (l00In_ok w s.qF 1 8) ?_)
 rintro _ w1 rfl x2
 replace H := H.ext x2
 refine sps [.bool (!(inR s.qF 1 8)), .bool (!(inR s.qF 1 8))] ?_
 cases h3 : (!(inR s.qF 1 8))
 ·skip
  replace h3 := qN h3
  replace h3 := yZ.1 h3
  refine qO 10 rfl rfl ?_
  refine sp (pp bs os) ?_
  refine qO 10 rfl rfl ?_
  refine sp (pp bs os) ?_
  refine qO 10 rfl rfl ?_
  refine sw (qH bs (os) 1 Tryz.underlying36 rfl rfl Tryz.sizeOf22 rfl ?_)
  refine qO 10 rfl rfl ?_
  refine sw (qC (.slice qm s.qg.length ql) Tryz.isAgg22 rfl (H.xU 0 rfl 1 rfl) ?_)
  refine qO 10 rfl rfl ?_
  refine sw (zK Tryz.underlying22 qm s.qg.length ql rfl ?_)
  refine qO 10 rfl rfl ?_
  refine sw (xm #[.int .i64 s.qg.length, .int .i64 1, .int .i64 6] rfl rfl Tryz.call44 (l00In_ok w1 s.qg.length 1 6) ?_)
  rintro _ w4 rfl x5
  replace H := H.ext x5
  refine qO 10 rfl rfl ?_
  refine sps [.bool (!(inR s.qg.length 1 6)), .bool (!(inR s.qg.length 1 6)), .bool (!(inR s.qg.length 1 6))] ?_
  cases h6 : (!(inR s.qg.length 1 6))
  ·skip
   replace h6 := qN h6
   replace h6 := yZ.1 h6
   refine qO 19 rfl rfl ?_
   refine sp (pp bs os) ?_
   refine qO 19 rfl rfl ?_
   refine sp (pp bs os) ?_
   refine qO 19 rfl rfl ?_
   refine sw (qH bs (os) 1 Tryz.underlying36 rfl rfl Tryz.sizeOf22 rfl ?_)
   refine qO 19 rfl rfl ?_
   refine sw (qC (.slice qm s.qg.length ql) Tryz.isAgg22 rfl (H.xU 0 rfl 1 rfl) ?_)
   refine qO 19 rfl rfl ?_
   obtain ⟨b7, o8, rfl⟩ := H.addr 1 rfl (by omega)
   refine sw (xE 0 Tryz.underlying22 ti2 rfl rfl (by omega) (by omega) ?_)
   refine qO 19 rfl rfl ?_
   refine sw (qC (.int .i64 (s.qg[0]!)) Tryz.isAgg2 rfl (H.vH 1 rfl 0 (by omega) (by omega)) ?_)
   refine qO 19 rfl rfl ?_
   refine sps [.bool ((s.qg[0]! : Int) != (-1)), .bool ((s.qg[0]! : Int) != (-1))] ?_
   refine qo (t_n ?_)
   refine qP ((s.qg[0]! : Int) != (-1)) rfl (fun h9 => ?_) (fun h9 => ?_)
   ·skip
    replace h9 := bne_iff_ne.1 h9
    refine qh (qp ?_)
    refine sp (.bool false) ?_
    refine qo (t_n (xh (t_r ?_)))
    refine ret1 (.bool false) rfl rfl ⟨_, rfl, ?_, H.base⟩
    rw [xf (fun h => by obtain ⟨h1, h2, h3, h4⟩ := h; first | omega | (have := h4 k (by omega) (by omega); omega))]
   replace h9 := xI h9
   refine xg (t_n (qh (qh (qp ?_))))
   refine sp (.int .i64 1) ?_
   refine qo (t_n (xn ?_))
   refine zC (fun m' ρ w10 => ∃ (junk : Env) (k : Nat), ρ = upd (upd junk 0 (pp bs os)) 3 (.int .i64 k) ∧ (k ≤ s.qg.length) ∧ (1 ≤ k) ∧ (FrameTo s k) ∧ m' = s.qg.length - k ∧ St w w10 [] [atF bs os [.int .i64 s.qF, .slice (aa b7 o8) s.qg.length ql, .slice qE s.qf.length qA], isF false qL (.slice (aa b7 o8) s.qg.length ql) s.qg, isF false xk (.slice qE s.qf.length qA) s.qf]) (s.qg.length - 1) ⟨_, 1, (by exact qj (qj (rfl) rfl) rfl), (by omega), (by omega), (by exact FrameTo.one s), rfl, H⟩ ?_
   clear H
   rintro m' ρ w11 ⟨junk, k, rfl, i0, i2, i1, rfl, H⟩
   refine qh (qh (qp ?_))
   refine sps [.int .i64 k, pp bs os, pp bs os] ?_
   refine sw (qH bs (os) 1 Tryz.underlying36 rfl rfl Tryz.sizeOf22 rfl ?_)
   refine sw (qC (.slice (aa b7 o8) s.qg.length ql) Tryz.isAgg22 rfl (H.xU 0 rfl 1 rfl) ?_)
   refine sw (zK Tryz.underlying22 (aa b7 o8) s.qg.length ql rfl ?_)
   refine sp (.bool (decide ((k : Int) < s.qg.length))) ?_
   refine qo (t_n ?_)
   refine qP (decide ((k : Int) < s.qg.length)) rfl (fun h12 => ?_) (fun h12 => ?_)
   ·skip
    replace h12 := of_decide_eq_true h12
    refine xg (t_n (qh (xn (qh (qp ?_)))))
    refine sps [pp bs os, pp bs os] ?_
    refine sw (qH bs (os) 1 Tryz.underlying36 rfl rfl Tryz.sizeOf22 rfl ?_)
    refine sw (qC (.slice (aa b7 o8) s.qg.length ql) Tryz.isAgg22 rfl (H.xU 0 rfl 1 rfl) ?_)
    refine sp (.int .i64 k) ?_
    refine sw (xE k Tryz.underlying22 ti2 rfl rfl (by omega) (by omega) ?_)
    refine sw (qC (.int .i64 (s.qg[k]!)) Tryz.isAgg2 rfl (H.vH 1 rfl k (by omega) (by omega)) ?_)
    refine sp (.int .i64 k) ?_
    refine sw (o_sub k 1 rfl rfl (by omega) ?_)
    refine sw (xm #[.int .i64 (s.qg[k]!), .int .i64 0, .int .i64 (k - 1)] rfl rfl Tryz.call44 (l00In_ok w11 (s.qg[k]!) 0 (k - 1)) ?_)
    rintro _ w13 rfl x14
    replace H := H.ext x14
    refine sp (.bool (!(inR (s.qg[k]!) 0 (k - 1)))) ?_
    refine qo (t_n ?_)
    refine qP (!(inR (s.qg[k]!) 0 (k - 1))) rfl (fun h15 => ?_) (fun h15 => ?_)
    ·skip
     replace h15 := qQ h15
     replace h15 := Qx h15
     refine qh (qp ?_)
     refine sp (.bool false) ?_
     refine qo (t_n (xh (b_r (t_r (t_r (b_r (t_r ?_)))))))
     refine ret1 (.bool false) rfl rfl ⟨_, rfl, ?_, H.base⟩
     rw [xf (fun h => by obtain ⟨h1, h2, h3, h4⟩ := h; first | omega | (have := h4 k (by omega) (by omega); omega))]
    replace h15 := qN h15
    replace h15 := yZ.1 h15
    refine xg (b_n (t_n (qp ?_)))
    refine sp (.int .i64 k) ?_
    refine sw (zD k 1 rfl rfl (by omega) ?_)
    refine sp (.int .i64 (k + 1)) ?_
    refine qo ?_
    refine xy (m' := s.qg.length - (k + 1)) (by omega) ⟨_, k + 1, (by exact qj (qj (rfl) rfl) rfl), ?_, ?_, ?_, rfl, H⟩
    · omega
    · omega
    · exact i1.succ ‹_›
   replace h12 := of_decide_eq_false h12
   refine zx (t_x (t_x (b_x (t_n (qh (qp ?_))))))
   refine sp (.bool true) ?_
   refine qo (t_n (xh ?_))
   refine ret1 (.bool true) rfl rfl ⟨_, rfl, ?_, H.base⟩
   obtain rfl : k = s.qg.length := by omega
   rw [jD ⟨by omega, by omega, by omega, i1⟩]
  replace h6 := qQ h6
  replace h6 := Qx h6
  refine xN [20, 21, 22, 23, 24, 25, 26] ?_
  refine sp (.bool true) ?_
  refine qo (t_n ?_)
  refine qP true rfl (fun _ => ?_) (fun h => absurd h (by decide))
  refine qh (qp ?_)
  refine sp (.bool false) ?_
  refine qo (t_n (xh (t_r ?_)))
  refine ret1 (.bool false) rfl rfl ⟨_, rfl, ?_, H.base⟩
  rw [xf (fun h => by obtain ⟨h1, h2, h3, h4⟩ := h; first | omega | (have := h4 k (by omega) (by omega); omega))]
 replace h3 := qQ h3
 replace h3 := Qx h3
 refine xN [11, 12, 13, 14, 15, 16, 17] ?_
 refine sps [.bool true, .bool true] ?_
 refine xN [20, 21, 22, 23, 24, 25, 26] ?_
 refine sp (.bool true) ?_
 refine qo (t_n ?_)
 refine qP true rfl (fun _ => ?_) (fun h => absurd h (by decide))
 refine qh (qp ?_)
 refine sp (.bool false) ?_
 refine qo (t_n (xh (t_r ?_)))
 refine ret1 (.bool false) rfl rfl ⟨_, rfl, ?_, H.base⟩
 rw [xf (fun h => by obtain ⟨h1, h2, h3, h4⟩ := h; first | omega | (have := h4 k (by omega) (by omega); omega))]

theorem l02In_ok (w : World) (s : qR) (c : Int) (other : Int) (bs os : Nat) (qm : Option Addr) (ql : Nat) (qL : List Nat) (qE : Option Addr) (qA : Nat) (xk : List Nat) (hs : vg w bs os [.int .i64 s.qF, .slice qm s.qg.length ql, .slice qE s.qf.length qA]) (qY : qM.rep w qL [.slice qm s.qg.length ql] s.qg) (xA : qM.rep w xk [.slice qE s.qf.length qA] s.qf) (p0 : vZ s) (p1 : CellIn s c) : Calls Tryz.prog 138 #[pp bs os, .int .i64 c, .int .i64 other] w (Ret (fun v w' => v = .bool (dec (Lies s.qg other c))) w) := by
 refine enter (n := 19) Tryz.func138 rfl Tryz.ntmps138 (Nat.le_of_ble_eq_true rfl) ?_
 have H := (((St.start w).arg xA).arg qY).argAt hs
 have zH := qJ qY
 have vN := qJ xA
 clear hs qY xA
 refine qh (qp ?_)
 refine sp (.bool false) ?_
 refine qo (t_n (qh (xn ?_)))
 refine zC (fun m' ρ w1 => ∃ (junk : Env) (y : Int), ρ = upd (upd (upd junk 0 (pp bs os)) 1 (.int .i64 y)) 2 (.int .i64 other) ∧ (0 ≤ y ∧ y ≤ (s.qg.length : Int) - 1) ∧ (Lies s.qg other c ↔ Lies s.qg other y) ∧ m' = y.toNat ∧ St w w1 [] [atF bs os [.int .i64 s.qF, .slice qm s.qg.length ql, .slice qE s.qf.length qA], isF false qL (.slice qm s.qg.length ql) s.qg, isF false xk (.slice qE s.qf.length qA) s.qf]) (c.toNat) ⟨_, c, (by exact qj (qj (qj (rfl) rfl) rfl) rfl), (by exact p1), (by exact Iff.rfl), rfl, H⟩ ?_
 clear H
 rintro m' ρ w2 ⟨junk, y, rfl, i0, i1, rfl, H⟩
 have up := fun h => p0.up (c := y) h i0.2
 refine qh (qh (qp ?_))
 refine sps [.int .i64 y, .bool (decide ((y : Int) > 0))] ?_
 refine qo (t_n ?_)
 refine qP (decide ((y : Int) > 0)) rfl (fun h3 => ?_) (fun h3 => ?_)
 ·skip
  replace h3 := of_decide_eq_true h3
  refine xg (t_n (xn (qh (qp ?_))))
  refine sps [pp bs os, pp bs os] ?_
  refine sw (qH bs (os) 1 Tryz.underlying36 rfl rfl Tryz.sizeOf22 rfl ?_)
  refine sw (qC (.slice qm s.qg.length ql) Tryz.isAgg22 rfl (H.xU 0 rfl 1 rfl) ?_)
  refine sp (.int .i64 y) ?_
  obtain ⟨b4, o5, rfl⟩ := H.addr 1 rfl (by omega)
  refine sw (xE y Tryz.underlying22 ti2 rfl rfl (by omega) (by omega) ?_)
  refine sw (qC (.int .i64 (s.qg[y.toNat]!)) Tryz.isAgg2 rfl (H.vH 1 rfl y (by omega) (by omega)) ?_)
  refine sp (.int .i64 (s.qg[y.toNat]!)) ?_
  refine qo (t_n (qh (qp ?_)))
  refine sps [.int .i64 (s.qg[y.toNat]!), .int .i64 other, .bool ((s.qg[y.toNat]! : Int) == other)] ?_
  refine qo (t_n ?_)
  refine qP ((s.qg[y.toNat]! : Int) == other) rfl (fun h6 => ?_) (fun h6 => ?_)
  ·skip
   replace h6 := eq_of_beq h6
   refine qh (qp ?_)
   refine sp (.bool true) ?_
   refine qo (t_n (xh (b_r (t_r (b_r (t_r ?_))))))
   refine ret1 (.bool true) rfl rfl ⟨_, rfl, ?_, H.base⟩
   rw [jD (i1.2 (.here (by omega) ‹_›))]
  replace h6 := ne_of_beq_false h6
  refine xg (b_n ?_)
  have up1 := up (by omega)
  refine xy (m' := (s.qg[y.toNat]!).toNat) (by omega) ⟨_, (s.qg[y.toNat]!), (by exact qj (qj (qj (rfl) rfl) rfl) rfl), ?_, ?_, rfl, H⟩
  · have := up (by omega); omega
  · exact i1.trans (lies_iff.trans ⟨fun h => h.2.resolve_left ‹_›, fun h => ⟨by omega, .inr h⟩⟩)
 replace h3 := of_decide_eq_false h3
 refine zx (t_x (t_x (b_x (t_n (qh (qp ?_))))))
 refine sp (.bool false) ?_
 refine qo (t_n (xh ?_))
 refine ret1 (.bool false) rfl rfl ⟨_, rfl, ?_, H.base⟩
 rw [xf (fun h => by have := (lies_iff.1 (i1.1 h)).1; omega)]

theorem l02Rule_ok (w : World) (s : qR) (r : yB) (bs os : Nat) (qm : Option Addr) (ql : Nat) (qL : List Nat) (qE : Option Addr) (qA : Nat) (xk : List Nat) (br or : Nat) (zJ : Option Addr) (zI : Nat) (yV : List Nat) (ve : Option Addr) (zZ : Nat) (Qw : List Nat) (zQ : Option Addr) (zO : Nat) (Qk : List Nat) (vJ : Option Addr) (vI : Nat) (QK : List Nat) (yj : Option Addr) (yh : Nat) (FrOut : List Nat) (zy : Option Addr) (zh : Nat) (FrInto : List Nat) (hs : vg w bs os [.int .i64 s.qF, .slice qm s.qg.length ql, .slice qE s.qf.length qA]) (qY : qM.rep w qL [.slice qm s.qg.length ql] s.qg) (xA : qM.rep w xk [.slice qE s.qf.length qA] s.qf) (hr : vg w br or [.int .i64 r.qw, .int .i64 r.xM, .slice zJ r.qI.length zI, .slice ve r.qW.length zZ, .slice zQ r.qX.length zO, .slice vJ r.xe.length vI, .slice yj r.xO.length yh, .slice zy r.qx.length zh, .bool r.xG]) (hrNeed : qM.rep w yV [.slice zJ r.qI.length zI] r.qI) (hrHave : qM.rep w Qw [.slice ve r.qW.length zZ] r.qW) (hrLack : qM.rep w Qk [.slice zQ r.qX.length zO] r.qX) (hrHere : qM.rep w QK [.slice vJ r.xe.length vI] r.xe) (hrOut : qM.rep w FrOut [.slice yj r.xO.length yh] r.xO) (hrInto : qM.rep w FrInto [.slice zy r.qx.length zh] r.qx) (p0 : vZ s) : Calls Tryz.prog 84 #[pp bs os, pp br or] w (Ret (fun v w' => v = .bool (dec (RuleOk s r))) w) := by
 refine enter (n := 174) Tryz.func84 rfl Tryz.ntmps84 (Nat.le_of_ble_eq_true rfl) ?_
 have H := ((((((((((St.start w).arg hrInto).arg hrOut).arg hrHere).arg hrLack).arg hrHave).arg hrNeed).argAt hr).arg xA).arg qY).argAt hs
 have zH := qJ qY
 have vN := qJ xA
 have nhrNeed := qJ hrNeed
 have nhrHave := qJ hrHave
 have nhrLack := qJ hrLack
 have nhrHere := qJ hrHere
 have nhrOut := qJ hrOut
 have nhrInto := qJ hrInto
 clear hs qY xA hr hrNeed hrHave hrLack hrHere hrOut hrInto
 refine qh (qp ?_)
 refine sp (.bool false) ?_
 refine qo (t_n (qh (qh ?_)))
 refine jf rfl H fun H => ?_
 refine rtp 0 (pp br or) H ?_
 refine rtp 1 (pp br or) H ?_
 refine rt 2 (pp br (or + 0)) (xH br (or) 0 Tryz.underlying110 rfl rfl Tryz.sizeOf2 rfl) H ?_
 refine rt 3 (.int .i64 r.qw) (xw Tryz.isAgg2 rfl (fun _ h => h.xU 3 rfl 0 rfl)) H ?_
 refine rtp 4 (pp bs os) H ?_
 refine rtp 5 (pp bs os) H ?_
 refine rt 6 (pp bs (os + 1)) (xH bs (os) 1 Tryz.underlying36 rfl rfl Tryz.sizeOf22 rfl) H ?_
 refine rt 7 (.slice qm s.qg.length ql) (xw Tryz.isAgg22 rfl (fun _ h => h.xU 0 rfl 1 rfl)) H ?_
 refine rt 8 (.int .i64 s.qg.length) (y_len Tryz.underlying22 qm s.qg.length ql rfl) H ?_
 refine rt 9 (.int .i64 (s.qg.length - 1)) (y_sub s.qg.length 1 rfl rfl (by omega)) H ?_
 refine zt [10] (by kernel_rfl) (by simp) (yF rfl ?_ zu)
 refine xm #[.int .i64 r.qw, .int .i64 0, .int .i64 (s.qg.length - 1)] rfl rfl Tryz.call44 (l00In_ok w.drew r.qw 0 (s.qg.length - 1)) ?_
 rintro _ w2 rfl x3
 replace H := H.ext x3
 refine ⟨H, ?_⟩
 refine rtp 11 (.bool (!(inR r.qw 0 (s.qg.length - 1)))) H ?_
 refine rtp 12 (.bool (!(inR r.qw 0 (s.qg.length - 1)))) H ?_
 cases h4 : (!(inR r.qw 0 (s.qg.length - 1)))
 ·skip
  replace h4 := qN h4
  replace h4 := yZ.1 h4
  refine rgp 13 (pp br or) 19 H ?_
  refine rgp 14 (pp br or) 19 H ?_
  refine rg 15 (pp br (or + 1)) 19 (xH br (or) 1 Tryz.underlying110 rfl rfl Tryz.sizeOf2 rfl) H ?_
  refine rg 16 (.int .i64 r.xM) 19 (xw Tryz.isAgg2 rfl (fun _ h => h.xU 3 rfl 1 rfl)) H ?_
  refine zt [17] (by kernel_rfl) (by simp) (r_opG rfl (e := 19) rfl rfl ?_ zu)
  refine xm #[.int .i64 r.xM, .int .i64 0, .int .i64 9] rfl rfl Tryz.call44 (l00In_ok w2 r.xM 0 9) ?_
  rintro _ w5 rfl x6
  replace H := H.ext x6
  refine ⟨H, ?_⟩
  refine rgp 18 (.bool (!(inR r.xM 0 9))) 19 H ?_
  refine rtp 19 (.bool (!(inR r.xM 0 9))) H ?_
  refine rtp 20 (.bool (!(inR r.xM 0 9))) H ?_
  cases h7 : (!(inR r.xM 0 9))
  ·skip
   replace h7 := qN h7
   replace h7 := yZ.1 h7
   refine rgp 21 (pp br or) 27 H ?_
   refine rgp 22 (pp br or) 27 H ?_
   refine rg 23 (pp br (or + 8)) 27 (xH br (or) 8 Tryz.underlying110 rfl rfl Tryz.sizeOf4 rfl) H ?_
   refine rg 24 (.bool r.xG) 27 (xw Tryz.isAgg4 rfl (fun _ h => h.xU 3 rfl 8 rfl)) H ?_
   refine rgp 25 (.bool r.xG) 27 H ?_
   cases h8 : (r.xG)
   ·skip
    rw [h8] at H
    refine zq [26, 27, 28, 29, 30] 5 (H) ?_
    refine rgp 31 (.bool false) 27 H ?_
    refine rtp 32 (.bool false) H ?_
    refine rtp 33 (.bool false) H ?_
    refine rgp 34 (pp br or) 40 H ?_
    refine rgp 35 (pp br or) 40 H ?_
    refine rg 36 (pp br (or + 7)) 40 (xH br (or) 7 Tryz.underlying110 rfl rfl Tryz.sizeOf108 rfl) H ?_
    refine rg 37 (.slice zy r.qx.length zh) 40 (xw Tryz.isAgg108 rfl (fun _ h => h.xU 3 rfl 7 rfl)) H ?_
    refine rg 38 (.int .i64 r.qx.length) 40 (y_len Tryz.underlying108 zy r.qx.length zh rfl) H ?_
    refine rgp 39 (.bool (decide ((r.qx.length : Int) > 3))) 40 H ?_
    refine rtp 40 (.bool (decide ((r.qx.length : Int) > 3))) H ?_
    refine xZ (by kernel_rfl) (t_n ?_)
    refine qP (decide ((r.qx.length : Int) > 3)) rfl (fun h9 => ?_) (fun h9 => ?_)
    ·skip
     replace h9 := of_decide_eq_true h9
     refine qh (qp ?_)
     refine sp (.bool false) ?_
     refine qo (t_n (xh (t_r ?_)))
     refine ret1 (.bool false) rfl rfl ⟨_, rfl, ?_, H.base⟩
     rw [xf (fun h => by obtain ⟨h1, h2, h3, h4, h5, h6, h7, h8, h9, h10, h11⟩ := h; first | contradiction | omega | exact h3 ⟨‹_›, ‹_›⟩ | (obtain ⟨q1, q2, q3, q4, q5⟩ := h11 k (by omega); first | contradiction | omega | (have := q5 (by omega); omega)))]
    replace h9 := of_decide_eq_false h9
    refine xg (t_n (qh (qh (qp ?_))))
    refine sps [pp bs os, pp br or, pp br or] ?_
    refine sw (qH br (or) 2 Tryz.underlying110 rfl rfl Tryz.sizeOf22 rfl ?_)
    refine sw (qC (.slice zJ r.qI.length zI) Tryz.isAgg22 rfl (H.xU 3 rfl 2 rfl) ?_)
    refine sw (xm #[pp bs os, .slice zJ r.qI.length zI] rfl rfl Tryz.call136 (yT w5 s r.qI bs os qm ql qL qE qA xk zJ zI yV (qK (H.get 0 rfl) 0 3) (H.get 1 rfl).1 (H.get 2 rfl).1 (H.get 4 rfl).1) ?_)
    rintro _ w10 rfl x11
    replace H := H.ext x11
    refine sps [.bool (!(dec (zi s.qF r.qI))), .bool (!(dec (zi s.qF r.qI)))] ?_
    cases h12 : (!(dec (zi s.qF r.qI)))
    ·skip
     replace h12 := qN h12
     replace h12 := vT h12
     refine qO 55 rfl rfl ?_
     refine sp (pp bs os) ?_
     refine qO 55 rfl rfl ?_
     refine sp (pp br or) ?_
     refine qO 55 rfl rfl ?_
     refine sp (pp br or) ?_
     refine qO 55 rfl rfl ?_
     refine sw (qH br (or) 3 Tryz.underlying110 rfl rfl Tryz.sizeOf22 rfl ?_)
     refine qO 55 rfl rfl ?_
     refine sw (qC (.slice ve r.qW.length zZ) Tryz.isAgg22 rfl (H.xU 3 rfl 3 rfl) ?_)
     refine qO 55 rfl rfl ?_
     refine sw (xm #[pp bs os, .slice ve r.qW.length zZ] rfl rfl Tryz.call136 (yT w10 s r.qW bs os qm ql qL qE qA xk ve zZ Qw (qK (H.get 0 rfl) 0 3) (H.get 1 rfl).1 (H.get 2 rfl).1 (H.get 5 rfl).1) ?_)
     rintro _ w13 rfl x14
     replace H := H.ext x14
     refine qO 55 rfl rfl ?_
     refine sps [.bool (!(dec (zi s.qF r.qW))), .bool (!(dec (zi s.qF r.qW))), .bool (!(dec (zi s.qF r.qW)))] ?_
     cases h15 : (!(dec (zi s.qF r.qW)))
     ·skip
      replace h15 := qN h15
      replace h15 := vT h15
      refine qO 64 rfl rfl ?_
      refine sp (pp bs os) ?_
      refine qO 64 rfl rfl ?_
      refine sp (pp br or) ?_
      refine qO 64 rfl rfl ?_
      refine sp (pp br or) ?_
      refine qO 64 rfl rfl ?_
      refine sw (qH br (or) 4 Tryz.underlying110 rfl rfl Tryz.sizeOf22 rfl ?_)
      refine qO 64 rfl rfl ?_
      refine sw (qC (.slice zQ r.qX.length zO) Tryz.isAgg22 rfl (H.xU 3 rfl 4 rfl) ?_)
      refine qO 64 rfl rfl ?_
      refine sw (xm #[pp bs os, .slice zQ r.qX.length zO] rfl rfl Tryz.call136 (yT w13 s r.qX bs os qm ql qL qE qA xk zQ zO Qk (qK (H.get 0 rfl) 0 3) (H.get 1 rfl).1 (H.get 2 rfl).1 (H.get 6 rfl).1) ?_)
      rintro _ w16 rfl x17
      replace H := H.ext x17
      refine qO 64 rfl rfl ?_
      refine sps [.bool (!(dec (zi s.qF r.qX))), .bool (!(dec (zi s.qF r.qX))), .bool (!(dec (zi s.qF r.qX)))] ?_
      cases h18 : (!(dec (zi s.qF r.qX)))
      ·skip
       replace h18 := qN h18
       replace h18 := vT h18
       refine qO 73 rfl rfl ?_
       refine sp (pp bs os) ?_
       refine qO 73 rfl rfl ?_
       refine sp (pp br or) ?_
       refine qO 73 rfl rfl ?_
       refine sp (pp br or) ?_
       refine qO 73 rfl rfl ?_
       refine sw (qH br (or) 5 Tryz.underlying110 rfl rfl Tryz.sizeOf22 rfl ?_)
       refine qO 73 rfl rfl ?_
       refine sw (qC (.slice vJ r.xe.length vI) Tryz.isAgg22 rfl (H.xU 3 rfl 5 rfl) ?_)
       refine qO 73 rfl rfl ?_
       refine sw (xm #[pp bs os, .slice vJ r.xe.length vI] rfl rfl Tryz.call136 (yT w16 s r.xe bs os qm ql qL qE qA xk vJ vI QK (qK (H.get 0 rfl) 0 3) (H.get 1 rfl).1 (H.get 2 rfl).1 (H.get 7 rfl).1) ?_)
       rintro _ w19 rfl x20
       replace H := H.ext x20
       refine qO 73 rfl rfl ?_
       refine sps [.bool (!(dec (zi s.qF r.xe))), .bool (!(dec (zi s.qF r.xe))), .bool (!(dec (zi s.qF r.xe)))] ?_
       cases h21 : (!(dec (zi s.qF r.xe)))
       ·skip
        replace h21 := qN h21
        replace h21 := vT h21
        refine qO 82 rfl rfl ?_
        refine sp (pp bs os) ?_
        refine qO 82 rfl rfl ?_
        refine sp (pp br or) ?_
        refine qO 82 rfl rfl ?_
        refine sp (pp br or) ?_
        refine qO 82 rfl rfl ?_
        refine sw (qH br (or) 6 Tryz.underlying110 rfl rfl Tryz.sizeOf22 rfl ?_)
        refine qO 82 rfl rfl ?_
        refine sw (qC (.slice yj r.xO.length yh) Tryz.isAgg22 rfl (H.xU 3 rfl 6 rfl) ?_)
        refine qO 82 rfl rfl ?_
        refine sw (xm #[pp bs os, .slice yj r.xO.length yh] rfl rfl Tryz.call136 (yT w19 s r.xO bs os qm ql qL qE qA xk yj yh FrOut (qK (H.get 0 rfl) 0 3) (H.get 1 rfl).1 (H.get 2 rfl).1 (H.get 8 rfl).1) ?_)
        rintro _ w22 rfl x23
        replace H := H.ext x23
        refine qO 82 rfl rfl ?_
        refine sps [.bool (!(dec (zi s.qF r.xO))), .bool (!(dec (zi s.qF r.xO))), .bool (!(dec (zi s.qF r.xO)))] ?_
        cases h24 : (!(dec (zi s.qF r.xO)))
        ·skip
         replace h24 := qN h24
         replace h24 := vT h24
         refine qO 91 rfl rfl ?_
         refine sp (pp br or) ?_
         refine qO 91 rfl rfl ?_
         refine sp (pp br or) ?_
         refine qO 91 rfl rfl ?_
         refine sw (qH br (or) 2 Tryz.underlying110 rfl rfl Tryz.sizeOf22 rfl ?_)
         refine qO 91 rfl rfl ?_
         refine sw (qC (.slice zJ r.qI.length zI) Tryz.isAgg22 rfl (H.xU 3 rfl 2 rfl) ?_)
         refine qO 91 rfl rfl ?_
         refine sw (xm #[.slice zJ r.qI.length zI] rfl rfl Tryz.call137 (l01Size_ok w22 r.qI zJ zI yV (H.get 4 rfl).1 (by first | assumption | exact vG (by assumption) | exact Qi (by assumption))) ?_)
         rintro _ w25 rfl x26
         replace H := H.ext x26
         refine qO 91 rfl rfl ?_
         refine sps [.bool ((sumL r.qI : Int) == 0), .bool ((sumL r.qI : Int) == 0)] ?_
         refine qo (t_n ?_)
         refine qP ((sumL r.qI : Int) == 0) rfl (fun h27 => ?_) (fun h27 => ?_)
         ·skip
          replace h27 := eq_of_beq h27
          refine qh (qp ?_)
          refine sp (.bool false) ?_
          refine qo (t_n (xh (t_r ?_)))
          refine ret1 (.bool false) rfl rfl ⟨_, rfl, ?_, H.base⟩
          rw [xf (fun h => by obtain ⟨h1, h2, h3, h4, h5, h6, h7, h8, h9, h10, h11⟩ := h; first | contradiction | omega | exact h3 ⟨‹_›, ‹_›⟩ | (obtain ⟨q1, q2, q3, q4, q5⟩ := h11 k (by omega); first | contradiction | omega | (have := q5 (by omega); omega)))]
         replace h27 := ne_of_beq_false h27
         refine xg (t_n (qh (qh (qp ?_))))
         refine sp (.int .i64 0) ?_
         refine qo (t_n (xn ?_))
         refine zC (fun m' ρ w28 => ∃ (junk : Env) (k : Nat), ρ = upd (upd (upd junk 0 (pp bs os)) 1 (pp br or)) 5 (.int .i64 k) ∧ (k ≤ r.qx.length) ∧ (IntosTo s r k) ∧ m' = r.qx.length - k ∧ St w w28 [] [atF bs os [.int .i64 s.qF, .slice qm s.qg.length ql, .slice qE s.qf.length qA], isF false qL (.slice qm s.qg.length ql) s.qg, isF false xk (.slice qE s.qf.length qA) s.qf, atF br or [.int .i64 r.qw, .int .i64 r.xM, .slice zJ r.qI.length zI, .slice ve r.qW.length zZ, .slice zQ r.qX.length zO, .slice vJ r.xe.length vI, .slice yj r.xO.length yh, .slice zy r.qx.length zh, .bool false], isF false yV (.slice zJ r.qI.length zI) r.qI, isF false Qw (.slice ve r.qW.length zZ) r.qW, isF false Qk (.slice zQ r.qX.length zO) r.qX, isF false QK (.slice vJ r.xe.length vI) r.xe, isF false FrOut (.slice yj r.xO.length yh) r.xO, isF false FrInto (.slice zy r.qx.length zh) r.qx]) (r.qx.length - 0) ⟨_, 0, (by exact qj (qj (qj (rfl) rfl) rfl) rfl), (by omega), (by exact fun j hj => by omega), rfl, H⟩ ?_
         clear H
         rintro m' ρ w29 ⟨junk, k, rfl, i0, i1, rfl, H⟩
         refine qh (qh (qp ?_))
         refine sps [.int .i64 k, pp br or, pp br or] ?_
         refine sw (qH br (or) 7 Tryz.underlying110 rfl rfl Tryz.sizeOf108 rfl ?_)
         refine sw (qC (.slice zy r.qx.length zh) Tryz.isAgg108 rfl (H.xU 3 rfl 7 rfl) ?_)
         refine sw (zK Tryz.underlying108 zy r.qx.length zh rfl ?_)
         refine sp (.bool (decide ((k : Int) < r.qx.length))) ?_
         refine qo (t_n ?_)
         refine qP (decide ((k : Int) < r.qx.length)) rfl (fun h30 => ?_) (fun h30 => ?_)
         ·skip
          replace h30 := of_decide_eq_true h30
          refine xg (t_n (qh (xn (qh (qp ?_)))))
          refine sps [pp br or, pp br or] ?_
          refine sw (qH br (or) 7 Tryz.underlying110 rfl rfl Tryz.sizeOf108 rfl ?_)
          refine sw (qC (.slice zy r.qx.length zh) Tryz.isAgg108 rfl (H.xU 3 rfl 7 rfl) ?_)
          refine sp (.int .i64 k) ?_
          obtain ⟨b31, o32, rfl⟩ := H.addr 9 rfl (by omega)
          obtain ⟨Xp, Xo, Fe33Bag, H⟩ := H.vP 9 rfl k k (by omega) (by omega) (by omega)
          refine sw (xE k Tryz.underlying108 ti115 rfl rfl (by omega) (by omega) ?_)
          refine sp (pp b31 (o32 + (k : Int).toNat * 2)) ?_
          refine qo (t_n (qh (qh ?_)))
          refine jf rfl H fun H => ?_
          refine rtp 0 (pp b31 (o32 + (k : Int).toNat * 2)) H ?_
          refine rtp 1 (pp b31 (o32 + (k : Int).toNat * 2)) H ?_
          refine rt 2 (pp b31 (o32 + (k : Int).toNat * 2 + 0)) (xH b31 (o32 + (k : Int).toNat * 2) 0 Tryz.underlying115 rfl rfl Tryz.sizeOf2 rfl) H ?_
          refine rt 3 (.int .i64 ((r.qx[k]!).qw)) (xw Tryz.isAgg2 rfl (fun _ h => h.xU 1 rfl 0 rfl)) H ?_
          refine rtp 4 (pp bs os) H ?_
          refine rtp 5 (pp bs os) H ?_
          refine rt 6 (pp bs (os + 1)) (xH bs (os) 1 Tryz.underlying36 rfl rfl Tryz.sizeOf22 rfl) H ?_
          refine rt 7 (.slice qm s.qg.length ql) (xw Tryz.isAgg22 rfl (fun _ h => h.xU 2 rfl 1 rfl)) H ?_
          refine rt 8 (.int .i64 s.qg.length) (y_len Tryz.underlying22 qm s.qg.length ql rfl) H ?_
          refine rt 9 (.int .i64 (s.qg.length - 1)) (y_sub s.qg.length 1 rfl rfl (by omega)) H ?_
          refine zt [10] (by kernel_rfl) (by simp) (yF rfl ?_ zu)
          refine xm #[.int .i64 ((r.qx[k]!).qw), .int .i64 0, .int .i64 (s.qg.length - 1)] rfl rfl Tryz.call44 (l00In_ok w29.drew ((r.qx[k]!).qw) 0 (s.qg.length - 1)) ?_
          rintro _ w35 rfl x36
          replace H := H.ext x36
          refine ⟨H, ?_⟩
          refine rtp 11 (.bool (!(inR ((r.qx[k]!).qw) 0 (s.qg.length - 1)))) H ?_
          refine rtp 12 (.bool (!(inR ((r.qx[k]!).qw) 0 (s.qg.length - 1)))) H ?_
          cases h37 : (!(inR ((r.qx[k]!).qw) 0 (s.qg.length - 1)))
          ·skip
           replace h37 := qN h37
           replace h37 := yZ.1 h37
           refine rgp 13 (pp bs os) 126 H ?_
           refine rgp 14 (pp b31 (o32 + (k : Int).toNat * 2)) 126 H ?_
           refine rgp 15 (pp b31 (o32 + (k : Int).toNat * 2)) 126 H ?_
           refine rg 16 (pp b31 (o32 + (k : Int).toNat * 2 + 0)) 126 (xH b31 (o32 + (k : Int).toNat * 2) 0 Tryz.underlying115 rfl rfl Tryz.sizeOf2 rfl) H ?_
           refine rg 17 (.int .i64 ((r.qx[k]!).qw)) 126 (xw Tryz.isAgg2 rfl (fun _ h => h.xU 1 rfl 0 rfl)) H ?_
           refine rgp 18 (pp br or) 126 H ?_
           refine rgp 19 (pp br or) 126 H ?_
           refine rg 20 (pp br (or + 0)) 126 (xH br (or) 0 Tryz.underlying110 rfl rfl Tryz.sizeOf2 rfl) H ?_
           refine rg 21 (.int .i64 r.qw) 126 (xw Tryz.isAgg2 rfl (fun _ h => h.xU 5 rfl 0 rfl)) H ?_
           refine zt [22] (by kernel_rfl) (by simp) (r_opG rfl (e := 126) rfl rfl ?_ zu)
           refine xm #[pp bs os, .int .i64 ((r.qx[k]!).qw), .int .i64 r.qw] rfl rfl Tryz.call138 (l02In_ok w35 s ((r.qx[k]!).qw) r.qw bs os qm ql qL qE qA xk (qK (H.get 2 rfl) 0 3) (H.get 3 rfl).1 (H.get 4 rfl).1 (by assumption) (by assumption)) ?_
           rintro _ w38 rfl x39
           replace H := H.ext x39
           refine ⟨H, ?_⟩
           refine rgp 23 (.bool (!(dec (Lies s.qg r.qw ((r.qx[k]!).qw))))) 126 H ?_
           refine rtp 24 (.bool (!(dec (Lies s.qg r.qw ((r.qx[k]!).qw))))) H ?_
           refine rtp 25 (.bool (!(dec (Lies s.qg r.qw ((r.qx[k]!).qw))))) H ?_
           cases h40 : (!(dec (Lies s.qg r.qw ((r.qx[k]!).qw))))
           ·skip
            replace h40 := qN h40
            replace h40 := vT h40
            refine rgp 26 (pp bs os) 139 H ?_
            refine rgp 27 (pp b31 (o32 + (k : Int).toNat * 2)) 139 H ?_
            refine rgp 28 (pp b31 (o32 + (k : Int).toNat * 2)) 139 H ?_
            refine rg 29 (pp b31 (o32 + (k : Int).toNat * 2 + 1)) 139 (xH b31 (o32 + (k : Int).toNat * 2) 1 Tryz.underlying115 rfl rfl Tryz.sizeOf22 rfl) H ?_
            refine rg 30 (.slice Xp (((r.qx[k]!).zF).length) Xo) 139 (xw Tryz.isAgg22 rfl (fun _ h => h.xU 1 rfl 1 rfl)) H ?_
            refine zt [31] (by kernel_rfl) (by simp) (r_opG rfl (e := 139) rfl rfl ?_ zu)
            refine xm #[pp bs os, .slice Xp (((r.qx[k]!).zF).length) Xo] rfl rfl Tryz.call136 (yT w38 s ((r.qx[k]!).zF) bs os qm ql qL qE qA xk Xp Xo Fe33Bag (qK (H.get 2 rfl) 0 3) (H.get 3 rfl).1 (H.get 4 rfl).1 (H.get 0 rfl).1) ?_
            rintro _ w41 rfl x42
            replace H := H.ext x42
            refine ⟨H, ?_⟩
            refine rgp 32 (.bool (!(dec (zi s.qF ((r.qx[k]!).zF))))) 139 H ?_
            refine rtp 33 (.bool (!(dec (zi s.qF ((r.qx[k]!).zF))))) H ?_
            refine rtp 34 (.bool (!(dec (zi s.qF ((r.qx[k]!).zF))))) H ?_
            cases h43 : (!(dec (zi s.qF ((r.qx[k]!).zF))))
            ·skip
             replace h43 := qN h43
             replace h43 := vT h43
             refine rgp 35 (pp b31 (o32 + (k : Int).toNat * 2)) 148 H ?_
             refine rgp 36 (pp b31 (o32 + (k : Int).toNat * 2)) 148 H ?_
             refine rg 37 (pp b31 (o32 + (k : Int).toNat * 2 + 1)) 148 (xH b31 (o32 + (k : Int).toNat * 2) 1 Tryz.underlying115 rfl rfl Tryz.sizeOf22 rfl) H ?_
             refine rg 38 (.slice Xp (((r.qx[k]!).zF).length) Xo) 148 (xw Tryz.isAgg22 rfl (fun _ h => h.xU 1 rfl 1 rfl)) H ?_
             refine zt [39] (by kernel_rfl) (by simp) (r_opG rfl (e := 148) rfl rfl ?_ zu)
             refine xm #[.slice Xp (((r.qx[k]!).zF).length) Xo] rfl rfl Tryz.call137 (l01Size_ok w41 ((r.qx[k]!).zF) Xp Xo Fe33Bag (H.get 0 rfl).1 (by first | assumption | exact vG (by assumption) | exact Qi (by assumption))) ?_
             rintro _ w44 rfl x45
             replace H := H.ext x45
             refine ⟨H, ?_⟩
             refine rgp 40 (.bool ((sumL ((r.qx[k]!).zF) : Int) == 0)) 148 H ?_
             refine rtp 41 (.bool ((sumL ((r.qx[k]!).zF) : Int) == 0)) H ?_
             refine xZ (by kernel_rfl) (t_n ?_)
             refine qP ((sumL ((r.qx[k]!).zF) : Int) == 0) rfl (fun h46 => ?_) (fun h46 => ?_)
             ·skip
              replace h46 := eq_of_beq h46
              refine qh (qp ?_)
              refine sp (.bool false) ?_
              refine qo (t_n (xh (t_r (b_r (t_r (t_r (b_r (t_r ?_))))))))
              refine ret1 (.bool false) rfl rfl ⟨_, rfl, ?_, H.base⟩
              rw [xf (fun h => by obtain ⟨h1, h2, h3, h4, h5, h6, h7, h8, h9, h10, h11⟩ := h; first | contradiction | omega | exact h3 ⟨‹_›, ‹_›⟩ | (obtain ⟨q1, q2, q3, q4, q5⟩ := h11 k (by omega); first | contradiction | omega | (have := q5 (by omega); omega)))]
             replace h46 := ne_of_beq_false h46
             refine xg (t_n (qh ?_))
             refine jf rfl H fun H => ?_
             refine rtp 0 (.int .i64 k) H ?_
             refine rtp 1 (.bool (decide ((k : Int) > 0))) H ?_
             refine rtp 2 (.bool (decide ((k : Int) > 0))) H ?_
             cases h48 : (decide ((k : Int) > 0))
             ·skip
              replace h48 := of_decide_eq_false h48
              refine zq [3, 4, 5, 6, 7, 8, 9, 10, 11, 12, 13, 14, 15, 16] 14 (H) ?_
              refine rtp 17 (.bool false) H ?_
              refine xZ (by kernel_rfl) (t_n ?_)
              refine qP false rfl (fun h => absurd h (by decide)) (fun _ => ?_)
              refine xg (b_n (t_n (qp ?_)))
              refine sp (.int .i64 k) ?_
              refine sw (zD k 1 rfl rfl (by omega) ?_)
              refine sp (.int .i64 (k + 1)) ?_
              refine qo ?_
              refine xy (m' := r.qx.length - (k + 1)) (by omega) ⟨_, k + 1, (by exact qj (qj (qj (rfl) rfl) rfl) rfl), ?_, ?_, rfl, H.sel _ (.refl _) _ (by simp)⟩
              · omega
              · exact i1.succ ⟨‹_›, ‹_›, ‹_›, ‹_›, fun hk => by omega⟩
             replace h48 := of_decide_eq_true h48
             refine rgp 3 (pp br or) 158 H ?_
             refine rgp 4 (pp br or) 158 H ?_
             refine rg 5 (pp br (or + 7)) 158 (xH br (or) 7 Tryz.underlying110 rfl rfl Tryz.sizeOf108 rfl) H ?_
             refine rg 6 (.slice (aa b31 o32) r.qx.length zh) 158 (xw Tryz.isAgg108 rfl (fun _ h => h.xU 5 rfl 7 rfl)) H ?_
             refine rgp 7 (.int .i64 k) 158 H ?_
             refine rg 8 (.int .i64 (k - 1)) 158 (y_sub k 1 rfl rfl (by omega)) H ?_
             obtain ⟨ae49Bag, ce49Bag, Fe49Bag, H⟩ := H.vP 11 rfl (k - 1) (k - 1) (by omega) (by omega) (by omega)
             refine rg 9 (pp b31 (o32 + (k - 1 : Int).toNat * 2)) 158 (xQ b31 (o32) r.qx.length zh (k - 1) Tryz.underlying108 ti115 rfl rfl (by omega) (by omega)) (H.sel _ (.refl _) _ (fun _ h => List.mem_cons_of_mem _ (List.mem_cons_of_mem _ (h)))) ?_
             refine rg 10 (pp b31 (o32 + (k - 1 : Int).toNat * 2 + 0)) 158 (xH b31 (o32 + (k - 1 : Int).toNat * 2) 0 Tryz.underlying115 rfl rfl Tryz.sizeOf2 rfl) (H.sel _ (.refl _) _ (fun _ h => List.mem_cons_of_mem _ (List.mem_cons_of_mem _ (h)))) ?_
             refine rgp 12 (pp b31 (o32 + (k : Int).toNat * 2)) 158 (H.sel _ (.refl _) _ (fun _ h => List.mem_cons_of_mem _ (List.mem_cons_of_mem _ (h)))) ?_
             refine rgp 13 (pp b31 (o32 + (k : Int).toNat * 2)) 158 (H.sel _ (.refl _) _ (fun _ h => List.mem_cons_of_mem _ (List.mem_cons_of_mem _ (h)))) ?_
             refine rg 14 (pp b31 (o32 + (k : Int).toNat * 2 + 0)) 158 (xH b31 (o32 + (k : Int).toNat * 2) 0 Tryz.underlying115 rfl rfl Tryz.sizeOf2 rfl) (H.sel _ (.refl _) _ (fun _ h => List.mem_cons_of_mem _ (List.mem_cons_of_mem _ (h)))) ?_
             refine rg 15 (.int .i64 ((r.qx[k]!).qw)) 158 (xw Tryz.isAgg2 rfl (fun _ h => h.xU 1 rfl 0 rfl)) (H.sel _ (.refl _) _ (fun _ h => List.mem_cons_of_mem _ (List.mem_cons_of_mem _ (h)))) ?_
             refine zt [11] (by kernel_rfl) (by simp) (r_opG rfl (e := 158) rfl rfl ?_ zu)
             refine qC (.int .i64 ((r.qx[k - 1]!).qw)) Tryz.isAgg2 rfl (H.xU 1 rfl 0 rfl) ?_
             refine ⟨H.sel _ (.refl _) _ (fun _ h => List.mem_cons_of_mem _ (List.mem_cons_of_mem _ (h))), ?_⟩
             refine rgp 16 (.bool (decide (((r.qx[k - 1]!).qw : Int) ≥ ((r.qx[k]!).qw)))) 158 (H.sel _ (.refl _) _ (fun _ h => List.mem_cons_of_mem _ (List.mem_cons_of_mem _ (h)))) ?_
             refine rtp 17 (.bool (decide (((r.qx[k - 1]!).qw : Int) ≥ ((r.qx[k]!).qw)))) (H.sel _ (.refl _) _ (fun _ h => List.mem_cons_of_mem _ (List.mem_cons_of_mem _ (h)))) ?_
             refine xZ (by kernel_rfl) (t_n ?_)
             refine qP (decide (((r.qx[k - 1]!).qw : Int) ≥ ((r.qx[k]!).qw))) rfl (fun h50 => ?_) (fun h50 => ?_)
             ·skip
              replace h50 := of_decide_eq_true h50
              refine qh (qp ?_)
              refine sp (.bool false) ?_
              refine qo (t_n (xh (b_r (t_r (t_r (b_r (t_r ?_)))))))
              refine ret1 (.bool false) rfl rfl ⟨_, rfl, ?_, H.base⟩
              rw [xf (fun h => by obtain ⟨h1, h2, h3, h4, h5, h6, h7, h8, h9, h10, h11⟩ := h; first | contradiction | omega | exact h3 ⟨‹_›, ‹_›⟩ | (obtain ⟨q1, q2, q3, q4, q5⟩ := h11 k (by omega); first | contradiction | omega | (have := q5 (by omega); omega)))]
             replace h50 := of_decide_eq_false h50
             refine xg (b_n (t_n (qp ?_)))
             refine sp (.int .i64 k) ?_
             refine sw (zD k 1 rfl rfl (by omega) ?_)
             refine sp (.int .i64 (k + 1)) ?_
             refine qo ?_
             refine xy (m' := r.qx.length - (k + 1)) (by omega) ⟨_, k + 1, (by exact qj (qj (qj (rfl) rfl) rfl) rfl), ?_, ?_, rfl, H.sel _ (.refl _) _ (by simp)⟩
             · omega
             · exact i1.succ ⟨‹_›, ‹_›, ‹_›, ‹_›, fun hk => by omega⟩
            replace h43 := qQ h43
            replace h43 := xP h43
            refine zq [35, 36, 37, 38, 39, 40] 6 (H) ?_
            refine rtp 41 (.bool true) H ?_
            refine xZ (by kernel_rfl) (t_n ?_)
            refine qP true rfl (fun _ => ?_) (fun h => absurd h (by decide))
            refine qh (qp ?_)
            refine sp (.bool false) ?_
            refine qo (t_n (xh (t_r (b_r (t_r (t_r (b_r (t_r ?_))))))))
            refine ret1 (.bool false) rfl rfl ⟨_, rfl, ?_, H.base⟩
            rw [xf (fun h => by obtain ⟨h1, h2, h3, h4, h5, h6, h7, h8, h9, h10, h11⟩ := h; first | contradiction | omega | exact h3 ⟨‹_›, ‹_›⟩ | (obtain ⟨q1, q2, q3, q4, q5⟩ := h11 k (by omega); first | contradiction | omega | (have := q5 (by omega); omega)))]
           replace h40 := qQ h40
           replace h40 := xP h40
           refine zq [26, 27, 28, 29, 30, 31, 32] 7 (H) ?_
           refine rtp 33 (.bool true) H ?_
           refine rtp 34 (.bool true) H ?_
           refine zq [35, 36, 37, 38, 39, 40] 6 (H) ?_
           refine rtp 41 (.bool true) H ?_
           refine xZ (by kernel_rfl) (t_n ?_)
           refine qP true rfl (fun _ => ?_) (fun h => absurd h (by decide))
           refine qh (qp ?_)
           refine sp (.bool false) ?_
           refine qo (t_n (xh (t_r (b_r (t_r (t_r (b_r (t_r ?_))))))))
           refine ret1 (.bool false) rfl rfl ⟨_, rfl, ?_, H.base⟩
           rw [xf (fun h => by obtain ⟨h1, h2, h3, h4, h5, h6, h7, h8, h9, h10, h11⟩ := h; first | contradiction | omega | exact h3 ⟨‹_›, ‹_›⟩ | (obtain ⟨q1, q2, q3, q4, q5⟩ := h11 k (by omega); first | contradiction | omega | (have := q5 (by omega); omega)))]
          replace h37 := qQ h37
          replace h37 := Qx h37
          refine zq [13, 14, 15, 16, 17, 18, 19, 20, 21, 22, 23] 11 (H) ?_
          refine rtp 24 (.bool true) H ?_
          refine rtp 25 (.bool true) H ?_
          refine zq [26, 27, 28, 29, 30, 31, 32] 7 (H) ?_
          refine rtp 33 (.bool true) H ?_
          refine rtp 34 (.bool true) H ?_
          refine zq [35, 36, 37, 38, 39, 40] 6 (H) ?_
          refine rtp 41 (.bool true) H ?_
          refine xZ (by kernel_rfl) (t_n ?_)
          refine qP true rfl (fun _ => ?_) (fun h => absurd h (by decide))
          refine qh (qp ?_)
          refine sp (.bool false) ?_
          refine qo (t_n (xh (t_r (b_r (t_r (t_r (b_r (t_r ?_))))))))
          refine ret1 (.bool false) rfl rfl ⟨_, rfl, ?_, H.base⟩
          rw [xf (fun h => by obtain ⟨h1, h2, h3, h4, h5, h6, h7, h8, h9, h10, h11⟩ := h; first | contradiction | omega | exact h3 ⟨‹_›, ‹_›⟩ | (obtain ⟨q1, q2, q3, q4, q5⟩ := h11 k (by omega); first | contradiction | omega | (have := q5 (by omega); omega)))]
         replace h30 := of_decide_eq_false h30
         refine zx (t_x (t_x (b_x (t_n (qh (qp ?_))))))
         refine sp (.bool true) ?_
         refine qo (t_n (xh ?_))
         refine ret1 (.bool true) rfl rfl ⟨_, rfl, ?_, H.base⟩
         obtain rfl : k = r.qx.length := by omega
         rw [jD ⟨by assumption, by omega, by simp_all, by omega, by assumption, by assumption, by assumption, by assumption, by assumption, by assumption, i1⟩]
        replace h24 := qQ h24
        replace h24 := xP h24
        refine xN [92, 93, 94, 95, 96, 97] ?_
        refine sp (.bool true) ?_
        refine qo (t_n ?_)
        refine qP true rfl (fun _ => ?_) (fun h => absurd h (by decide))
        refine qh (qp ?_)
        refine sp (.bool false) ?_
        refine qo (t_n (xh (t_r ?_)))
        refine ret1 (.bool false) rfl rfl ⟨_, rfl, ?_, H.base⟩
        rw [xf (fun h => by obtain ⟨h1, h2, h3, h4, h5, h6, h7, h8, h9, h10, h11⟩ := h; first | contradiction | omega | exact h3 ⟨‹_›, ‹_›⟩ | (obtain ⟨q1, q2, q3, q4, q5⟩ := h11 k (by omega); first | contradiction | omega | (have := q5 (by omega); omega)))]
       replace h21 := qQ h21
       replace h21 := xP h21
       refine xN [83, 84, 85, 86, 87, 88, 89] ?_
       refine sps [.bool true, .bool true] ?_
       refine xN [92, 93, 94, 95, 96, 97] ?_
       refine sp (.bool true) ?_
       refine qo (t_n ?_)
       refine qP true rfl (fun _ => ?_) (fun h => absurd h (by decide))
       refine qh (qp ?_)
       refine sp (.bool false) ?_
       refine qo (t_n (xh (t_r ?_)))
       refine ret1 (.bool false) rfl rfl ⟨_, rfl, ?_, H.base⟩
       rw [xf (fun h => by obtain ⟨h1, h2, h3, h4, h5, h6, h7, h8, h9, h10, h11⟩ := h; first | contradiction | omega | exact h3 ⟨‹_›, ‹_›⟩ | (obtain ⟨q1, q2, q3, q4, q5⟩ := h11 k (by omega); first | contradiction | omega | (have := q5 (by omega); omega)))]
      replace h18 := qQ h18
      replace h18 := xP h18
      refine xN [74, 75, 76, 77, 78, 79, 80] ?_
      refine sps [.bool true, .bool true] ?_
      refine xN [83, 84, 85, 86, 87, 88, 89] ?_
      refine sps [.bool true, .bool true] ?_
      refine xN [92, 93, 94, 95, 96, 97] ?_
      refine sp (.bool true) ?_
      refine qo (t_n ?_)
      refine qP true rfl (fun _ => ?_) (fun h => absurd h (by decide))
      refine qh (qp ?_)
      refine sp (.bool false) ?_
      refine qo (t_n (xh (t_r ?_)))
      refine ret1 (.bool false) rfl rfl ⟨_, rfl, ?_, H.base⟩
      rw [xf (fun h => by obtain ⟨h1, h2, h3, h4, h5, h6, h7, h8, h9, h10, h11⟩ := h; first | contradiction | omega | exact h3 ⟨‹_›, ‹_›⟩ | (obtain ⟨q1, q2, q3, q4, q5⟩ := h11 k (by omega); first | contradiction | omega | (have := q5 (by omega); omega)))]
     replace h15 := qQ h15
     replace h15 := xP h15
     refine xN [65, 66, 67, 68, 69, 70, 71] ?_
     refine sps [.bool true, .bool true] ?_
     refine xN [74, 75, 76, 77, 78, 79, 80] ?_
     refine sps [.bool true, .bool true] ?_
     refine xN [83, 84, 85, 86, 87, 88, 89] ?_
     refine sps [.bool true, .bool true] ?_
     refine xN [92, 93, 94, 95, 96, 97] ?_
     refine sp (.bool true) ?_
     refine qo (t_n ?_)
     refine qP true rfl (fun _ => ?_) (fun h => absurd h (by decide))
     refine qh (qp ?_)
     refine sp (.bool false) ?_
     refine qo (t_n (xh (t_r ?_)))
     refine ret1 (.bool false) rfl rfl ⟨_, rfl, ?_, H.base⟩
     rw [xf (fun h => by obtain ⟨h1, h2, h3, h4, h5, h6, h7, h8, h9, h10, h11⟩ := h; first | contradiction | omega | exact h3 ⟨‹_›, ‹_›⟩ | (obtain ⟨q1, q2, q3, q4, q5⟩ := h11 k (by omega); first | contradiction | omega | (have := q5 (by omega); omega)))]
    replace h12 := qQ h12
    replace h12 := xP h12
    refine xN [56, 57, 58, 59, 60, 61, 62] ?_
    refine sps [.bool true, .bool true] ?_
    refine xN [65, 66, 67, 68, 69, 70, 71] ?_
    refine sps [.bool true, .bool true] ?_
    refine xN [74, 75, 76, 77, 78, 79, 80] ?_
    refine sps [.bool true, .bool true] ?_
    refine xN [83, 84, 85, 86, 87, 88, 89] ?_
    refine sps [.bool true, .bool true] ?_
    refine xN [92, 93, 94, 95, 96, 97] ?_
    refine sp (.bool true) ?_
    refine qo (t_n ?_)
    refine qP true rfl (fun _ => ?_) (fun h => absurd h (by decide))
    refine qh (qp ?_)
    refine sp (.bool false) ?_
    refine qo (t_n (xh (t_r ?_)))
    refine ret1 (.bool false) rfl rfl ⟨_, rfl, ?_, H.base⟩
    rw [xf (fun h => by obtain ⟨h1, h2, h3, h4, h5, h6, h7, h8, h9, h10, h11⟩ := h; first | contradiction | omega | exact h3 ⟨‹_›, ‹_›⟩ | (obtain ⟨q1, q2, q3, q4, q5⟩ := h11 k (by omega); first | contradiction | omega | (have := q5 (by omega); omega)))]
   rw [h8] at H
   refine rgp 26 (pp br or) 32 H ?_
   refine rgp 27 (pp br or) 32 H ?_
   refine rg 28 (pp br (or + 0)) 32 (xH br (or) 0 Tryz.underlying110 rfl rfl Tryz.sizeOf2 rfl) H ?_
   refine rg 29 (.int .i64 r.qw) 32 (xw Tryz.isAgg2 rfl (fun _ h => h.xU 3 rfl 0 rfl)) H ?_
   refine rgp 30 (.bool ((r.qw : Int) == 0)) 32 H ?_
   refine rgp 31 (.bool ((r.qw : Int) == 0)) 27 H ?_
   refine rtp 32 (.bool ((r.qw : Int) == 0)) H ?_
   refine rtp 33 (.bool ((r.qw : Int) == 0)) H ?_
   cases h51 : ((r.qw : Int) == 0)
   ·skip
    replace h51 := ne_of_beq_false h51
    refine rgp 34 (pp br or) 40 H ?_
    refine rgp 35 (pp br or) 40 H ?_
    refine rg 36 (pp br (or + 7)) 40 (xH br (or) 7 Tryz.underlying110 rfl rfl Tryz.sizeOf108 rfl) H ?_
    refine rg 37 (.slice zy r.qx.length zh) 40 (xw Tryz.isAgg108 rfl (fun _ h => h.xU 3 rfl 7 rfl)) H ?_
    refine rg 38 (.int .i64 r.qx.length) 40 (y_len Tryz.underlying108 zy r.qx.length zh rfl) H ?_
    refine rgp 39 (.bool (decide ((r.qx.length : Int) > 3))) 40 H ?_
    refine rtp 40 (.bool (decide ((r.qx.length : Int) > 3))) H ?_
    refine xZ (by kernel_rfl) (t_n ?_)
    refine qP (decide ((r.qx.length : Int) > 3)) rfl (fun h52 => ?_) (fun h52 => ?_)
    ·skip
     replace h52 := of_decide_eq_true h52
     refine qh (qp ?_)
     refine sp (.bool false) ?_
     refine qo (t_n (xh (t_r ?_)))
     refine ret1 (.bool false) rfl rfl ⟨_, rfl, ?_, H.base⟩
     rw [xf (fun h => by obtain ⟨h1, h2, h3, h4, h5, h6, h7, h8, h9, h10, h11⟩ := h; first | contradiction | omega | exact h3 ⟨‹_›, ‹_›⟩ | (obtain ⟨q1, q2, q3, q4, q5⟩ := h11 k (by omega); first | contradiction | omega | (have := q5 (by omega); omega)))]
    replace h52 := of_decide_eq_false h52
    refine xg (t_n (qh (qh (qp ?_))))
    refine sps [pp bs os, pp br or, pp br or] ?_
    refine sw (qH br (or) 2 Tryz.underlying110 rfl rfl Tryz.sizeOf22 rfl ?_)
    refine sw (qC (.slice zJ r.qI.length zI) Tryz.isAgg22 rfl (H.xU 3 rfl 2 rfl) ?_)
    refine sw (xm #[pp bs os, .slice zJ r.qI.length zI] rfl rfl Tryz.call136 (yT w5 s r.qI bs os qm ql qL qE qA xk zJ zI yV (qK (H.get 0 rfl) 0 3) (H.get 1 rfl).1 (H.get 2 rfl).1 (H.get 4 rfl).1) ?_)
    rintro _ w53 rfl x54
    replace H := H.ext x54
    refine sps [.bool (!(dec (zi s.qF r.qI))), .bool (!(dec (zi s.qF r.qI)))] ?_
    cases h55 : (!(dec (zi s.qF r.qI)))
    ·skip
     replace h55 := qN h55
     replace h55 := vT h55
     refine qO 55 rfl rfl ?_
     refine sp (pp bs os) ?_
     refine qO 55 rfl rfl ?_
     refine sp (pp br or) ?_
     refine qO 55 rfl rfl ?_
     refine sp (pp br or) ?_
     refine qO 55 rfl rfl ?_
     refine sw (qH br (or) 3 Tryz.underlying110 rfl rfl Tryz.sizeOf22 rfl ?_)
     refine qO 55 rfl rfl ?_
     refine sw (qC (.slice ve r.qW.length zZ) Tryz.isAgg22 rfl (H.xU 3 rfl 3 rfl) ?_)
     refine qO 55 rfl rfl ?_
     refine sw (xm #[pp bs os, .slice ve r.qW.length zZ] rfl rfl Tryz.call136 (yT w53 s r.qW bs os qm ql qL qE qA xk ve zZ Qw (qK (H.get 0 rfl) 0 3) (H.get 1 rfl).1 (H.get 2 rfl).1 (H.get 5 rfl).1) ?_)
     rintro _ w56 rfl x57
     replace H := H.ext x57
     refine qO 55 rfl rfl ?_
     refine sps [.bool (!(dec (zi s.qF r.qW))), .bool (!(dec (zi s.qF r.qW))), .bool (!(dec (zi s.qF r.qW)))] ?_
     cases h58 : (!(dec (zi s.qF r.qW)))
     ·skip
      replace h58 := qN h58
      replace h58 := vT h58
      refine qO 64 rfl rfl ?_
      refine sp (pp bs os) ?_
      refine qO 64 rfl rfl ?_
      refine sp (pp br or) ?_
      refine qO 64 rfl rfl ?_
      refine sp (pp br or) ?_
      refine qO 64 rfl rfl ?_
      refine sw (qH br (or) 4 Tryz.underlying110 rfl rfl Tryz.sizeOf22 rfl ?_)
      refine qO 64 rfl rfl ?_
      refine sw (qC (.slice zQ r.qX.length zO) Tryz.isAgg22 rfl (H.xU 3 rfl 4 rfl) ?_)
      refine qO 64 rfl rfl ?_
      refine sw (xm #[pp bs os, .slice zQ r.qX.length zO] rfl rfl Tryz.call136 (yT w56 s r.qX bs os qm ql qL qE qA xk zQ zO Qk (qK (H.get 0 rfl) 0 3) (H.get 1 rfl).1 (H.get 2 rfl).1 (H.get 6 rfl).1) ?_)
      rintro _ w59 rfl x60
      replace H := H.ext x60
      refine qO 64 rfl rfl ?_
      refine sps [.bool (!(dec (zi s.qF r.qX))), .bool (!(dec (zi s.qF r.qX))), .bool (!(dec (zi s.qF r.qX)))] ?_
      cases h61 : (!(dec (zi s.qF r.qX)))
      ·skip
       replace h61 := qN h61
       replace h61 := vT h61
       refine qO 73 rfl rfl ?_
       refine sp (pp bs os) ?_
       refine qO 73 rfl rfl ?_
       refine sp (pp br or) ?_
       refine qO 73 rfl rfl ?_
       refine sp (pp br or) ?_
       refine qO 73 rfl rfl ?_
       refine sw (qH br (or) 5 Tryz.underlying110 rfl rfl Tryz.sizeOf22 rfl ?_)
       refine qO 73 rfl rfl ?_
       refine sw (qC (.slice vJ r.xe.length vI) Tryz.isAgg22 rfl (H.xU 3 rfl 5 rfl) ?_)
       refine qO 73 rfl rfl ?_
       refine sw (xm #[pp bs os, .slice vJ r.xe.length vI] rfl rfl Tryz.call136 (yT w59 s r.xe bs os qm ql qL qE qA xk vJ vI QK (qK (H.get 0 rfl) 0 3) (H.get 1 rfl).1 (H.get 2 rfl).1 (H.get 7 rfl).1) ?_)
       rintro _ w62 rfl x63
       replace H := H.ext x63
       refine qO 73 rfl rfl ?_
       refine sps [.bool (!(dec (zi s.qF r.xe))), .bool (!(dec (zi s.qF r.xe))), .bool (!(dec (zi s.qF r.xe)))] ?_
       cases h64 : (!(dec (zi s.qF r.xe)))
       ·skip
        replace h64 := qN h64
        replace h64 := vT h64
        refine qO 82 rfl rfl ?_
        refine sp (pp bs os) ?_
        refine qO 82 rfl rfl ?_
        refine sp (pp br or) ?_
        refine qO 82 rfl rfl ?_
        refine sp (pp br or) ?_
        refine qO 82 rfl rfl ?_
        refine sw (qH br (or) 6 Tryz.underlying110 rfl rfl Tryz.sizeOf22 rfl ?_)
        refine qO 82 rfl rfl ?_
        refine sw (qC (.slice yj r.xO.length yh) Tryz.isAgg22 rfl (H.xU 3 rfl 6 rfl) ?_)
        refine qO 82 rfl rfl ?_
        refine sw (xm #[pp bs os, .slice yj r.xO.length yh] rfl rfl Tryz.call136 (yT w62 s r.xO bs os qm ql qL qE qA xk yj yh FrOut (qK (H.get 0 rfl) 0 3) (H.get 1 rfl).1 (H.get 2 rfl).1 (H.get 8 rfl).1) ?_)
        rintro _ w65 rfl x66
        replace H := H.ext x66
        refine qO 82 rfl rfl ?_
        refine sps [.bool (!(dec (zi s.qF r.xO))), .bool (!(dec (zi s.qF r.xO))), .bool (!(dec (zi s.qF r.xO)))] ?_
        cases h67 : (!(dec (zi s.qF r.xO)))
        ·skip
         replace h67 := qN h67
         replace h67 := vT h67
         refine qO 91 rfl rfl ?_
         refine sp (pp br or) ?_
         refine qO 91 rfl rfl ?_
         refine sp (pp br or) ?_
         refine qO 91 rfl rfl ?_
         refine sw (qH br (or) 2 Tryz.underlying110 rfl rfl Tryz.sizeOf22 rfl ?_)
         refine qO 91 rfl rfl ?_
         refine sw (qC (.slice zJ r.qI.length zI) Tryz.isAgg22 rfl (H.xU 3 rfl 2 rfl) ?_)
         refine qO 91 rfl rfl ?_
         refine sw (xm #[.slice zJ r.qI.length zI] rfl rfl Tryz.call137 (l01Size_ok w65 r.qI zJ zI yV (H.get 4 rfl).1 (by first | assumption | exact vG (by assumption) | exact Qi (by assumption))) ?_)
         rintro _ w68 rfl x69
         replace H := H.ext x69
         refine qO 91 rfl rfl ?_
         refine sps [.bool ((sumL r.qI : Int) == 0), .bool ((sumL r.qI : Int) == 0)] ?_
         refine qo (t_n ?_)
         refine qP ((sumL r.qI : Int) == 0) rfl (fun h70 => ?_) (fun h70 => ?_)
         ·skip
          replace h70 := eq_of_beq h70
          refine qh (qp ?_)
          refine sp (.bool false) ?_
          refine qo (t_n (xh (t_r ?_)))
          refine ret1 (.bool false) rfl rfl ⟨_, rfl, ?_, H.base⟩
          rw [xf (fun h => by obtain ⟨h1, h2, h3, h4, h5, h6, h7, h8, h9, h10, h11⟩ := h; first | contradiction | omega | exact h3 ⟨‹_›, ‹_›⟩ | (obtain ⟨q1, q2, q3, q4, q5⟩ := h11 k (by omega); first | contradiction | omega | (have := q5 (by omega); omega)))]
         replace h70 := ne_of_beq_false h70
         refine xg (t_n (qh (qh (qp ?_))))
         refine sp (.int .i64 0) ?_
         refine qo (t_n (xn ?_))
         refine zC (fun m' ρ w71 => ∃ (junk : Env) (k : Nat), ρ = upd (upd (upd junk 0 (pp bs os)) 1 (pp br or)) 5 (.int .i64 k) ∧ (k ≤ r.qx.length) ∧ (IntosTo s r k) ∧ m' = r.qx.length - k ∧ St w w71 [] [atF bs os [.int .i64 s.qF, .slice qm s.qg.length ql, .slice qE s.qf.length qA], isF false qL (.slice qm s.qg.length ql) s.qg, isF false xk (.slice qE s.qf.length qA) s.qf, atF br or [.int .i64 r.qw, .int .i64 r.xM, .slice zJ r.qI.length zI, .slice ve r.qW.length zZ, .slice zQ r.qX.length zO, .slice vJ r.xe.length vI, .slice yj r.xO.length yh, .slice zy r.qx.length zh, .bool true], isF false yV (.slice zJ r.qI.length zI) r.qI, isF false Qw (.slice ve r.qW.length zZ) r.qW, isF false Qk (.slice zQ r.qX.length zO) r.qX, isF false QK (.slice vJ r.xe.length vI) r.xe, isF false FrOut (.slice yj r.xO.length yh) r.xO, isF false FrInto (.slice zy r.qx.length zh) r.qx]) (r.qx.length - 0) ⟨_, 0, (by exact qj (qj (qj (rfl) rfl) rfl) rfl), (by omega), (by exact fun j hj => by omega), rfl, H⟩ ?_
         clear H
         rintro m' ρ w72 ⟨junk, k, rfl, i0, i1, rfl, H⟩
         refine qh (qh (qp ?_))
         refine sps [.int .i64 k, pp br or, pp br or] ?_
         refine sw (qH br (or) 7 Tryz.underlying110 rfl rfl Tryz.sizeOf108 rfl ?_)
         refine sw (qC (.slice zy r.qx.length zh) Tryz.isAgg108 rfl (H.xU 3 rfl 7 rfl) ?_)
         refine sw (zK Tryz.underlying108 zy r.qx.length zh rfl ?_)
         refine sp (.bool (decide ((k : Int) < r.qx.length))) ?_
         refine qo (t_n ?_)
         refine qP (decide ((k : Int) < r.qx.length)) rfl (fun h73 => ?_) (fun h73 => ?_)
         ·skip
          replace h73 := of_decide_eq_true h73
          refine xg (t_n (qh (xn (qh (qp ?_)))))
          refine sps [pp br or, pp br or] ?_
          refine sw (qH br (or) 7 Tryz.underlying110 rfl rfl Tryz.sizeOf108 rfl ?_)
          refine sw (qC (.slice zy r.qx.length zh) Tryz.isAgg108 rfl (H.xU 3 rfl 7 rfl) ?_)
          refine sp (.int .i64 k) ?_
          obtain ⟨b74, o75, rfl⟩ := H.addr 9 rfl (by omega)
          obtain ⟨ae76Bag, ce76Bag, Fe76Bag, H⟩ := H.vP 9 rfl k k (by omega) (by omega) (by omega)
          refine sw (xE k Tryz.underlying108 ti115 rfl rfl (by omega) (by omega) ?_)
          refine sp (pp b74 (o75 + (k : Int).toNat * 2)) ?_
          refine qo (t_n (qh (qh ?_)))
          refine jf rfl H fun H => ?_
          refine rtp 0 (pp b74 (o75 + (k : Int).toNat * 2)) H ?_
          refine rtp 1 (pp b74 (o75 + (k : Int).toNat * 2)) H ?_
          refine rt 2 (pp b74 (o75 + (k : Int).toNat * 2 + 0)) (xH b74 (o75 + (k : Int).toNat * 2) 0 Tryz.underlying115 rfl rfl Tryz.sizeOf2 rfl) H ?_
          refine rt 3 (.int .i64 ((r.qx[k]!).qw)) (xw Tryz.isAgg2 rfl (fun _ h => h.xU 1 rfl 0 rfl)) H ?_
          refine rtp 4 (pp bs os) H ?_
          refine rtp 5 (pp bs os) H ?_
          refine rt 6 (pp bs (os + 1)) (xH bs (os) 1 Tryz.underlying36 rfl rfl Tryz.sizeOf22 rfl) H ?_
          refine rt 7 (.slice qm s.qg.length ql) (xw Tryz.isAgg22 rfl (fun _ h => h.xU 2 rfl 1 rfl)) H ?_
          refine rt 8 (.int .i64 s.qg.length) (y_len Tryz.underlying22 qm s.qg.length ql rfl) H ?_
          refine rt 9 (.int .i64 (s.qg.length - 1)) (y_sub s.qg.length 1 rfl rfl (by omega)) H ?_
          refine zt [10] (by kernel_rfl) (by simp) (yF rfl ?_ zu)
          refine xm #[.int .i64 ((r.qx[k]!).qw), .int .i64 0, .int .i64 (s.qg.length - 1)] rfl rfl Tryz.call44 (l00In_ok w72.drew ((r.qx[k]!).qw) 0 (s.qg.length - 1)) ?_
          rintro _ w78 rfl x79
          replace H := H.ext x79
          refine ⟨H, ?_⟩
          refine rtp 11 (.bool (!(inR ((r.qx[k]!).qw) 0 (s.qg.length - 1)))) H ?_
          refine rtp 12 (.bool (!(inR ((r.qx[k]!).qw) 0 (s.qg.length - 1)))) H ?_
          cases h80 : (!(inR ((r.qx[k]!).qw) 0 (s.qg.length - 1)))
          ·skip
           replace h80 := qN h80
           replace h80 := yZ.1 h80
           refine rgp 13 (pp bs os) 126 H ?_
           refine rgp 14 (pp b74 (o75 + (k : Int).toNat * 2)) 126 H ?_
           refine rgp 15 (pp b74 (o75 + (k : Int).toNat * 2)) 126 H ?_
           refine rg 16 (pp b74 (o75 + (k : Int).toNat * 2 + 0)) 126 (xH b74 (o75 + (k : Int).toNat * 2) 0 Tryz.underlying115 rfl rfl Tryz.sizeOf2 rfl) H ?_
           refine rg 17 (.int .i64 ((r.qx[k]!).qw)) 126 (xw Tryz.isAgg2 rfl (fun _ h => h.xU 1 rfl 0 rfl)) H ?_
           refine rgp 18 (pp br or) 126 H ?_
           refine rgp 19 (pp br or) 126 H ?_
           refine rg 20 (pp br (or + 0)) 126 (xH br (or) 0 Tryz.underlying110 rfl rfl Tryz.sizeOf2 rfl) H ?_
           refine rg 21 (.int .i64 r.qw) 126 (xw Tryz.isAgg2 rfl (fun _ h => h.xU 5 rfl 0 rfl)) H ?_
           refine zt [22] (by kernel_rfl) (by simp) (r_opG rfl (e := 126) rfl rfl ?_ zu)
           refine xm #[pp bs os, .int .i64 ((r.qx[k]!).qw), .int .i64 r.qw] rfl rfl Tryz.call138 (l02In_ok w78 s ((r.qx[k]!).qw) r.qw bs os qm ql qL qE qA xk (qK (H.get 2 rfl) 0 3) (H.get 3 rfl).1 (H.get 4 rfl).1 (by assumption) (by assumption)) ?_
           rintro _ w81 rfl x82
           replace H := H.ext x82
           refine ⟨H, ?_⟩
           refine rgp 23 (.bool (!(dec (Lies s.qg r.qw ((r.qx[k]!).qw))))) 126 H ?_
           refine rtp 24 (.bool (!(dec (Lies s.qg r.qw ((r.qx[k]!).qw))))) H ?_
           refine rtp 25 (.bool (!(dec (Lies s.qg r.qw ((r.qx[k]!).qw))))) H ?_
           cases h83 : (!(dec (Lies s.qg r.qw ((r.qx[k]!).qw))))
           ·skip
            replace h83 := qN h83
            replace h83 := vT h83
            refine rgp 26 (pp bs os) 139 H ?_
            refine rgp 27 (pp b74 (o75 + (k : Int).toNat * 2)) 139 H ?_
            refine rgp 28 (pp b74 (o75 + (k : Int).toNat * 2)) 139 H ?_
            refine rg 29 (pp b74 (o75 + (k : Int).toNat * 2 + 1)) 139 (xH b74 (o75 + (k : Int).toNat * 2) 1 Tryz.underlying115 rfl rfl Tryz.sizeOf22 rfl) H ?_
            refine rg 30 (.slice ae76Bag (((r.qx[k]!).zF).length) ce76Bag) 139 (xw Tryz.isAgg22 rfl (fun _ h => h.xU 1 rfl 1 rfl)) H ?_
            refine zt [31] (by kernel_rfl) (by simp) (r_opG rfl (e := 139) rfl rfl ?_ zu)
            refine xm #[pp bs os, .slice ae76Bag (((r.qx[k]!).zF).length) ce76Bag] rfl rfl Tryz.call136 (yT w81 s ((r.qx[k]!).zF) bs os qm ql qL qE qA xk ae76Bag ce76Bag Fe76Bag (qK (H.get 2 rfl) 0 3) (H.get 3 rfl).1 (H.get 4 rfl).1 (H.get 0 rfl).1) ?_
            rintro _ w84 rfl x85
            replace H := H.ext x85
            refine ⟨H, ?_⟩
            refine rgp 32 (.bool (!(dec (zi s.qF ((r.qx[k]!).zF))))) 139 H ?_
            refine rtp 33 (.bool (!(dec (zi s.qF ((r.qx[k]!).zF))))) H ?_
            refine rtp 34 (.bool (!(dec (zi s.qF ((r.qx[k]!).zF))))) H ?_
            cases h86 : (!(dec (zi s.qF ((r.qx[k]!).zF))))
            ·skip
             replace h86 := qN h86
             replace h86 := vT h86
             refine rgp 35 (pp b74 (o75 + (k : Int).toNat * 2)) 148 H ?_
             refine rgp 36 (pp b74 (o75 + (k : Int).toNat * 2)) 148 H ?_
             refine rg 37 (pp b74 (o75 + (k : Int).toNat * 2 + 1)) 148 (xH b74 (o75 + (k : Int).toNat * 2) 1 Tryz.underlying115 rfl rfl Tryz.sizeOf22 rfl) H ?_
             refine rg 38 (.slice ae76Bag (((r.qx[k]!).zF).length) ce76Bag) 148 (xw Tryz.isAgg22 rfl (fun _ h => h.xU 1 rfl 1 rfl)) H ?_
             refine zt [39] (by kernel_rfl) (by simp) (r_opG rfl (e := 148) rfl rfl ?_ zu)
             refine xm #[.slice ae76Bag (((r.qx[k]!).zF).length) ce76Bag] rfl rfl Tryz.call137 (l01Size_ok w84 ((r.qx[k]!).zF) ae76Bag ce76Bag Fe76Bag (H.get 0 rfl).1 (by first | assumption | exact vG (by assumption) | exact Qi (by assumption))) ?_
             rintro _ w87 rfl x88
             replace H := H.ext x88
             refine ⟨H, ?_⟩
             refine rgp 40 (.bool ((sumL ((r.qx[k]!).zF) : Int) == 0)) 148 H ?_
             refine rtp 41 (.bool ((sumL ((r.qx[k]!).zF) : Int) == 0)) H ?_
             refine xZ (by kernel_rfl) (t_n ?_)
             refine qP ((sumL ((r.qx[k]!).zF) : Int) == 0) rfl (fun h89 => ?_) (fun h89 => ?_)
             ·skip
              replace h89 := eq_of_beq h89
              refine qh (qp ?_)
              refine sp (.bool false) ?_
              refine qo (t_n (xh (t_r (b_r (t_r (t_r (b_r (t_r ?_))))))))
              refine ret1 (.bool false) rfl rfl ⟨_, rfl, ?_, H.base⟩
              rw [xf (fun h => by obtain ⟨h1, h2, h3, h4, h5, h6, h7, h8, h9, h10, h11⟩ := h; first | contradiction | omega | exact h3 ⟨‹_›, ‹_›⟩ | (obtain ⟨q1, q2, q3, q4, q5⟩ := h11 k (by omega); first | contradiction | omega | (have := q5 (by omega); omega)))]
             replace h89 := ne_of_beq_false h89
             refine xg (t_n (qh ?_))
             refine jf rfl H fun H => ?_
             refine rtp 0 (.int .i64 k) H ?_
             refine rtp 1 (.bool (decide ((k : Int) > 0))) H ?_
             refine rtp 2 (.bool (decide ((k : Int) > 0))) H ?_
             cases h91 : (decide ((k : Int) > 0))
             ·skip
              replace h91 := of_decide_eq_false h91
              refine zq [3, 4, 5, 6, 7, 8, 9, 10, 11, 12, 13, 14, 15, 16] 14 (H) ?_
              refine rtp 17 (.bool false) H ?_
              refine xZ (by kernel_rfl) (t_n ?_)
              refine qP false rfl (fun h => absurd h (by decide)) (fun _ => ?_)
              refine xg (b_n (t_n (qp ?_)))
              refine sp (.int .i64 k) ?_
              refine sw (zD k 1 rfl rfl (by omega) ?_)
              refine sp (.int .i64 (k + 1)) ?_
              refine qo ?_
              refine xy (m' := r.qx.length - (k + 1)) (by omega) ⟨_, k + 1, (by exact qj (qj (qj (rfl) rfl) rfl) rfl), ?_, ?_, rfl, H.sel _ (.refl _) _ (by simp)⟩
              · omega
              · exact i1.succ ⟨‹_›, ‹_›, ‹_›, ‹_›, fun hk => by omega⟩
             replace h91 := of_decide_eq_true h91
             refine rgp 3 (pp br or) 158 H ?_
             refine rgp 4 (pp br or) 158 H ?_
             refine rg 5 (pp br (or + 7)) 158 (xH br (or) 7 Tryz.underlying110 rfl rfl Tryz.sizeOf108 rfl) H ?_
             refine rg 6 (.slice (aa b74 o75) r.qx.length zh) 158 (xw Tryz.isAgg108 rfl (fun _ h => h.xU 5 rfl 7 rfl)) H ?_
             refine rgp 7 (.int .i64 k) 158 H ?_
             refine rg 8 (.int .i64 (k - 1)) 158 (y_sub k 1 rfl rfl (by omega)) H ?_
             obtain ⟨ae92Bag, ce92Bag, Fe92Bag, H⟩ := H.vP 11 rfl (k - 1) (k - 1) (by omega) (by omega) (by omega)
             refine rg 9 (pp b74 (o75 + (k - 1 : Int).toNat * 2)) 158 (xQ b74 (o75) r.qx.length zh (k - 1) Tryz.underlying108 ti115 rfl rfl (by omega) (by omega)) (H.sel _ (.refl _) _ (fun _ h => List.mem_cons_of_mem _ (List.mem_cons_of_mem _ (h)))) ?_
             refine rg 10 (pp b74 (o75 + (k - 1 : Int).toNat * 2 + 0)) 158 (xH b74 (o75 + (k - 1 : Int).toNat * 2) 0 Tryz.underlying115 rfl rfl Tryz.sizeOf2 rfl) (H.sel _ (.refl _) _ (fun _ h => List.mem_cons_of_mem _ (List.mem_cons_of_mem _ (h)))) ?_
             refine rgp 12 (pp b74 (o75 + (k : Int).toNat * 2)) 158 (H.sel _ (.refl _) _ (fun _ h => List.mem_cons_of_mem _ (List.mem_cons_of_mem _ (h)))) ?_
             refine rgp 13 (pp b74 (o75 + (k : Int).toNat * 2)) 158 (H.sel _ (.refl _) _ (fun _ h => List.mem_cons_of_mem _ (List.mem_cons_of_mem _ (h)))) ?_
             refine rg 14 (pp b74 (o75 + (k : Int).toNat * 2 + 0)) 158 (xH b74 (o75 + (k : Int).toNat * 2) 0 Tryz.underlying115 rfl rfl Tryz.sizeOf2 rfl) (H.sel _ (.refl _) _ (fun _ h => List.mem_cons_of_mem _ (List.mem_cons_of_mem _ (h)))) ?_
             refine rg 15 (.int .i64 ((r.qx[k]!).qw)) 158 (xw Tryz.isAgg2 rfl (fun _ h => h.xU 1 rfl 0 rfl)) (H.sel _ (.refl _) _ (fun _ h => List.mem_cons_of_mem _ (List.mem_cons_of_mem _ (h)))) ?_
             refine zt [11] (by kernel_rfl) (by simp) (r_opG rfl (e := 158) rfl rfl ?_ zu)
             refine qC (.int .i64 ((r.qx[k - 1]!).qw)) Tryz.isAgg2 rfl (H.xU 1 rfl 0 rfl) ?_
             refine ⟨H.sel _ (.refl _) _ (fun _ h => List.mem_cons_of_mem _ (List.mem_cons_of_mem _ (h))), ?_⟩
             refine rgp 16 (.bool (decide (((r.qx[k - 1]!).qw : Int) ≥ ((r.qx[k]!).qw)))) 158 (H.sel _ (.refl _) _ (fun _ h => List.mem_cons_of_mem _ (List.mem_cons_of_mem _ (h)))) ?_
             refine rtp 17 (.bool (decide (((r.qx[k - 1]!).qw : Int) ≥ ((r.qx[k]!).qw)))) (H.sel _ (.refl _) _ (fun _ h => List.mem_cons_of_mem _ (List.mem_cons_of_mem _ (h)))) ?_
             refine xZ (by kernel_rfl) (t_n ?_)
             refine qP (decide (((r.qx[k - 1]!).qw : Int) ≥ ((r.qx[k]!).qw))) rfl (fun h93 => ?_) (fun h93 => ?_)
             ·skip
              replace h93 := of_decide_eq_true h93
              refine qh (qp ?_)
              refine sp (.bool false) ?_
              refine qo (t_n (xh (b_r (t_r (t_r (b_r (t_r ?_)))))))
              refine ret1 (.bool false) rfl rfl ⟨_, rfl, ?_, H.base⟩
              rw [xf (fun h => by obtain ⟨h1, h2, h3, h4, h5, h6, h7, h8, h9, h10, h11⟩ := h; first | contradiction | omega | exact h3 ⟨‹_›, ‹_›⟩ | (obtain ⟨q1, q2, q3, q4, q5⟩ := h11 k (by omega); first | contradiction | omega | (have := q5 (by omega); omega)))]
             replace h93 := of_decide_eq_false h93
             refine xg (b_n (t_n (qp ?_)))
             refine sp (.int .i64 k) ?_
             refine sw (zD k 1 rfl rfl (by omega) ?_)
             refine sp (.int .i64 (k + 1)) ?_
             refine qo ?_
             refine xy (m' := r.qx.length - (k + 1)) (by omega) ⟨_, k + 1, (by exact qj (qj (qj (rfl) rfl) rfl) rfl), ?_, ?_, rfl, H.sel _ (.refl _) _ (by simp)⟩
             · omega
             · exact i1.succ ⟨‹_›, ‹_›, ‹_›, ‹_›, fun hk => by omega⟩
            replace h86 := qQ h86
            replace h86 := xP h86
            refine zq [35, 36, 37, 38, 39, 40] 6 (H) ?_
            refine rtp 41 (.bool true) H ?_
            refine xZ (by kernel_rfl) (t_n ?_)
            refine qP true rfl (fun _ => ?_) (fun h => absurd h (by decide))
            refine qh (qp ?_)
            refine sp (.bool false) ?_
            refine qo (t_n (xh (t_r (b_r (t_r (t_r (b_r (t_r ?_))))))))
            refine ret1 (.bool false) rfl rfl ⟨_, rfl, ?_, H.base⟩
            rw [xf (fun h => by obtain ⟨h1, h2, h3, h4, h5, h6, h7, h8, h9, h10, h11⟩ := h; first | contradiction | omega | exact h3 ⟨‹_›, ‹_›⟩ | (obtain ⟨q1, q2, q3, q4, q5⟩ := h11 k (by omega); first | contradiction | omega | (have := q5 (by omega); omega)))]
           replace h83 := qQ h83
           replace h83 := xP h83
           refine zq [26, 27, 28, 29, 30, 31, 32] 7 (H) ?_
           refine rtp 33 (.bool true) H ?_
           refine rtp 34 (.bool true) H ?_
           refine zq [35, 36, 37, 38, 39, 40] 6 (H) ?_
           refine rtp 41 (.bool true) H ?_
           refine xZ (by kernel_rfl) (t_n ?_)
           refine qP true rfl (fun _ => ?_) (fun h => absurd h (by decide))
           refine qh (qp ?_)
           refine sp (.bool false) ?_
           refine qo (t_n (xh (t_r (b_r (t_r (t_r (b_r (t_r ?_))))))))
           refine ret1 (.bool false) rfl rfl ⟨_, rfl, ?_, H.base⟩
           rw [xf (fun h => by obtain ⟨h1, h2, h3, h4, h5, h6, h7, h8, h9, h10, h11⟩ := h; first | contradiction | omega | exact h3 ⟨‹_›, ‹_›⟩ | (obtain ⟨q1, q2, q3, q4, q5⟩ := h11 k (by omega); first | contradiction | omega | (have := q5 (by omega); omega)))]
          replace h80 := qQ h80
          replace h80 := Qx h80
          refine zq [13, 14, 15, 16, 17, 18, 19, 20, 21, 22, 23] 11 (H) ?_
          refine rtp 24 (.bool true) H ?_
          refine rtp 25 (.bool true) H ?_
          refine zq [26, 27, 28, 29, 30, 31, 32] 7 (H) ?_
          refine rtp 33 (.bool true) H ?_
          refine rtp 34 (.bool true) H ?_
          refine zq [35, 36, 37, 38, 39, 40] 6 (H) ?_
          refine rtp 41 (.bool true) H ?_
          refine xZ (by kernel_rfl) (t_n ?_)
          refine qP true rfl (fun _ => ?_) (fun h => absurd h (by decide))
          refine qh (qp ?_)
          refine sp (.bool false) ?_
          refine qo (t_n (xh (t_r (b_r (t_r (t_r (b_r (t_r ?_))))))))
          refine ret1 (.bool false) rfl rfl ⟨_, rfl, ?_, H.base⟩
          rw [xf (fun h => by obtain ⟨h1, h2, h3, h4, h5, h6, h7, h8, h9, h10, h11⟩ := h; first | contradiction | omega | exact h3 ⟨‹_›, ‹_›⟩ | (obtain ⟨q1, q2, q3, q4, q5⟩ := h11 k (by omega); first | contradiction | omega | (have := q5 (by omega); omega)))]
         replace h73 := of_decide_eq_false h73
         refine zx (t_x (t_x (b_x (t_n (qh (qp ?_))))))
         refine sp (.bool true) ?_
         refine qo (t_n (xh ?_))
         refine ret1 (.bool true) rfl rfl ⟨_, rfl, ?_, H.base⟩
         obtain rfl : k = r.qx.length := by omega
         rw [jD ⟨by assumption, by omega, by simp_all, by omega, by assumption, by assumption, by assumption, by assumption, by assumption, by assumption, i1⟩]
        replace h67 := qQ h67
        replace h67 := xP h67
        refine xN [92, 93, 94, 95, 96, 97] ?_
        refine sp (.bool true) ?_
        refine qo (t_n ?_)
        refine qP true rfl (fun _ => ?_) (fun h => absurd h (by decide))
        refine qh (qp ?_)
        refine sp (.bool false) ?_
        refine qo (t_n (xh (t_r ?_)))
        refine ret1 (.bool false) rfl rfl ⟨_, rfl, ?_, H.base⟩
        rw [xf (fun h => by obtain ⟨h1, h2, h3, h4, h5, h6, h7, h8, h9, h10, h11⟩ := h; first | contradiction | omega | exact h3 ⟨‹_›, ‹_›⟩ | (obtain ⟨q1, q2, q3, q4, q5⟩ := h11 k (by omega); first | contradiction | omega | (have := q5 (by omega); omega)))]
       replace h64 := qQ h64
       replace h64 := xP h64
       refine xN [83, 84, 85, 86, 87, 88, 89] ?_
       refine sps [.bool true, .bool true] ?_
       refine xN [92, 93, 94, 95, 96, 97] ?_
       refine sp (.bool true) ?_
       refine qo (t_n ?_)
       refine qP true rfl (fun _ => ?_) (fun h => absurd h (by decide))
       refine qh (qp ?_)
       refine sp (.bool false) ?_
       refine qo (t_n (xh (t_r ?_)))
       refine ret1 (.bool false) rfl rfl ⟨_, rfl, ?_, H.base⟩
       rw [xf (fun h => by obtain ⟨h1, h2, h3, h4, h5, h6, h7, h8, h9, h10, h11⟩ := h; first | contradiction | omega | exact h3 ⟨‹_›, ‹_›⟩ | (obtain ⟨q1, q2, q3, q4, q5⟩ := h11 k (by omega); first | contradiction | omega | (have := q5 (by omega); omega)))]
      replace h61 := qQ h61
      replace h61 := xP h61
      refine xN [74, 75, 76, 77, 78, 79, 80] ?_
      refine sps [.bool true, .bool true] ?_
      refine xN [83, 84, 85, 86, 87, 88, 89] ?_
      refine sps [.bool true, .bool true] ?_
      refine xN [92, 93, 94, 95, 96, 97] ?_
      refine sp (.bool true) ?_
      refine qo (t_n ?_)
      refine qP true rfl (fun _ => ?_) (fun h => absurd h (by decide))
      refine qh (qp ?_)
      refine sp (.bool false) ?_
      refine qo (t_n (xh (t_r ?_)))
      refine ret1 (.bool false) rfl rfl ⟨_, rfl, ?_, H.base⟩
      rw [xf (fun h => by obtain ⟨h1, h2, h3, h4, h5, h6, h7, h8, h9, h10, h11⟩ := h; first | contradiction | omega | exact h3 ⟨‹_›, ‹_›⟩ | (obtain ⟨q1, q2, q3, q4, q5⟩ := h11 k (by omega); first | contradiction | omega | (have := q5 (by omega); omega)))]
     replace h58 := qQ h58
     replace h58 := xP h58
     refine xN [65, 66, 67, 68, 69, 70, 71] ?_
     refine sps [.bool true, .bool true] ?_
     refine xN [74, 75, 76, 77, 78, 79, 80] ?_
     refine sps [.bool true, .bool true] ?_
     refine xN [83, 84, 85, 86, 87, 88, 89] ?_
     refine sps [.bool true, .bool true] ?_
     refine xN [92, 93, 94, 95, 96, 97] ?_
     refine sp (.bool true) ?_
     refine qo (t_n ?_)
     refine qP true rfl (fun _ => ?_) (fun h => absurd h (by decide))
     refine qh (qp ?_)
     refine sp (.bool false) ?_
     refine qo (t_n (xh (t_r ?_)))
     refine ret1 (.bool false) rfl rfl ⟨_, rfl, ?_, H.base⟩
     rw [xf (fun h => by obtain ⟨h1, h2, h3, h4, h5, h6, h7, h8, h9, h10, h11⟩ := h; first | contradiction | omega | exact h3 ⟨‹_›, ‹_›⟩ | (obtain ⟨q1, q2, q3, q4, q5⟩ := h11 k (by omega); first | contradiction | omega | (have := q5 (by omega); omega)))]
    replace h55 := qQ h55
    replace h55 := xP h55
    refine xN [56, 57, 58, 59, 60, 61, 62] ?_
    refine sps [.bool true, .bool true] ?_
    refine xN [65, 66, 67, 68, 69, 70, 71] ?_
    refine sps [.bool true, .bool true] ?_
    refine xN [74, 75, 76, 77, 78, 79, 80] ?_
    refine sps [.bool true, .bool true] ?_
    refine xN [83, 84, 85, 86, 87, 88, 89] ?_
    refine sps [.bool true, .bool true] ?_
    refine xN [92, 93, 94, 95, 96, 97] ?_
    refine sp (.bool true) ?_
    refine qo (t_n ?_)
    refine qP true rfl (fun _ => ?_) (fun h => absurd h (by decide))
    refine qh (qp ?_)
    refine sp (.bool false) ?_
    refine qo (t_n (xh (t_r ?_)))
    refine ret1 (.bool false) rfl rfl ⟨_, rfl, ?_, H.base⟩
    rw [xf (fun h => by obtain ⟨h1, h2, h3, h4, h5, h6, h7, h8, h9, h10, h11⟩ := h; first | contradiction | omega | exact h3 ⟨‹_›, ‹_›⟩ | (obtain ⟨q1, q2, q3, q4, q5⟩ := h11 k (by omega); first | contradiction | omega | (have := q5 (by omega); omega)))]
   replace h51 := eq_of_beq h51
   refine zq [34, 35, 36, 37, 38, 39] 6 (H) ?_
   refine rtp 40 (.bool true) H ?_
   refine xZ (by kernel_rfl) (t_n ?_)
   refine qP true rfl (fun _ => ?_) (fun h => absurd h (by decide))
   refine qh (qp ?_)
   refine sp (.bool false) ?_
   refine qo (t_n (xh (t_r ?_)))
   refine ret1 (.bool false) rfl rfl ⟨_, rfl, ?_, H.base⟩
   rw [xf (fun h => by obtain ⟨h1, h2, h3, h4, h5, h6, h7, h8, h9, h10, h11⟩ := h; first | contradiction | omega | exact h3 ⟨‹_›, ‹_›⟩ | (obtain ⟨q1, q2, q3, q4, q5⟩ := h11 k (by omega); first | contradiction | omega | (have := q5 (by omega); omega)))]
  replace h7 := qQ h7
  replace h7 := Qx h7
  refine zq [21, 22, 23, 24, 25, 26, 27, 28, 29, 30, 31] 11 (H) ?_
  refine rtp 32 (.bool true) H ?_
  refine rtp 33 (.bool true) H ?_
  refine zq [34, 35, 36, 37, 38, 39] 6 (H) ?_
  refine rtp 40 (.bool true) H ?_
  refine xZ (by kernel_rfl) (t_n ?_)
  refine qP true rfl (fun _ => ?_) (fun h => absurd h (by decide))
  refine qh (qp ?_)
  refine sp (.bool false) ?_
  refine qo (t_n (xh (t_r ?_)))
  refine ret1 (.bool false) rfl rfl ⟨_, rfl, ?_, H.base⟩
  rw [xf (fun h => by obtain ⟨h1, h2, h3, h4, h5, h6, h7, h8, h9, h10, h11⟩ := h; first | contradiction | omega | exact h3 ⟨‹_›, ‹_›⟩ | (obtain ⟨q1, q2, q3, q4, q5⟩ := h11 k (by omega); first | contradiction | omega | (have := q5 (by omega); omega)))]
 replace h4 := qQ h4
 replace h4 := Qx h4
 refine zq [13, 14, 15, 16, 17, 18] 6 (H) ?_
 refine rtp 19 (.bool true) H ?_
 refine rtp 20 (.bool true) H ?_
 refine zq [21, 22, 23, 24, 25, 26, 27, 28, 29, 30, 31] 11 (H) ?_
 refine rtp 32 (.bool true) H ?_
 refine rtp 33 (.bool true) H ?_
 refine zq [34, 35, 36, 37, 38, 39] 6 (H) ?_
 refine rtp 40 (.bool true) H ?_
 refine xZ (by kernel_rfl) (t_n ?_)
 refine qP true rfl (fun _ => ?_) (fun h => absurd h (by decide))
 refine qh (qp ?_)
 refine sp (.bool false) ?_
 refine qo (t_n (xh (t_r ?_)))
 refine ret1 (.bool false) rfl rfl ⟨_, rfl, ?_, H.base⟩
 rw [xf (fun h => by obtain ⟨h1, h2, h3, h4, h5, h6, h7, h8, h9, h10, h11⟩ := h; first | contradiction | omega | exact h3 ⟨‹_›, ‹_›⟩ | (obtain ⟨q1, q2, q3, q4, q5⟩ := h11 k (by omega); first | contradiction | omega | (have := q5 (by omega); omega)))]

theorem l02State_ok (w : World) (s : qR) (t : xF) (bs os : Nat) (qm : Option Addr) (ql : Nat) (qL : List Nat) (qE : Option Addr) (qA : Nat) (xk : List Nat) (bt ot : Nat) (xu : Option Addr) (qZ : Nat) (xY : List Nat) (xB : Option Addr) (xx : Nat) (zG : List Nat) (qV : Option Addr) (qU : Nat) (xJ : List Nat) (hs : vg w bs os [.int .i64 s.qF, .slice qm s.qg.length ql, .slice qE s.qf.length qA]) (qY : qM.rep w qL [.slice qm s.qg.length ql] s.qg) (xA : qM.rep w xk [.slice qE s.qf.length qA] s.qf) (ht : vg w bt ot [.slice xu t.qy.length qZ, .slice xB t.qG.length xx, .slice qV t.qB.length qU]) (zo : qM.rep w xY [.slice xu t.qy.length qZ] t.qy) (zT : qM.rep w zG [.slice xB t.qG.length xx] t.qG) (xR : qM.rep w xJ [.slice qV t.qB.length qU] t.qB) (p0 : vZ s) : Calls Tryz.prog 85 #[pp bs os, pp bt ot] w (Ret (fun v w' => v = .bool (dec (zY s t))) w) := by
 refine enter (n := 88) Tryz.func85 rfl Tryz.ntmps85 (Nat.le_of_ble_eq_true rfl) ?_
 have H := (((((((St.start w).arg xR).arg zT).arg zo).argAt ht).arg xA).arg qY).argAt hs
 have zH := qJ qY
 have vN := qJ xA
 have QB := qJ zo
 have nhtBags := qJ zT
 have yS := qJ xR
 clear hs qY xA ht zo zT xR
 have p1 := p0.2.1
 refine qh (qp ?_)
 refine sp (.bool false) ?_
 refine qo (t_n (qh (qh ?_)))
 refine jf rfl H fun H => ?_
 refine rtp 0 (pp bt ot) H ?_
 refine rtp 1 (pp bt ot) H ?_
 refine rt 2 (pp bt (ot + 0)) (xH bt (ot) 0 Tryz.underlying38 rfl rfl Tryz.sizeOf26 rfl) H ?_
 refine rt 3 (.slice xu t.qy.length qZ) (xw Tryz.isAgg26 rfl (fun _ h => h.xU 3 rfl 0 rfl)) H ?_
 refine rt 4 (.int .i64 t.qy.length) (y_len Tryz.underlying26 xu t.qy.length qZ rfl) H ?_
 refine rtp 5 (pp bs os) H ?_
 refine rtp 6 (pp bs os) H ?_
 refine rt 7 (pp bs (os + 1)) (xH bs (os) 1 Tryz.underlying36 rfl rfl Tryz.sizeOf22 rfl) H ?_
 refine rt 8 (.slice qm s.qg.length ql) (xw Tryz.isAgg22 rfl (fun _ h => h.xU 0 rfl 1 rfl)) H ?_
 refine rt 9 (.int .i64 s.qg.length) (y_len Tryz.underlying22 qm s.qg.length ql rfl) H ?_
 refine rtp 10 (.bool ((t.qy.length : Int) != s.qg.length)) H ?_
 refine rtp 11 (.bool ((t.qy.length : Int) != s.qg.length)) H ?_
 cases h2 : ((t.qy.length : Int) != s.qg.length)
 ·skip
  replace h2 := xI h2
  refine rgp 12 (pp bt ot) 17 H ?_
  refine rgp 13 (pp bt ot) 17 H ?_
  refine rg 14 (pp bt (ot + 1)) 17 (xH bt (ot) 1 Tryz.underlying38 rfl rfl Tryz.sizeOf27 rfl) H ?_
  refine rg 15 (.slice xB t.qG.length xx) 17 (xw Tryz.isAgg27 rfl (fun _ h => h.xU 3 rfl 1 rfl)) H ?_
  refine rg 16 (.int .i64 t.qG.length) 17 (y_len Tryz.underlying27 xB t.qG.length xx rfl) H ?_
  refine rgp 17 (pp bs os) 17 H ?_
  refine rgp 18 (pp bs os) 17 H ?_
  refine rg 19 (pp bs (os + 1)) 17 (xH bs (os) 1 Tryz.underlying36 rfl rfl Tryz.sizeOf22 rfl) H ?_
  refine rg 20 (.slice qm s.qg.length ql) 17 (xw Tryz.isAgg22 rfl (fun _ h => h.xU 0 rfl 1 rfl)) H ?_
  refine rg 21 (.int .i64 s.qg.length) 17 (y_len Tryz.underlying22 qm s.qg.length ql rfl) H ?_
  refine rgp 22 (.bool ((t.qG.length : Int) != s.qg.length)) 17 H ?_
  refine rtp 23 (.bool ((t.qG.length : Int) != s.qg.length)) H ?_
  refine rtp 24 (.bool ((t.qG.length : Int) != s.qg.length)) H ?_
  cases h3 : ((t.qG.length : Int) != s.qg.length)
  ·skip
   replace h3 := xI h3
   refine rgp 25 (pp bt ot) 30 H ?_
   refine rgp 26 (pp bt ot) 30 H ?_
   refine rg 27 (pp bt (ot + 0)) 30 (xH bt (ot) 0 Tryz.underlying38 rfl rfl Tryz.sizeOf26 rfl) H ?_
   refine rg 28 (.slice xu t.qy.length qZ) 30 (xw Tryz.isAgg26 rfl (fun _ h => h.xU 3 rfl 0 rfl)) H ?_
   obtain ⟨b4, o5, rfl⟩ := H.addr 4 rfl (by omega)
   refine rg 29 (pp b4 (o5 + (0 : Int).toNat * 1)) 30 (xQ b4 (o5) t.qy.length qZ 0 Tryz.underlying26 ti4 rfl rfl (by omega) (by omega)) H ?_
   refine rg 30 (.bool (t.qy[0]!)) 30 (xw Tryz.isAgg4 rfl (fun _ h => h.yU 4 rfl 0 (by omega) (by omega))) H ?_
   refine rgp 31 (.bool (!(t.qy[0]!))) 30 H ?_
   refine rtp 32 (.bool (!(t.qy[0]!))) H ?_
   refine rtp 33 (.bool (!(t.qy[0]!))) H ?_
   cases h6 : (!(t.qy[0]!))
   ·skip
    replace h6 := qN h6
    refine rgp 34 (pp bs os) 39 H ?_
    refine rgp 35 (pp bt ot) 39 H ?_
    refine rgp 36 (pp bt ot) 39 H ?_
    refine rg 37 (pp bt (ot + 2)) 39 (xH bt (ot) 2 Tryz.underlying38 rfl rfl Tryz.sizeOf22 rfl) H ?_
    refine rg 38 (.slice qV t.qB.length qU) 39 (xw Tryz.isAgg22 rfl (fun _ h => h.xU 3 rfl 2 rfl)) H ?_
    refine zt [39] (by kernel_rfl) (by simp) (r_opG rfl (e := 39) rfl rfl ?_ zu)
    refine xm #[pp bs os, .slice qV t.qB.length qU] rfl rfl Tryz.call136 (yT w.drew s t.qB bs os qm ql qL qE qA xk qV qU xJ (qK (H.get 0 rfl) 0 3) (H.get 1 rfl).1 (H.get 2 rfl).1 (H.get 6 rfl).1) ?_
    rintro _ w7 rfl x8
    replace H := H.ext x8
    refine ⟨H, ?_⟩
    refine rgp 40 (.bool (!(dec (zi s.qF t.qB)))) 39 H ?_
    refine rtp 41 (.bool (!(dec (zi s.qF t.qB)))) H ?_
    refine xZ (by kernel_rfl) (t_n ?_)
    refine qP (!(dec (zi s.qF t.qB))) rfl (fun h9 => ?_) (fun h9 => ?_)
    ·skip
     replace h9 := qQ h9
     replace h9 := xP h9
     refine qh (qp ?_)
     refine sp (.bool false) ?_
     refine qo (t_n (xh (t_r ?_)))
     refine ret1 (.bool false) rfl rfl ⟨_, rfl, ?_, H.base⟩
     rw [xf (fun h => by obtain ⟨h1, h2, h3, h4, h5⟩ := h; first | contradiction | omega | (simp_all; done) | (obtain ⟨q1, q2⟩ := h5 k (by omega); first | contradiction | (have := q2 (by assumption); omega)))]
    replace h9 := qN h9
    replace h9 := vT h9
    refine xg (t_n (qh (qh (qp ?_))))
    refine sp (.int .i64 0) ?_
    refine qo (t_n (xn ?_))
    refine zC (fun m' ρ w10 => ∃ (junk : Env) (k : Nat), ρ = upd (upd (upd junk 0 (pp bs os)) 1 (pp bt ot)) 5 (.int .i64 k) ∧ (k ≤ t.qG.length) ∧ (BagsTo s t k) ∧ m' = t.qG.length - k ∧ St w w10 [] [atF bs os [.int .i64 s.qF, .slice qm s.qg.length ql, .slice qE s.qf.length qA], isF false qL (.slice qm s.qg.length ql) s.qg, isF false xk (.slice qE s.qf.length qA) s.qf, atF bt ot [.slice (aa b4 o5) t.qy.length qZ, .slice xB t.qG.length xx, .slice qV t.qB.length qU], isF false xY (.slice (aa b4 o5) t.qy.length qZ) t.qy, isF false zG (.slice xB t.qG.length xx) t.qG, isF false xJ (.slice qV t.qB.length qU) t.qB]) (t.qG.length - 0) ⟨_, 0, (by exact qj (qj (qj (rfl) rfl) rfl) rfl), (by omega), (by exact fun j hj => by omega), rfl, H⟩ ?_
    clear H
    rintro m' ρ w11 ⟨junk, k, rfl, i0, i1, rfl, H⟩
    refine qh (qh (qp ?_))
    refine sps [.int .i64 k, pp bt ot, pp bt ot] ?_
    refine sw (qH bt (ot) 1 Tryz.underlying38 rfl rfl Tryz.sizeOf27 rfl ?_)
    refine sw (qC (.slice xB t.qG.length xx) Tryz.isAgg27 rfl (H.xU 3 rfl 1 rfl) ?_)
    refine sw (zK Tryz.underlying27 xB t.qG.length xx rfl ?_)
    refine sp (.bool (decide ((k : Int) < t.qG.length))) ?_
    refine qo (t_n ?_)
    refine qP (decide ((k : Int) < t.qG.length)) rfl (fun h12 => ?_) (fun h12 => ?_)
    ·skip
     replace h12 := of_decide_eq_true h12
     refine xg (t_n (qh (xn (qh (qp ?_)))))
     refine sps [pp bs os, pp bt ot, pp bt ot] ?_
     refine sw (qH bt (ot) 1 Tryz.underlying38 rfl rfl Tryz.sizeOf27 rfl ?_)
     refine sw (qC (.slice xB t.qG.length xx) Tryz.isAgg27 rfl (H.xU 3 rfl 1 rfl) ?_)
     refine sp (.int .i64 k) ?_
     obtain ⟨b13, o14, rfl⟩ := H.addr 5 rfl (by omega)
     obtain ⟨ae15, ce15, Fe15, H⟩ := H.Xk 5 rfl k k (by omega) (by omega) (by omega)
     refine sw (xE k Tryz.underlying27 ti22 rfl rfl (by omega) (by omega) ?_)
     refine sw (qC (.slice ae15 ((t.qG[k]!).length) ce15) Tryz.isAgg22 rfl (H.xU 1 rfl 0 rfl) ?_)
     refine sw (xm #[pp bs os, .slice ae15 ((t.qG[k]!).length) ce15] rfl rfl Tryz.call136 (yT w11 s (t.qG[k]!) bs os qm ql qL qE qA xk ae15 ce15 Fe15 (qK (H.get 2 rfl) 0 3) (H.get 3 rfl).1 (H.get 4 rfl).1 (H.get 0 rfl).1) ?_)
     rintro _ w16 rfl x17
     replace H := H.ext x17
     refine sps [.bool (!(dec (zi s.qF (t.qG[k]!)))), .bool (!(dec (zi s.qF (t.qG[k]!))))] ?_
     cases h18 : (!(dec (zi s.qF (t.qG[k]!))))
     ·skip
      replace h18 := qN h18
      replace h18 := vT h18
      refine qO 67 rfl rfl ?_
      refine sp (pp bt ot) ?_
      refine qO 67 rfl rfl ?_
      refine sp (pp bt ot) ?_
      refine qO 67 rfl rfl ?_
      refine sw (qH bt (ot) 0 Tryz.underlying38 rfl rfl Tryz.sizeOf26 rfl ?_)
      refine qO 67 rfl rfl ?_
      refine sw (qC (.slice (aa b4 o5) t.qy.length qZ) Tryz.isAgg26 rfl (H.xU 5 rfl 0 rfl) ?_)
      refine qO 67 rfl rfl ?_
      refine sp (.int .i64 k) ?_
      refine qO 67 rfl rfl ?_
      refine sw (xE k Tryz.underlying26 ti4 rfl rfl (by omega) (by omega) ?_)
      refine qO 67 rfl rfl ?_
      refine sw (qC (.bool (t.qy[k]!)) Tryz.isAgg4 rfl (H.yU 6 rfl k (by omega) (by omega)) ?_)
      refine qO 67 rfl rfl ?_
      refine sp (.bool (!(t.qy[k]!))) ?_
      refine qO 67 rfl rfl ?_
      refine sp (.bool (!(t.qy[k]!))) ?_
      cases h19 : (!(t.qy[k]!))
      ·skip
       replace h19 := qN h19
       refine xN [77, 78, 79, 80, 81, 82, 83, 84, 85] ?_
       refine qO 67 rfl rfl ?_
       refine sps [.bool false, .bool false] ?_
       refine qo (t_n ?_)
       refine qP false rfl (fun h => absurd h (by decide)) (fun _ => ?_)
       refine xg (b_n (t_n (qp ?_)))
       refine sp (.int .i64 k) ?_
       refine sw (zD k 1 rfl rfl (by omega) ?_)
       refine sp (.int .i64 (k + 1)) ?_
       refine qo ?_
       refine xy (m' := t.qG.length - (k + 1)) (by omega) ⟨_, k + 1, (by exact qj (qj (qj (rfl) rfl) rfl) rfl), ?_, ?_, rfl, H.sel _ (.refl _) _ (by simp)⟩
       · omega
       · exact i1.succ ‹_› (fun hk => by first | omega | simp_all)
      replace h19 := qQ h19
      refine qO 76 rfl rfl ?_
      refine sp (pp bt ot) ?_
      refine qO 76 rfl rfl ?_
      refine sp (pp bt ot) ?_
      refine qO 76 rfl rfl ?_
      refine sw (qH bt (ot) 1 Tryz.underlying38 rfl rfl Tryz.sizeOf27 rfl ?_)
      refine qO 76 rfl rfl ?_
      refine sw (qC (.slice (aa b13 o14) t.qG.length xx) Tryz.isAgg27 rfl (H.xU 5 rfl 1 rfl) ?_)
      refine qO 76 rfl rfl ?_
      refine sp (.int .i64 k) ?_
      refine qO 76 rfl rfl ?_
      refine sw (xE k Tryz.underlying27 ti22 rfl rfl (by omega) (by omega) ?_)
      refine qO 76 rfl rfl ?_
      refine sw (qC (.slice ae15 ((t.qG[k]!).length) ce15) Tryz.isAgg22 rfl (H.xU 1 rfl 0 rfl) ?_)
      refine qO 76 rfl rfl ?_
      refine sw (xm #[.slice ae15 ((t.qG[k]!).length) ce15] rfl rfl Tryz.call137 (l01Size_ok w16 (t.qG[k]!) ae15 ce15 Fe15 (H.get 0 rfl).1 (by first | assumption | exact vG (by assumption) | exact Qi (by assumption))) ?_)
      rintro _ w20 rfl x21
      replace H := H.ext x21
      refine qO 76 rfl rfl ?_
      refine sp (.bool (decide ((sumL (t.qG[k]!) : Int) > 0))) ?_
      refine qO 67 rfl rfl ?_
      refine sps [.bool (decide ((sumL (t.qG[k]!) : Int) > 0)), .bool (decide ((sumL (t.qG[k]!) : Int) > 0))] ?_
      refine qo (t_n ?_)
      refine qP (decide ((sumL (t.qG[k]!) : Int) > 0)) rfl (fun h22 => ?_) (fun h22 => ?_)
      ·skip
       replace h22 := of_decide_eq_true h22
       refine qh (qp ?_)
       refine sp (.bool false) ?_
       refine qo (t_n (xh (b_r (t_r (t_r (b_r (t_r ?_)))))))
       refine ret1 (.bool false) rfl rfl ⟨_, rfl, ?_, H.base⟩
       rw [xf (fun h => by obtain ⟨h1, h2, h3, h4, h5⟩ := h; first | contradiction | omega | (simp_all; done) | (obtain ⟨q1, q2⟩ := h5 k (by omega); first | contradiction | (have := q2 (by assumption); omega)))]
      replace h22 := of_decide_eq_false h22
      refine xg (b_n (t_n (qp ?_)))
      refine sp (.int .i64 k) ?_
      refine sw (zD k 1 rfl rfl (by omega) ?_)
      refine sp (.int .i64 (k + 1)) ?_
      refine qo ?_
      refine xy (m' := t.qG.length - (k + 1)) (by omega) ⟨_, k + 1, (by exact qj (qj (qj (rfl) rfl) rfl) rfl), ?_, ?_, rfl, H.sel _ (.refl _) _ (by simp)⟩
      · omega
      · exact i1.succ ‹_› (fun hk => by first | omega | simp_all)
     replace h18 := qQ h18
     replace h18 := xP h18
     refine xN [68, 69, 70, 71, 72, 73, 74, 75, 76, 77, 78, 79, 80, 81, 82, 83, 84, 85, 86] ?_
     refine sp (.bool true) ?_
     refine qo (t_n ?_)
     refine qP true rfl (fun _ => ?_) (fun h => absurd h (by decide))
     refine qh (qp ?_)
     refine sp (.bool false) ?_
     refine qo (t_n (xh (b_r (t_r (t_r (b_r (t_r ?_)))))))
     refine ret1 (.bool false) rfl rfl ⟨_, rfl, ?_, H.base⟩
     rw [xf (fun h => by obtain ⟨h1, h2, h3, h4, h5⟩ := h; first | contradiction | omega | (simp_all; done) | (obtain ⟨q1, q2⟩ := h5 k (by omega); first | contradiction | (have := q2 (by assumption); omega)))]
    replace h12 := of_decide_eq_false h12
    refine zx (t_x (t_x (b_x (t_n (qh (qp ?_))))))
    refine sp (.bool true) ?_
    refine qo (t_n (xh ?_))
    refine ret1 (.bool true) rfl rfl ⟨_, rfl, ?_, H.base⟩
    obtain rfl : k = t.qG.length := by omega
    rw [jD ⟨by omega, by omega, by first | assumption | simp_all, by assumption, i1⟩]
   replace h6 := qQ h6
   refine zq [34, 35, 36, 37, 38, 39, 40] 7 (H) ?_
   refine rtp 41 (.bool true) H ?_
   refine xZ (by kernel_rfl) (t_n ?_)
   refine qP true rfl (fun _ => ?_) (fun h => absurd h (by decide))
   refine qh (qp ?_)
   refine sp (.bool false) ?_
   refine qo (t_n (xh (t_r ?_)))
   refine ret1 (.bool false) rfl rfl ⟨_, rfl, ?_, H.base⟩
   rw [xf (fun h => by obtain ⟨h1, h2, h3, h4, h5⟩ := h; first | contradiction | omega | (simp_all; done) | (obtain ⟨q1, q2⟩ := h5 k (by omega); first | contradiction | (have := q2 (by assumption); omega)))]
  replace h3 := bne_iff_ne.1 h3
  refine zq [25, 26, 27, 28, 29, 30, 31] 7 (H) ?_
  refine rtp 32 (.bool true) H ?_
  refine rtp 33 (.bool true) H ?_
  refine zq [34, 35, 36, 37, 38, 39, 40] 7 (H) ?_
  refine rtp 41 (.bool true) H ?_
  refine xZ (by kernel_rfl) (t_n ?_)
  refine qP true rfl (fun _ => ?_) (fun h => absurd h (by decide))
  refine qh (qp ?_)
  refine sp (.bool false) ?_
  refine qo (t_n (xh (t_r ?_)))
  refine ret1 (.bool false) rfl rfl ⟨_, rfl, ?_, H.base⟩
  rw [xf (fun h => by obtain ⟨h1, h2, h3, h4, h5⟩ := h; first | contradiction | omega | (simp_all; done) | (obtain ⟨q1, q2⟩ := h5 k (by omega); first | contradiction | (have := q2 (by assumption); omega)))]
 replace h2 := bne_iff_ne.1 h2
 refine zq [12, 13, 14, 15, 16, 17, 18, 19, 20, 21, 22] 11 (H) ?_
 refine rtp 23 (.bool true) H ?_
 refine rtp 24 (.bool true) H ?_
 refine zq [25, 26, 27, 28, 29, 30, 31] 7 (H) ?_
 refine rtp 32 (.bool true) H ?_
 refine rtp 33 (.bool true) H ?_
 refine zq [34, 35, 36, 37, 38, 39, 40] 7 (H) ?_
 refine rtp 41 (.bool true) H ?_
 refine xZ (by kernel_rfl) (t_n ?_)
 refine qP true rfl (fun _ => ?_) (fun h => absurd h (by decide))
 refine qh (qp ?_)
 refine sp (.bool false) ?_
 refine qo (t_n (xh (t_r ?_)))
 refine ret1 (.bool false) rfl rfl ⟨_, rfl, ?_, H.base⟩
 rw [xf (fun h => by obtain ⟨h1, h2, h3, h4, h5⟩ := h; first | contradiction | omega | (simp_all; done) | (obtain ⟨q1, q2⟩ := h5 k (by omega); first | contradiction | (have := q2 (by assumption); omega)))]

theorem l02Parent_ok (w : World) (s : qR) (t : xF) (c : Int) (bs os : Nat) (qm : Option Addr) (ql : Nat) (qL : List Nat) (qE : Option Addr) (qA : Nat) (xk : List Nat) (bt ot : Nat) (xu : Option Addr) (qZ : Nat) (xY : List Nat) (xB : Option Addr) (xx : Nat) (zG : List Nat) (qV : Option Addr) (qU : Nat) (xJ : List Nat) (hs : vg w bs os [.int .i64 s.qF, .slice qm s.qg.length ql, .slice qE s.qf.length qA]) (qY : qM.rep w qL [.slice qm s.qg.length ql] s.qg) (xA : qM.rep w xk [.slice qE s.qf.length qA] s.qf) (ht : vg w bt ot [.slice xu t.qy.length qZ, .slice xB t.qG.length xx, .slice qV t.qB.length qU]) (zo : qM.rep w xY [.slice xu t.qy.length qZ] t.qy) (zT : qM.rep w zG [.slice xB t.qG.length xx] t.qG) (xR : qM.rep w xJ [.slice qV t.qB.length qU] t.qB) (p0 : vZ s) (p1 : CellIn s c) (p2 : t.qy.length = s.qg.length) : Calls Tryz.prog 107 #[pp bs os, pp bt ot, .int .i64 c] w (Ret (fun v w' => v = .int .i64 (xK s t c)) w) := by
 refine enter (n := 35) Tryz.func107 rfl Tryz.ntmps107 (Nat.le_of_ble_eq_true rfl) ?_
 have H := (((((((St.start w).arg xR).arg zT).arg zo).argAt ht).arg xA).arg qY).argAt hs
 have zH := qJ qY
 have vN := qJ xA
 have QB := qJ zo
 have nhtBags := qJ zT
 have yS := qJ xR
 clear hs qY xA ht zo zT xR
 have p3 := p0.step p1.1 p1.2
 refine qh (qp ?_)
 refine sp (.int .i64 0) ?_
 refine qo (t_n (qh (qp ?_)))
 refine sps [pp bs os, pp bs os] ?_
 refine sw (qH bs (os) 1 Tryz.underlying36 rfl rfl Tryz.sizeOf22 rfl ?_)
 refine sw (qC (.slice qm s.qg.length ql) Tryz.isAgg22 rfl (H.xU 0 rfl 1 rfl) ?_)
 refine sp (.int .i64 c) ?_
 obtain ⟨b1, o2, rfl⟩ := H.addr 1 rfl (by omega)
 refine sw (xE c Tryz.underlying22 ti2 rfl rfl (by omega) (by omega) ?_)
 refine sw (qC (.int .i64 (s.qg[c.toNat]!)) Tryz.isAgg2 rfl (H.vH 1 rfl c (by omega) (by omega)) ?_)
 refine sp (.int .i64 (s.qg[c.toNat]!)) ?_
 refine qo (t_n (qh (xn ?_)))
 refine zC (fun m' ρ w3 => ∃ (junk : Env) (y : Int) (n : Nat), ρ = upd (upd (upd (upd junk 0 (pp bs os)) 1 (pp bt ot)) 6 (.int .i64 0)) 7 (.int .i64 y) ∧ (-1 ≤ y ∧ y ≤ (s.qg.length : Int) - 1) ∧ (y < n) ∧ (xK s t c = climb s.qg t.qy n y) ∧ m' = (y + 1).toNat ∧ St w w3 [] [atF bs os [.int .i64 s.qF, .slice (aa b1 o2) s.qg.length ql, .slice qE s.qf.length qA], isF false qL (.slice (aa b1 o2) s.qg.length ql) s.qg, isF false xk (.slice qE s.qf.length qA) s.qf, atF bt ot [.slice xu t.qy.length qZ, .slice xB t.qG.length xx, .slice qV t.qB.length qU], isF false xY (.slice xu t.qy.length qZ) t.qy, isF false zG (.slice xB t.qG.length xx) t.qG, isF false xJ (.slice qV t.qB.length qU) t.qB]) (((s.qg[c.toNat]!) + 1).toNat) ⟨_, s.qg[c.toNat]!, s.qg.length, (by exact qj (qj (qj (qj (rfl) rfl) rfl) rfl) rfl), (by omega), (by omega), (by rfl), rfl, H⟩ ?_
 clear H
 rintro m' ρ w4 ⟨junk, y, n, rfl, i0, i1, i2, rfl, H⟩
 have up := fun h => p0.step (c := y) h i0.2
 refine qh (qh (qp ?_))
 refine sps [.int .i64 y, .bool (decide ((y : Int) ≥ 0)), .bool (decide ((y : Int) ≥ 0))] ?_
 cases h5 : (decide ((y : Int) ≥ 0))
 ·skip
  replace h5 := of_decide_eq_false h5
  refine xN [18, 19, 20, 21, 22, 23, 24, 25] ?_
  refine sp (.bool false) ?_
  refine qo (t_n ?_)
  refine qP false rfl (fun h => absurd h (by decide)) (fun _ => ?_)
  refine zx (t_x (t_x (b_x (t_n (qh (qp ?_))))))
  refine sps [.int .i64 y, .int .i64 y] ?_
  refine qo (t_n (xh ?_))
  refine ret1 (.int .i64 y) rfl rfl ⟨_, rfl, ?_, H.base⟩
  rw [i2, climb_end (by first | omega | simp_all)]
 replace h5 := of_decide_eq_true h5
 refine qO 17 rfl rfl ?_
 refine sp (pp bt ot) ?_
 refine qO 17 rfl rfl ?_
 refine sp (pp bt ot) ?_
 refine qO 17 rfl rfl ?_
 refine sw (qH bt (ot) 0 Tryz.underlying38 rfl rfl Tryz.sizeOf26 rfl ?_)
 refine qO 17 rfl rfl ?_
 refine sw (qC (.slice xu t.qy.length qZ) Tryz.isAgg26 rfl (H.xU 3 rfl 0 rfl) ?_)
 refine qO 17 rfl rfl ?_
 refine sp (.int .i64 y) ?_
 refine qO 17 rfl rfl ?_
 obtain ⟨b6, o7, rfl⟩ := H.addr 4 rfl (by omega)
 refine sw (xE y Tryz.underlying26 ti4 rfl rfl (by omega) (by omega) ?_)
 refine qO 17 rfl rfl ?_
 refine sw (qC (.bool (t.qy[y.toNat]!)) Tryz.isAgg4 rfl (H.yU 4 rfl y (by omega) (by omega)) ?_)
 refine qO 17 rfl rfl ?_
 refine sps [.bool (!(t.qy[y.toNat]!)), .bool (!(t.qy[y.toNat]!))] ?_
 refine qo (t_n ?_)
 refine qP (!(t.qy[y.toNat]!)) rfl (fun h8 => ?_) (fun h8 => ?_)
 ·skip
  replace h8 := qQ h8
  refine xg (t_n (xn (qp ?_)))
  refine sps [pp bs os, pp bs os] ?_
  refine sw (qH bs (os) 1 Tryz.underlying36 rfl rfl Tryz.sizeOf22 rfl ?_)
  refine sw (qC (.slice (aa b1 o2) s.qg.length ql) Tryz.isAgg22 rfl (H.xU 0 rfl 1 rfl) ?_)
  refine sp (.int .i64 y) ?_
  refine sw (xE y Tryz.underlying22 ti2 rfl rfl (by omega) (by omega) ?_)
  refine sw (qC (.int .i64 (s.qg[y.toNat]!)) Tryz.isAgg2 rfl (H.vH 1 rfl y (by omega) (by omega)) ?_)
  refine sp (.int .i64 (s.qg[y.toNat]!)) ?_
  refine qo (b_n ?_)
  have up1 := up (by omega)
  refine xy (m' := ((s.qg[y.toNat]!) + 1).toNat) (by omega) ⟨_, (s.qg[y.toNat]!), n - 1, (by exact qj (qj (qj (qj (rfl) rfl) rfl) rfl) rfl), ?_, ?_, ?_, rfl, H⟩
  · omega
  · omega
  · exact i2.trans (climb_go (by omega) (by omega) ‹_›)
 replace h8 := qN h8
 refine zx (t_x (t_x (b_x (t_n (qh (qp ?_))))))
 refine sps [.int .i64 y, .int .i64 y] ?_
 refine qo (t_n (xh ?_))
 refine ret1 (.int .i64 y) rfl rfl ⟨_, rfl, ?_, H.base⟩
 rw [i2, climb_end (by first | omega | simp_all)]

theorem l02Ok_ok (w : World) (s : qR) (bs os : Nat) (qm : Option Addr) (ql : Nat) (qL : List Nat) (qE : Option Addr) (qA : Nat) (xk : List Nat) (hs : vg w bs os [.int .i64 s.qF, .slice qm s.qg.length ql, .slice qE s.qf.length qA]) (qY : qM.rep w qL [.slice qm s.qg.length ql] s.qg) (xA : qM.rep w xk [.slice qE s.qf.length qA] s.qf) : Calls Tryz.prog 41 #[pp bs os] w (Ret (fun v w' => v = .bool (dec (Qj s))) w) := by
 refine enter (n := 65) Tryz.func41 rfl Tryz.ntmps41 (Nat.le_of_ble_eq_true rfl) ?_
 have H := (((St.start w).arg xA).arg qY).argAt hs
 have zH := qJ qY
 have vN := qJ xA
 clear hs qY xA
 have p1 := fun h : vZ s => h.2.1
 refine qh (qp ?_)
 refine sp (.bool false) ?_
 refine qo (t_n (qh (qh (qp ?_))))
 refine sp (pp bs os) ?_
 refine sw (xm #[pp bs os] rfl rfl Tryz.call83 (l02Frame_ok w s bs os qm ql qL qE qA xk (qK (H.get 0 rfl) 0 3) (H.get 1 rfl).1 (H.get 2 rfl).1) ?_)
 rintro _ w1 rfl x2
 replace H := H.ext x2
 refine sps [.bool (!(dec (vZ s))), .bool (!(dec (vZ s)))] ?_
 cases h3 : (!(dec (vZ s)))
 ·skip
  replace h3 := qN h3
  replace h3 := vT h3
  refine qO 8 rfl rfl ?_
  refine sp (pp bs os) ?_
  refine qO 8 rfl rfl ?_
  refine sp (pp bs os) ?_
  refine qO 8 rfl rfl ?_
  refine sw (qH bs (os) 2 Tryz.underlying36 rfl rfl Tryz.sizeOf34 rfl ?_)
  refine qO 8 rfl rfl ?_
  refine sw (qC (.slice qE s.qf.length qA) Tryz.isAgg34 rfl (H.xU 0 rfl 2 rfl) ?_)
  refine qO 8 rfl rfl ?_
  refine sw (zK Tryz.underlying34 qE s.qf.length qA rfl ?_)
  refine qO 8 rfl rfl ?_
  refine sps [.bool (decide ((s.qf.length : Int) > 16)), .bool (decide ((s.qf.length : Int) > 16))] ?_
  refine qo (t_n ?_)
  refine qP (decide ((s.qf.length : Int) > 16)) rfl (fun h4 => ?_) (fun h4 => ?_)
  ·skip
   replace h4 := of_decide_eq_true h4
   refine qh (qp ?_)
   refine sp (.bool false) ?_
   refine qo (t_n (xh (t_r ?_)))
   refine ret1 (.bool false) rfl rfl ⟨_, rfl, ?_, H.base⟩
   rw [xf (fun h => by obtain ⟨h1, h2, h3⟩ := h; first | contradiction | omega | (obtain ⟨q1, q2⟩ := h3 k (by omega); first | contradiction | (have := Xt (k := k + 1) q; omega)))]
  replace h4 := of_decide_eq_false h4
  have p2 := p1 (by assumption)
  refine xg (t_n (qh (qp ?_)))
  refine sps [pp bs os, pp bs os] ?_
  refine sw (qH bs (os) 1 Tryz.underlying36 rfl rfl Tryz.sizeOf22 rfl ?_)
  refine sw (qC (.slice qm s.qg.length ql) Tryz.isAgg22 rfl (H.xU 0 rfl 1 rfl) ?_)
  refine sw (zK Tryz.underlying22 qm s.qg.length ql rfl ?_)
  refine sw (o_make1 H Tryz.underlying22 ti2 rfl s.qg.length rfl rfl (by omega) (by omega) fun b5 w6 H => ?_)
  replace H : St _ _ [.box b5 (List.replicate s.qg.length (.int .i64 0)) 2] _ := H
  refine sp (.slice (aa b5 0) s.qg.length s.qg.length) ?_
  refine qo (t_n (qh (qh (qp ?_))))
  refine sp (.int .i64 0) ?_
  refine qo (t_n (xn ?_))
  rw [ints_zero, counts_zero] at H
  refine zC (fun m' ρ w7 => ∃ (junk : Env) (k : Nat), ρ = upd (upd (upd junk 0 (pp bs os)) 3 (.slice (aa b5 0) s.qg.length s.qg.length)) 4 (.int .i64 k) ∧ (k ≤ s.qf.length) ∧ (RulesTo s k) ∧ m' = s.qf.length - k ∧ St w w7 [.box b5 ((counts s k).map (Value.int .i64)) 2] [atF bs os [.int .i64 s.qF, .slice qm s.qg.length ql, .slice qE s.qf.length qA], isF false qL (.slice qm s.qg.length ql) s.qg, isF false xk (.slice qE s.qf.length qA) s.qf]) (s.qf.length - 0) ⟨_, 0, (by exact qj (qj (qj (rfl) rfl) rfl) rfl), (by omega), (by exact fun j hj => by omega), rfl, H⟩ ?_
  clear H
  rintro m' ρ w8 ⟨junk, k, rfl, i0, i1, rfl, H⟩
  refine qh (qh (qp ?_))
  refine sps [.int .i64 k, pp bs os, pp bs os] ?_
  refine sw (qH bs (os) 2 Tryz.underlying36 rfl rfl Tryz.sizeOf34 rfl ?_)
  refine sw (qC (.slice qE s.qf.length qA) Tryz.isAgg34 rfl (H.xU 0 rfl 2 rfl) ?_)
  refine sw (zK Tryz.underlying34 qE s.qf.length qA rfl ?_)
  refine sp (.bool (decide ((k : Int) < s.qf.length))) ?_
  refine qo (t_n ?_)
  refine qP (decide ((k : Int) < s.qf.length)) rfl (fun h9 => ?_) (fun h9 => ?_)
  ·skip
   replace h9 := of_decide_eq_true h9
   refine xg (t_n (qh (xn (qh (qh (qp ?_))))))
   refine sps [pp bs os, pp bs os, pp bs os] ?_
   refine sw (qH bs (os) 2 Tryz.underlying36 rfl rfl Tryz.sizeOf34 rfl ?_)
   refine sw (qC (.slice qE s.qf.length qA) Tryz.isAgg34 rfl (H.xU 0 rfl 2 rfl) ?_)
   refine sp (.int .i64 k) ?_
   obtain ⟨b10, o11, rfl⟩ := H.addr 2 rfl (by omega)
   obtain ⟨ae12Need, ce12Need, Fe12Need, ae12Have, ce12Have, Fe12Have, ae12Lack, ce12Lack, Fe12Lack, ae12Here, ce12Here, Fe12Here, ae12Out, ce12Out, Fe12Out, ae12Into, ce12Into, Fe12Into, H⟩ := H.jv 2 rfl k k (by omega) (by omega) (by omega)
   refine sw (xE k Tryz.underlying34 ti110 rfl rfl (by omega) (by omega) ?_)
   refine sw (xm #[pp bs os, pp b10 (o11 + (k : Int).toNat * 9)] rfl rfl Tryz.call84 (l02Rule_ok w8 s (s.qf[k]!) bs os qm ql qL (aa b10 o11) qA xk b10 (o11 + (k : Int).toNat * 9) ae12Need ce12Need Fe12Need ae12Have ce12Have Fe12Have ae12Lack ce12Lack Fe12Lack ae12Here ce12Here Fe12Here ae12Out ce12Out Fe12Out ae12Into ce12Into Fe12Into (qK (H.get 7 rfl) 0 3) (H.get 8 rfl).1 (H.get 9 rfl).1 (qK (H.get 6 rfl) 0 9) (H.get 0 rfl).1 (H.get 1 rfl).1 (H.get 2 rfl).1 (H.get 3 rfl).1 (H.get 4 rfl).1 (H.get 5 rfl).1 (by assumption)) ?_)
   rintro _ w13 rfl x14
   replace H := H.ext x14
   refine sp (.bool (!(dec (RuleOk s (s.qf[k]!))))) ?_
   refine qo (t_n ?_)
   refine qP (!(dec (RuleOk s (s.qf[k]!)))) rfl (fun h15 => ?_) (fun h15 => ?_)
   ·skip
    replace h15 := qQ h15
    replace h15 := xP h15
    refine qh (qp ?_)
    refine sp (.bool false) ?_
    refine qo (t_n (xh (t_r (b_r (t_r (t_r (b_r (t_r ?_))))))))
    refine ret1 (.bool false) rfl rfl ⟨_, rfl, ?_, H.base⟩
    rw [xf (fun h => by obtain ⟨h1, h2, h3⟩ := h; first | contradiction | omega | (obtain ⟨q1, q2⟩ := h3 k (by omega); first | contradiction | (have := Xt (k := k + 1) q; omega)))]
   replace h15 := qN h15
   replace h15 := vT h15
   have q := (h15).1
   refine xg (t_n (qh (qp ?_)))
   refine sps [.slice (aa b5 0) s.qg.length s.qg.length, pp bs os, pp bs os] ?_
   refine sw (qH bs (os) 2 Tryz.underlying36 rfl rfl Tryz.sizeOf34 rfl ?_)
   refine sw (qC (.slice (aa b10 o11) s.qf.length qA) Tryz.isAgg34 rfl (H.xU 7 rfl 2 rfl) ?_)
   refine sp (.int .i64 k) ?_
   refine sw (xE k Tryz.underlying34 ti110 rfl rfl (by omega) (by omega) ?_)
   refine sw (qH b10 (o11 + (k : Int).toNat * 9) 0 Tryz.underlying110 rfl rfl Tryz.sizeOf2 rfl ?_)
   refine sw (qC (.int .i64 ((s.qf[k]!).qw)) Tryz.isAgg2 rfl (H.xU 6 rfl 0 rfl) ?_)
   refine sw (xE ((s.qf[k]!).qw) Tryz.underlying22 ti2 rfl rfl (by omega) (by omega) ?_)
   refine sw (qC (.int .i64 ((counts s k)[((s.qf[k]!).qw : Int).toNat]!)) Tryz.isAgg2 rfl (H.cell 0 rfl (ints_get (by rw [counts_len]; omega))) ?_)
   refine sw (zD ((counts s k)[((s.qf[k]!).qw : Int).toNat]!) 1 rfl rfl (by (first | omega | (rw [Xt q]; have := ofCell_bd s.qf (s.qf[k]!).qw k; omega))) ?_)
   refine sw (xE ((s.qf[k]!).qw) Tryz.underlying22 ti2 rfl rfl (by omega) (by omega) ?_)
   refine sw (jC H 0 rfl (.int .i64 (((counts s k)[((s.qf[k]!).qw : Int).toNat]!) + 1)) Tryz.sizeOf2 rfl rfl rfl (ints_lt (by rw [counts_len]; omega)) fun w16 H => ?_)
   rw [ints_set] at H
   rw [counts_succ q] at H
   replace H : St _ _ [.box b5 ((counts s (k + 1)).map (Value.int .i64)) 2] _ := H
   refine qo (t_n (qh (qp ?_)))
   refine sps [.slice (aa b5 0) s.qg.length s.qg.length, pp bs os, pp bs os] ?_
   refine sw (qH bs (os) 2 Tryz.underlying36 rfl rfl Tryz.sizeOf34 rfl ?_)
   refine sw (qC (.slice (aa b10 o11) s.qf.length qA) Tryz.isAgg34 rfl (H.xU 7 rfl 2 rfl) ?_)
   refine sp (.int .i64 k) ?_
   refine sw (xE k Tryz.underlying34 ti110 rfl rfl (by omega) (by omega) ?_)
   refine sw (qH b10 (o11 + (k : Int).toNat * 9) 0 Tryz.underlying110 rfl rfl Tryz.sizeOf2 rfl ?_)
   refine sw (qC (.int .i64 ((s.qf[k]!).qw)) Tryz.isAgg2 rfl (H.xU 6 rfl 0 rfl) ?_)
   refine sw (xE ((s.qf[k]!).qw) Tryz.underlying22 ti2 rfl rfl (by omega) (by omega) ?_)
   refine sw (qC (.int .i64 ((counts s (k + 1))[((s.qf[k]!).qw : Int).toNat]!)) Tryz.isAgg2 rfl (H.cell 0 rfl (ints_get (by rw [counts_len]; omega))) ?_)
   refine sp (.bool (decide (((counts s (k + 1))[((s.qf[k]!).qw : Int).toNat]! : Int) > 8))) ?_
   refine qo (t_n ?_)
   refine qP (decide (((counts s (k + 1))[((s.qf[k]!).qw : Int).toNat]! : Int) > 8)) rfl (fun h17 => ?_) (fun h17 => ?_)
   ·skip
    replace h17 := of_decide_eq_true h17
    refine qh (qp ?_)
    refine sp (.bool false) ?_
    refine qo (t_n (xh (b_r (t_r (t_r (b_r (t_r ?_)))))))
    refine ret1 (.bool false) rfl rfl ⟨_, rfl, ?_, H.base⟩
    rw [xf (fun h => by obtain ⟨h1, h2, h3⟩ := h; first | contradiction | omega | (obtain ⟨q1, q2⟩ := h3 k (by omega); first | contradiction | (have := Xt (k := k + 1) q; omega)))]
   replace h17 := of_decide_eq_false h17
   refine xg (b_n (t_n (qp ?_)))
   refine sp (.int .i64 k) ?_
   refine sw (zD k 1 rfl rfl (by (first | omega | (rw [Xt q]; have := ofCell_bd s.qf (s.qf[k]!).qw k; omega))) ?_)
   refine sp (.int .i64 (k + 1)) ?_
   refine qo ?_
   refine xy (m' := s.qf.length - (k + 1)) (by omega) ⟨_, k + 1, (by exact qj (qj (qj (rfl) rfl) rfl) rfl), ?_, ?_, rfl, H.sel _ (.refl _) _ (by simp)⟩
   · omega
   · exact i1.succ ‹_› (by have := Xt (k := k + 1) q; omega)
  replace h9 := of_decide_eq_false h9
  refine zx (t_x (t_x (b_x (t_n (qh (qp ?_))))))
  refine sp (.bool true) ?_
  refine qo (t_n (xh ?_))
  refine ret1 (.bool true) rfl rfl ⟨_, rfl, ?_, H.base⟩
  obtain rfl : k = s.qf.length := by omega
  rw [jD ⟨by assumption, by omega, i1⟩]
 replace h3 := qQ h3
 replace h3 := xP h3
 refine xN [9, 10, 11, 12, 13, 14] ?_
 refine sp (.bool true) ?_
 refine qo (t_n ?_)
 refine qP true rfl (fun _ => ?_) (fun h => absurd h (by decide))
 refine qh (qp ?_)
 refine sp (.bool false) ?_
 refine qo (t_n (xh (t_r ?_)))
 refine ret1 (.bool false) rfl rfl ⟨_, rfl, ?_, H.base⟩
 rw [xf (fun h => by obtain ⟨h1, h2, h3⟩ := h; first | contradiction | omega | (obtain ⟨q1, q2⟩ := h3 k (by omega); first | contradiction | (have := Xt (k := k + 1) q; omega)))]

end Go.Proofs.YtkmlihdacnfhdaaGreat
