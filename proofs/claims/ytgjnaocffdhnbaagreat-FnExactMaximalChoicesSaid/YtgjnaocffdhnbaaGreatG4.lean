/- Walks, printed by program (wip/tools/gv.py): what each function comes to, for all arguments. -/
import Derived.Test.YtgjnaocffdhnbaaGreatG3
import Derived.Test.YtgjnaocffdhnbaaGreatP1
import Derived.Test.YtgjnaocffdhnbaaGreatI
import Derived.Test.YtgjnaocffdhnbaaGreatTI
namespace Go.Proofs.YtgjnaocffdhnbaaGreat
set_option linter.unusedVariables false
set_option linter.unusedSimpArgs false
open Go.Proofs.YtgjnaocffdhnbaaGreat.Tot (tot)
open Go.Proofs.YtgjnaocffdhnbaaGreat.Mark (cnt mrk mkd mkd_mark cnt_mark)
open Go.RowKit
set_option linter.unusedVariables false
set_option linter.unusedSimpArgs false
set_option maxRecDepth 100000
set_option maxHeartbeats 4000000

instance iC75_G4 : Qn Tryz.prog 75 := ⟨Tryz.call75⟩
instance iC150_G4 : Qn Tryz.prog 150 := ⟨Tryz.call150⟩
instance iC122_G4 : Qn Tryz.prog 122 := ⟨Tryz.call122⟩
instance iC123_G4 : Qn Tryz.prog 123 := ⟨Tryz.call123⟩
instance iC170_G4 : Qn Tryz.prog 170 := ⟨Tryz.call170⟩
instance iC133_G4 : Qn Tryz.prog 133 := ⟨Tryz.call133⟩
instance iC134_G4 : Qn Tryz.prog 134 := ⟨Tryz.call134⟩


theorem l01Bag_ok (w : World) (l : List Int) (al : Option Addr) (cl : Nat) (Fl : List Nat) (hl : qE.rep w Fl [.slice al l.length cl] l) : Calls Tryz.prog 150 #[.slice al l.length cl] w (Ret (fun v w' => v = .bool (dec (QN l))) w) := by
 refine en Tryz.func150 Tryz.ntmps150 ?_
 have H := (St.start w).arg hl
 have nhl := qA hl
 clear hl
 refine qi (ql ?_)
 refine sp (.bool false) ?_
 refine qj (t_n (qi (qi (ql ?_))))
 refine sp (.int .i64 0) ?_
 refine qj (t_n (qW ?_))
 refine zf (fun m' ρ w1 => ∃ (junk : Env) (k : Nat), ρ = upd (upd junk 0 (.slice al l.length cl)) 3 (.int .i64 k) ∧ (k ≤ l.length) ∧ (Counts l k) ∧ m' = l.length - k ∧ St w w1 [] [isF false Fl (.slice al l.length cl) l]) (l.length - 0) ⟨_, 0, (by exact qg (qg (rfl) rfl) rfl), (by omega), (by exact Counts.zero l), rfl, H⟩ ?_
 clear H
 rintro m' ρ w2 ⟨junk, k, rfl, i0, i1, rfl, H⟩
 refine qi (qi (ql ?_))
 refine sps [.int .i64 k, .slice al l.length cl] ?_
 refine oN rfl ?_
 refine sp (.bool (decide ((k : Int) < l.length))) ?_
 refine qj (t_n ?_)
 refine qC (decide ((k : Int) < l.length)) rfl (fun h3 => ?_) (fun h3 => ?_)
 ·skip
  replace h3 := of_decide_eq_true h3
  refine qM (t_n (qi (qW (qi (ql ?_)))))
  refine sps [.slice al l.length cl, .int .i64 k] ?_
  obtain ⟨b4, o5, rfl⟩ := H.addr 0 rfl (by omega)
  refine oI rfl rfl ?_
  refine oL rfl (H.vT 0 rfl k (by omega) (by omega)) ?_
  refine sw (oc (l00In_ok w2 (l[k]!) 0 1000) ?_)
  rintro _ w6 rfl x7
  replace H := H.ext x7
  refine sp (.bool (!(inR (l[k]!) 0 1000))) ?_
  refine qj (t_n ?_)
  refine qC (!(inR (l[k]!) 0 1000)) rfl (fun h8 => ?_) (fun h8 => ?_)
  ·skip
   replace h8 := qP h8
   replace h8 := QP h8
   refine qi (ql ?_)
   refine sp (.bool false) ?_
   refine qj (t_n (qV (b_r (t_r (t_r (b_r (t_r ?_)))))))
   refine ret1 (.bool false) rfl rfl ⟨_, rfl, ?_, H.base⟩
   rw [qY (fun h => ‹¬ (0 ≤ l[k]! ∧ l[k]! ≤ 1000)› (h.1 k (by omega)))]
  replace h8 := qJ h8
  replace h8 := yV.1 h8
  refine qM (b_n (t_n (ql ?_)))
  refine sp (.int .i64 k) ?_
  refine sw (zk k 1 rfl rfl (by omega) ?_)
  refine sp (.int .i64 (k + 1)) ?_
  refine qj ?_
  refine xk (m' := l.length - (k + 1)) (by omega) ⟨_, k + 1, (by exact qg (qg (rfl) rfl) rfl), ?_, ?_, rfl, H⟩
  · omega
  · exact i1.succ ‹_›
 replace h3 := of_decide_eq_false h3
 refine xQ (t_x (t_x (b_x (t_n (qi (ql ?_))))))
 refine sp (.slice al l.length cl) ?_
 refine oN rfl ?_
 refine sw (oc (l00In_ok w2 l.length 1 8) ?_)
 rintro _ w9 rfl x10
 replace H := H.ext x10
 refine sp (.bool (inR l.length 1 8)) ?_
 refine qj (t_n (qV ?_))
 refine ret1 (.bool (inR l.length 1 8)) rfl rfl ⟨_, rfl, ?_, H.base⟩
 obtain rfl : k = l.length := by omega
 refine congrArg Value.bool (dec_eq ?_)
 rw [yV]
 exact ⟨fun h => ⟨i1, by omega, by omega⟩, fun h => by have := h.2; omega⟩

theorem yB (w : World) (s : qK) (b : List Int) (bs os : Nat) (qx : Option Addr) (qp : Nat) (xn : List Nat) (qN : Option Addr) (qL : Nat) (xG : List Nat) (ab : Option Addr) (cb : Nat) (Fb : List Nat) (hs : zT w bs os [.int .i64 s.qH, .slice qx s.qf.length qp, .slice qN s.qh.length qL]) (xh : qE.rep w xn [.slice qx s.qf.length qp] s.qf) (xE : qE.rep w xG [.slice qN s.qh.length qL] s.qh) (hb : qE.rep w Fb [.slice ab b.length cb] b) : Calls Tryz.prog 122 #[pp bs os, .slice ab b.length cb] w (Ret (fun v w' => v = .bool (dec (zg s.qH b))) w) := by
 refine en Tryz.func122 Tryz.ntmps122 ?_
 have H := ((((St.start w).arg hb).arg xE).arg xh).argAt hs
 have zU := qA xh
 have jD := qA xE
 have nhb := qA hb
 clear hs xh xE hb
 refine qi (ql ?_)
 refine sp (.bool false) ?_
 refine qj (t_n (qi (ql ?_)))
 refine sp (.slice ab b.length cb) ?_
 refine sw (oc (l01Bag_ok _ b _ _ _ (H.get 3 rfl).1) ?_)
 rintro _ w1 rfl x2
 replace H := H.ext x2
 refine sp (.bool (dec (QN b))) ?_
 cases h3 : (dec (QN b))
 ·skip
  replace h3 := xI h3
  refine xF [8, 9, 10, 11, 12, 13, 14] ?_
  refine sps [.bool false, .bool false] ?_
  refine qj (t_n (qV ?_))
  refine ret1 (.bool false) rfl rfl ⟨_, rfl, ?_, H.base⟩
  rw [qY (fun h => ‹¬ QN b› h.1)]
 replace h3 := vC h3
 refine qB 7 rfl rfl ?_
 refine sp (.slice ab b.length cb) ?_
 refine qB 7 rfl rfl ?_
 refine oN rfl ?_
 refine qB 7 rfl rfl ?_
 refine sp (pp bs os) ?_
 refine qB 7 rfl rfl ?_
 refine sp (pp bs os) ?_
 refine qB 7 rfl rfl ?_
 refine oF rfl ?_
 refine qB 7 rfl rfl ?_
 refine oL rfl (H.xJ 0 rfl 0 rfl) ?_
 refine qB 7 rfl rfl ?_
 refine sps [.bool ((b.length : Int) == s.qH), .bool ((b.length : Int) == s.qH), .bool ((b.length : Int) == s.qH)] ?_
 refine qj (t_n (qV ?_))
 refine ret1 (.bool ((b.length : Int) == s.qH)) rfl rfl ⟨_, rfl, ?_, H.base⟩
 refine congrArg Value.bool (dec_eq ?_)
 rw [beq_iff_eq]
 exact ⟨fun h => ⟨‹_›, h⟩, fun h => h.2⟩

theorem l02Frame_ok (w : World) (s : qK) (bs os : Nat) (qx : Option Addr) (qp : Nat) (xn : List Nat) (qN : Option Addr) (qL : Nat) (xG : List Nat) (hs : zT w bs os [.int .i64 s.qH, .slice qx s.qf.length qp, .slice qN s.qh.length qL]) (xh : qE.rep w xn [.slice qx s.qf.length qp] s.qf) (xE : qE.rep w xG [.slice qN s.qh.length qL] s.qh) : Calls Tryz.prog 133 #[pp bs os] w (Ret (fun v w' => v = .bool (dec (yt s))) w) := by
 refine en Tryz.func133 Tryz.ntmps133 ?_
 have H := (((St.start w).arg xE).arg xh).argAt hs
 have zU := qA xh
 have jD := qA xE
 clear hs xh xE
 refine qi (ql ?_)
 refine sp (.bool false) ?_
 refine qj (t_n (qi (qi (ql ?_))))
 refine sps [pp bs os, pp bs os] ?_
 refine oF rfl ?_
 refine oL rfl (H.xJ 0 rfl 0 rfl) ?_
 refine sw (oc (l00In_ok w s.qH 1 8) ?_)
 rintro _ w1 rfl x2
 replace H := H.ext x2
 refine sps [.bool (!(inR s.qH 1 8)), .bool (!(inR s.qH 1 8))] ?_
 cases h3 : (!(inR s.qH 1 8))
 ·skip
  replace h3 := qJ h3
  replace h3 := yV.1 h3
  refine qB 10 rfl rfl ?_
  refine sp (pp bs os) ?_
  refine qB 10 rfl rfl ?_
  refine sp (pp bs os) ?_
  refine qB 10 rfl rfl ?_
  refine oF rfl ?_
  refine qB 10 rfl rfl ?_
  refine oL rfl (H.xJ 0 rfl 1 rfl) ?_
  refine qB 10 rfl rfl ?_
  refine oN rfl ?_
  refine qB 10 rfl rfl ?_
  refine sw (oc (l00In_ok w1 s.qf.length 1 6) ?_)
  rintro _ w4 rfl x5
  replace H := H.ext x5
  refine qB 10 rfl rfl ?_
  refine sps [.bool (!(inR s.qf.length 1 6)), .bool (!(inR s.qf.length 1 6)), .bool (!(inR s.qf.length 1 6))] ?_
  cases h6 : (!(inR s.qf.length 1 6))
  ·skip
   replace h6 := qJ h6
   replace h6 := yV.1 h6
   refine qB 19 rfl rfl ?_
   refine sp (pp bs os) ?_
   refine qB 19 rfl rfl ?_
   refine sp (pp bs os) ?_
   refine qB 19 rfl rfl ?_
   refine oF rfl ?_
   refine qB 19 rfl rfl ?_
   refine oL rfl (H.xJ 0 rfl 1 rfl) ?_
   refine qB 19 rfl rfl ?_
   obtain ⟨b7, o8, rfl⟩ := H.addr 1 rfl (by omega)
   refine oI rfl rfl ?_
   refine qB 19 rfl rfl ?_
   refine oL rfl (H.vT 1 rfl 0 (by omega) (by omega)) ?_
   refine qB 19 rfl rfl ?_
   refine sps [.bool ((s.qf[0]! : Int) != (-1)), .bool ((s.qf[0]! : Int) != (-1))] ?_
   refine qj (t_n ?_)
   refine qC ((s.qf[0]! : Int) != (-1)) rfl (fun h9 => ?_) (fun h9 => ?_)
   ·skip
    replace h9 := bne_iff_ne.1 h9
    refine qi (ql ?_)
    refine sp (.bool false) ?_
    refine qj (t_n (qV (t_r ?_)))
    refine ret1 (.bool false) rfl rfl ⟨_, rfl, ?_, H.base⟩
    rw [qY (fun h => by obtain ⟨h1, h2, h3, h4⟩ := h; first | omega | (have := h4 k (by omega) (by omega); omega))]
   replace h9 := xw h9
   refine qM (t_n (qi (qi (ql ?_))))
   refine sp (.int .i64 1) ?_
   refine qj (t_n (qW ?_))
   refine zf (fun m' ρ w10 => ∃ (junk : Env) (k : Nat), ρ = upd (upd junk 0 (pp bs os)) 3 (.int .i64 k) ∧ (k ≤ s.qf.length) ∧ (1 ≤ k) ∧ (FrameTo s k) ∧ m' = s.qf.length - k ∧ St w w10 [] [atF bs os [.int .i64 s.qH, .slice (aa b7 o8) s.qf.length qp, .slice qN s.qh.length qL], isF false xn (.slice (aa b7 o8) s.qf.length qp) s.qf, isF false xG (.slice qN s.qh.length qL) s.qh]) (s.qf.length - 1) ⟨_, 1, (by exact qg (qg (rfl) rfl) rfl), (by omega), (by omega), (by exact FrameTo.one s), rfl, H⟩ ?_
   clear H
   rintro m' ρ w11 ⟨junk, k, rfl, i0, i2, i1, rfl, H⟩
   refine qi (qi (ql ?_))
   refine sps [.int .i64 k, pp bs os, pp bs os] ?_
   refine oF rfl ?_
   refine oL rfl (H.xJ 0 rfl 1 rfl) ?_
   refine oN rfl ?_
   refine sp (.bool (decide ((k : Int) < s.qf.length))) ?_
   refine qj (t_n ?_)
   refine qC (decide ((k : Int) < s.qf.length)) rfl (fun h12 => ?_) (fun h12 => ?_)
   ·skip
    replace h12 := of_decide_eq_true h12
    refine qM (t_n (qi (qW (qi (ql ?_)))))
    refine sps [pp bs os, pp bs os] ?_
    refine oF rfl ?_
    refine oL rfl (H.xJ 0 rfl 1 rfl) ?_
    refine sp (.int .i64 k) ?_
    refine oI rfl rfl ?_
    refine oL rfl (H.vT 1 rfl k (by omega) (by omega)) ?_
    refine sp (.int .i64 k) ?_
    refine sw (o_sub k 1 rfl rfl (by omega) ?_)
    refine sw (oc (l00In_ok w11 (s.qf[k]!) 0 (k - 1)) ?_)
    rintro _ w13 rfl x14
    replace H := H.ext x14
    refine sp (.bool (!(inR (s.qf[k]!) 0 (k - 1)))) ?_
    refine qj (t_n ?_)
    refine qC (!(inR (s.qf[k]!) 0 (k - 1))) rfl (fun h15 => ?_) (fun h15 => ?_)
    ·skip
     replace h15 := qP h15
     replace h15 := QP h15
     refine qi (ql ?_)
     refine sp (.bool false) ?_
     refine qj (t_n (qV (b_r (t_r (t_r (b_r (t_r ?_)))))))
     refine ret1 (.bool false) rfl rfl ⟨_, rfl, ?_, H.base⟩
     rw [qY (fun h => by obtain ⟨h1, h2, h3, h4⟩ := h; first | omega | (have := h4 k (by omega) (by omega); omega))]
    replace h15 := qJ h15
    replace h15 := yV.1 h15
    refine qM (b_n (t_n (ql ?_)))
    refine sp (.int .i64 k) ?_
    refine sw (zk k 1 rfl rfl (by omega) ?_)
    refine sp (.int .i64 (k + 1)) ?_
    refine qj ?_
    refine xk (m' := s.qf.length - (k + 1)) (by omega) ⟨_, k + 1, (by exact qg (qg (rfl) rfl) rfl), ?_, ?_, ?_, rfl, H⟩
    · omega
    · omega
    · exact i1.succ ‹_›
   replace h12 := of_decide_eq_false h12
   refine xQ (t_x (t_x (b_x (t_n (qi (ql ?_))))))
   refine sp (.bool true) ?_
   refine qj (t_n (qV ?_))
   refine ret1 (.bool true) rfl rfl ⟨_, rfl, ?_, H.base⟩
   obtain rfl : k = s.qf.length := by omega
   rw [jE ⟨by omega, by omega, by omega, i1⟩]
  replace h6 := qP h6
  replace h6 := QP h6
  refine xF [20, 21, 22, 23, 24, 25, 26] ?_
  refine sp (.bool true) ?_
  refine qj (t_n ?_)
  refine qC true rfl (fun _ => ?_) (fun h => absurd h (by decide))
  refine qi (ql ?_)
  refine sp (.bool false) ?_
  refine qj (t_n (qV (t_r ?_)))
  refine ret1 (.bool false) rfl rfl ⟨_, rfl, ?_, H.base⟩
  rw [qY (fun h => by obtain ⟨h1, h2, h3, h4⟩ := h; first | omega | (have := h4 k (by omega) (by omega); omega))]
 replace h3 := qP h3
 replace h3 := QP h3
 refine xF [11, 12, 13, 14, 15, 16, 17] ?_
 refine sps [.bool true, .bool true] ?_
 refine xF [20, 21, 22, 23, 24, 25, 26] ?_
 refine sp (.bool true) ?_
 refine qj (t_n ?_)
 refine qC true rfl (fun _ => ?_) (fun h => absurd h (by decide))
 refine qi (ql ?_)
 refine sp (.bool false) ?_
 refine qj (t_n (qV (t_r ?_)))
 refine ret1 (.bool false) rfl rfl ⟨_, rfl, ?_, H.base⟩
 rw [qY (fun h => by obtain ⟨h1, h2, h3, h4⟩ := h; first | omega | (have := h4 k (by omega) (by omega); omega))]

theorem l02In_ok (w : World) (s : qK) (c : Int) (other : Int) (bs os : Nat) (qx : Option Addr) (qp : Nat) (xn : List Nat) (qN : Option Addr) (qL : Nat) (xG : List Nat) (hs : zT w bs os [.int .i64 s.qH, .slice qx s.qf.length qp, .slice qN s.qh.length qL]) (xh : qE.rep w xn [.slice qx s.qf.length qp] s.qf) (xE : qE.rep w xG [.slice qN s.qh.length qL] s.qh) (p0 : yt s) (p1 : CellIn s c) : Calls Tryz.prog 170 #[pp bs os, .int .i64 c, .int .i64 other] w (Ret (fun v w' => v = .bool (dec (Lies s.qf other c))) w) := by
 refine en Tryz.func170 Tryz.ntmps170 ?_
 have H := (((St.start w).arg xE).arg xh).argAt hs
 have zU := qA xh
 have jD := qA xE
 clear hs xh xE
 refine qi (ql ?_)
 refine sp (.bool false) ?_
 refine qj (t_n (qi (qW ?_)))
 refine zf (fun m' ρ w1 => ∃ (junk : Env) (y : Int), ρ = upd (upd (upd junk 0 (pp bs os)) 1 (.int .i64 y)) 2 (.int .i64 other) ∧ (0 ≤ y ∧ y ≤ (s.qf.length : Int) - 1) ∧ (Lies s.qf other c ↔ Lies s.qf other y) ∧ m' = y.toNat ∧ St w w1 [] [atF bs os [.int .i64 s.qH, .slice qx s.qf.length qp, .slice qN s.qh.length qL], isF false xn (.slice qx s.qf.length qp) s.qf, isF false xG (.slice qN s.qh.length qL) s.qh]) (c.toNat) ⟨_, c, (by exact qg (qg (qg (rfl) rfl) rfl) rfl), (by exact p1), (by exact Iff.rfl), rfl, H⟩ ?_
 clear H
 rintro m' ρ w2 ⟨junk, y, rfl, i0, i1, rfl, H⟩
 have up := fun h => p0.up (c := y) h i0.2
 refine qi (qi (ql ?_))
 refine sps [.int .i64 y, .bool (decide ((y : Int) > 0))] ?_
 refine qj (t_n ?_)
 refine qC (decide ((y : Int) > 0)) rfl (fun h3 => ?_) (fun h3 => ?_)
 ·skip
  replace h3 := of_decide_eq_true h3
  refine qM (t_n (qW (qi (ql ?_))))
  refine sps [pp bs os, pp bs os] ?_
  refine oF rfl ?_
  refine oL rfl (H.xJ 0 rfl 1 rfl) ?_
  refine sp (.int .i64 y) ?_
  obtain ⟨b4, o5, rfl⟩ := H.addr 1 rfl (by omega)
  refine oI rfl rfl ?_
  refine oL rfl (H.vT 1 rfl y (by omega) (by omega)) ?_
  refine sp (.int .i64 (s.qf[y.toNat]!)) ?_
  refine qj (t_n (qi (ql ?_)))
  refine sps [.int .i64 (s.qf[y.toNat]!), .int .i64 other, .bool ((s.qf[y.toNat]! : Int) == other)] ?_
  refine qj (t_n ?_)
  refine qC ((s.qf[y.toNat]! : Int) == other) rfl (fun h6 => ?_) (fun h6 => ?_)
  ·skip
   replace h6 := eq_of_beq h6
   refine qi (ql ?_)
   refine sp (.bool true) ?_
   refine qj (t_n (qV (b_r (t_r (b_r (t_r ?_))))))
   refine ret1 (.bool true) rfl rfl ⟨_, rfl, ?_, H.base⟩
   rw [jE (i1.2 (.here (by omega) ‹_›))]
  replace h6 := ne_of_beq_false h6
  refine qM (b_n ?_)
  have up1 := up (by omega)
  refine xk (m' := (s.qf[y.toNat]!).toNat) (by omega) ⟨_, (s.qf[y.toNat]!), (by exact qg (qg (qg (rfl) rfl) rfl) rfl), ?_, ?_, rfl, H⟩
  · have := up (by omega); omega
  · exact i1.trans (lies_iff.trans ⟨fun h => h.2.resolve_left ‹_›, fun h => ⟨by omega, .inr h⟩⟩)
 replace h3 := of_decide_eq_false h3
 refine xQ (t_x (t_x (b_x (t_n (qi (ql ?_))))))
 refine sp (.bool false) ?_
 refine qj (t_n (qV ?_))
 refine ret1 (.bool false) rfl rfl ⟨_, rfl, ?_, H.base⟩
 rw [qY (fun h => by have := (lies_iff.1 (i1.1 h)).1; omega)]

theorem l02Rule_ok (w : World) (s : qK) (r : Qm) (bs os : Nat) (qx : Option Addr) (qp : Nat) (xn : List Nat) (qN : Option Addr) (qL : Nat) (xG : List Nat) (br or : Nat) (ja : Option Addr) (vU : Nat) (Xl : List Nat) (jd : Option Addr) (vX : Nat) (Xo : List Nat) (jb : Option Addr) (vV : Nat) (Xm : List Nat) (jc : Option Addr) (vW : Nat) (Xn : List Nat) (yK : Option Addr) (yJ : Nat) (FrOut : List Nat) (vz : Option Addr) (vw : Nat) (FrInto : List Nat) (hs : zT w bs os [.int .i64 s.qH, .slice qx s.qf.length qp, .slice qN s.qh.length qL]) (xh : qE.rep w xn [.slice qx s.qf.length qp] s.qf) (xE : qE.rep w xG [.slice qN s.qh.length qL] s.qh) (hr : zT w br or [.int .i64 r.qw, .int .i64 r.xN, .slice ja r.qO.length vU, .slice jd r.qX.length vX, .slice jb r.xe.length vV, .slice jc r.xm.length vW, .slice yK r.xZ.length yJ, .slice vz r.qF.length vw, .bool r.xO]) (hrNeed : qE.rep w Xl [.slice ja r.qO.length vU] r.qO) (hrHave : qE.rep w Xo [.slice jd r.qX.length vX] r.qX) (hrLack : qE.rep w Xm [.slice jb r.xe.length vV] r.xe) (hrHere : qE.rep w Xn [.slice jc r.xm.length vW] r.xm) (hrOut : qE.rep w FrOut [.slice yK r.xZ.length yJ] r.xZ) (hrInto : qE.rep w FrInto [.slice vz r.qF.length vw] r.qF) (p0 : yt s) : Calls Tryz.prog 134 #[pp bs os, pp br or] w (Ret (fun v w' => v = .bool (dec (RuleOk s r))) w) := by
 refine en Tryz.func134 Tryz.ntmps134 ?_
 have H := ((((((((((St.start w).arg hrInto).arg hrOut).arg hrHere).arg hrLack).arg hrHave).arg hrNeed).argAt hr).arg xE).arg xh).argAt hs
 have zU := qA xh
 have jD := qA xE
 have nhrNeed := qA hrNeed
 have nhrHave := qA hrHave
 have nhrLack := qA hrLack
 have nhrHere := qA hrHere
 have nhrOut := qA hrOut
 have nhrInto := qA hrInto
 clear hs xh xE hr hrNeed hrHave hrLack hrHere hrOut hrInto
 refine qi (ql ?_)
 refine sp (.bool false) ?_
 refine qj (t_n (qi (qi ?_)))
 refine vZ rfl H fun H => ?_
 refine rtp 0 (pp br or) H ?_
 refine rtp 1 (pp br or) H ?_
 refine tF 2 rfl rfl H ?_
 refine tL 3 rfl rfl (fun _ h => h.xJ 3 rfl 0 rfl) H ?_
 refine rtp 4 (pp bs os) H ?_
 refine rtp 5 (pp bs os) H ?_
 refine tF 6 rfl rfl H ?_
 refine tL 7 rfl rfl (fun _ h => h.xJ 0 rfl 1 rfl) H ?_
 refine tN 8 rfl rfl H ?_
 refine rt 9 (.int .i64 (s.qf.length - 1)) (y_sub s.qf.length 1 rfl rfl (by omega)) H ?_
 refine qR [10] (by kernel_rfl) (by simp) (xA rfl ?_ qU)
 refine oc (l00In_ok w.drew r.qw 0 (s.qf.length - 1)) ?_
 rintro _ w2 rfl x3
 replace H := H.ext x3
 refine ⟨H, ?_⟩
 refine rtp 11 (.bool (!(inR r.qw 0 (s.qf.length - 1)))) H ?_
 refine rtp 12 (.bool (!(inR r.qw 0 (s.qf.length - 1)))) H ?_
 cases h4 : (!(inR r.qw 0 (s.qf.length - 1)))
 ·skip
  replace h4 := qJ h4
  replace h4 := yV.1 h4
  refine rgp 13 (pp br or) 19 H ?_
  refine rgp 14 (pp br or) 19 H ?_
  refine gF 15 rfl rfl H ?_
  refine gL 16 rfl rfl (fun _ h => h.xJ 3 rfl 1 rfl) H ?_
  refine qR [17] (by kernel_rfl) (by simp) (r_opG rfl (e := 19) rfl rfl ?_ qU)
  refine oc (l00In_ok w2 r.xN 0 9) ?_
  rintro _ w5 rfl x6
  replace H := H.ext x6
  refine ⟨H, ?_⟩
  refine rgp 18 (.bool (!(inR r.xN 0 9))) 19 H ?_
  refine rtp 19 (.bool (!(inR r.xN 0 9))) H ?_
  refine rtp 20 (.bool (!(inR r.xN 0 9))) H ?_
  cases h7 : (!(inR r.xN 0 9))
  ·skip
   replace h7 := qJ h7
   replace h7 := yV.1 h7
   refine rgp 21 (pp br or) 27 H ?_
   refine rgp 22 (pp br or) 27 H ?_
   refine gF 23 rfl rfl H ?_
   refine gL 24 rfl rfl (fun _ h => h.xJ 3 rfl 8 rfl) H ?_
   refine rgp 25 (.bool r.xO) 27 H ?_
   cases h8 : (r.xO)
   ·skip
    rw [h8] at H
    refine zi [26, 27, 28, 29, 30] 5 (H) ?_
    refine rgp 31 (.bool false) 27 H ?_
    refine rtp 32 (.bool false) H ?_
    refine rtp 33 (.bool false) H ?_
    refine rgp 34 (pp br or) 40 H ?_
    refine rgp 35 (pp br or) 40 H ?_
    refine gF 36 rfl rfl H ?_
    refine gL 37 rfl rfl (fun _ h => h.xJ 3 rfl 7 rfl) H ?_
    refine gN 38 rfl rfl H ?_
    refine rgp 39 (.bool (decide ((r.qF.length : Int) > 3))) 40 H ?_
    refine rtp 40 (.bool (decide ((r.qF.length : Int) > 3))) H ?_
    refine xq (by kernel_rfl) (t_n ?_)
    refine qC (decide ((r.qF.length : Int) > 3)) rfl (fun h9 => ?_) (fun h9 => ?_)
    ·skip
     replace h9 := of_decide_eq_true h9
     refine qi (ql ?_)
     refine sp (.bool false) ?_
     refine qj (t_n (qV (t_r ?_)))
     refine ret1 (.bool false) rfl rfl ⟨_, rfl, ?_, H.base⟩
     rw [qY (fun h => by obtain ⟨h1, h2, h3, h4, h5, h6, h7, h8, h9, h10, h11⟩ := h; first | contradiction | omega | exact h3 ⟨‹_›, ‹_›⟩ | (obtain ⟨q1, q2, q3, q4, q5⟩ := h11 k (by omega); first | contradiction | omega | (have := q5 (by omega); omega)))]
    replace h9 := of_decide_eq_false h9
    refine qM (t_n (qi (qi (ql ?_))))
    refine sps [pp bs os, pp br or, pp br or] ?_
    refine oF rfl ?_
    refine oL rfl (H.xJ 3 rfl 2 rfl) ?_
    refine sw (oc (yB _ s r.qO _ _ _ _ _ _ _ _ _ _ _ (qI (H.get 0 rfl) 0 3) (H.get 1 rfl).1 (H.get 2 rfl).1 (H.get 4 rfl).1) ?_)
    rintro _ w10 rfl x11
    replace H := H.ext x11
    refine sps [.bool (!(dec (zg s.qH r.qO))), .bool (!(dec (zg s.qH r.qO)))] ?_
    cases h12 : (!(dec (zg s.qH r.qO)))
    ·skip
     replace h12 := qJ h12
     replace h12 := vC h12
     refine qB 55 rfl rfl ?_
     refine sp (pp bs os) ?_
     refine qB 55 rfl rfl ?_
     refine sp (pp br or) ?_
     refine qB 55 rfl rfl ?_
     refine sp (pp br or) ?_
     refine qB 55 rfl rfl ?_
     refine oF rfl ?_
     refine qB 55 rfl rfl ?_
     refine oL rfl (H.xJ 3 rfl 3 rfl) ?_
     refine qB 55 rfl rfl ?_
     refine sw (oc (yB _ s r.qX _ _ _ _ _ _ _ _ _ _ _ (qI (H.get 0 rfl) 0 3) (H.get 1 rfl).1 (H.get 2 rfl).1 (H.get 5 rfl).1) ?_)
     rintro _ w13 rfl x14
     replace H := H.ext x14
     refine qB 55 rfl rfl ?_
     refine sps [.bool (!(dec (zg s.qH r.qX))), .bool (!(dec (zg s.qH r.qX))), .bool (!(dec (zg s.qH r.qX)))] ?_
     cases h15 : (!(dec (zg s.qH r.qX)))
     ·skip
      replace h15 := qJ h15
      replace h15 := vC h15
      refine qB 64 rfl rfl ?_
      refine sp (pp bs os) ?_
      refine qB 64 rfl rfl ?_
      refine sp (pp br or) ?_
      refine qB 64 rfl rfl ?_
      refine sp (pp br or) ?_
      refine qB 64 rfl rfl ?_
      refine oF rfl ?_
      refine qB 64 rfl rfl ?_
      refine oL rfl (H.xJ 3 rfl 4 rfl) ?_
      refine qB 64 rfl rfl ?_
      refine sw (oc (yB _ s r.xe _ _ _ _ _ _ _ _ _ _ _ (qI (H.get 0 rfl) 0 3) (H.get 1 rfl).1 (H.get 2 rfl).1 (H.get 6 rfl).1) ?_)
      rintro _ w16 rfl x17
      replace H := H.ext x17
      refine qB 64 rfl rfl ?_
      refine sps [.bool (!(dec (zg s.qH r.xe))), .bool (!(dec (zg s.qH r.xe))), .bool (!(dec (zg s.qH r.xe)))] ?_
      cases h18 : (!(dec (zg s.qH r.xe)))
      ·skip
       replace h18 := qJ h18
       replace h18 := vC h18
       refine qB 73 rfl rfl ?_
       refine sp (pp bs os) ?_
       refine qB 73 rfl rfl ?_
       refine sp (pp br or) ?_
       refine qB 73 rfl rfl ?_
       refine sp (pp br or) ?_
       refine qB 73 rfl rfl ?_
       refine oF rfl ?_
       refine qB 73 rfl rfl ?_
       refine oL rfl (H.xJ 3 rfl 5 rfl) ?_
       refine qB 73 rfl rfl ?_
       refine sw (oc (yB _ s r.xm _ _ _ _ _ _ _ _ _ _ _ (qI (H.get 0 rfl) 0 3) (H.get 1 rfl).1 (H.get 2 rfl).1 (H.get 7 rfl).1) ?_)
       rintro _ w19 rfl x20
       replace H := H.ext x20
       refine qB 73 rfl rfl ?_
       refine sps [.bool (!(dec (zg s.qH r.xm))), .bool (!(dec (zg s.qH r.xm))), .bool (!(dec (zg s.qH r.xm)))] ?_
       cases h21 : (!(dec (zg s.qH r.xm)))
       ·skip
        replace h21 := qJ h21
        replace h21 := vC h21
        refine qB 82 rfl rfl ?_
        refine sp (pp bs os) ?_
        refine qB 82 rfl rfl ?_
        refine sp (pp br or) ?_
        refine qB 82 rfl rfl ?_
        refine sp (pp br or) ?_
        refine qB 82 rfl rfl ?_
        refine oF rfl ?_
        refine qB 82 rfl rfl ?_
        refine oL rfl (H.xJ 3 rfl 6 rfl) ?_
        refine qB 82 rfl rfl ?_
        refine sw (oc (yB _ s r.xZ _ _ _ _ _ _ _ _ _ _ _ (qI (H.get 0 rfl) 0 3) (H.get 1 rfl).1 (H.get 2 rfl).1 (H.get 8 rfl).1) ?_)
        rintro _ w22 rfl x23
        replace H := H.ext x23
        refine qB 82 rfl rfl ?_
        refine sps [.bool (!(dec (zg s.qH r.xZ))), .bool (!(dec (zg s.qH r.xZ))), .bool (!(dec (zg s.qH r.xZ)))] ?_
        cases h24 : (!(dec (zg s.qH r.xZ)))
        ·skip
         replace h24 := qJ h24
         replace h24 := vC h24
         refine qB 91 rfl rfl ?_
         refine sp (pp br or) ?_
         refine qB 91 rfl rfl ?_
         refine sp (pp br or) ?_
         refine qB 91 rfl rfl ?_
         refine oF rfl ?_
         refine qB 91 rfl rfl ?_
         refine oL rfl (H.xJ 3 rfl 2 rfl) ?_
         refine qB 91 rfl rfl ?_
         refine sw (oc (XC _ r.qO _ _ _ (H.get 4 rfl).1 (by first | assumption | exact zo (by assumption) | exact jw (by assumption))) ?_)
         rintro _ w25 rfl x26
         replace H := H.ext x26
         refine qB 91 rfl rfl ?_
         refine sps [.bool ((Qz r.qO : Int) == 0), .bool ((Qz r.qO : Int) == 0)] ?_
         refine qj (t_n ?_)
         refine qC ((Qz r.qO : Int) == 0) rfl (fun h27 => ?_) (fun h27 => ?_)
         ·skip
          replace h27 := eq_of_beq h27
          refine qi (ql ?_)
          refine sp (.bool false) ?_
          refine qj (t_n (qV (t_r ?_)))
          refine ret1 (.bool false) rfl rfl ⟨_, rfl, ?_, H.base⟩
          rw [qY (fun h => by obtain ⟨h1, h2, h3, h4, h5, h6, h7, h8, h9, h10, h11⟩ := h; first | contradiction | omega | exact h3 ⟨‹_›, ‹_›⟩ | (obtain ⟨q1, q2, q3, q4, q5⟩ := h11 k (by omega); first | contradiction | omega | (have := q5 (by omega); omega)))]
         replace h27 := ne_of_beq_false h27
         refine qM (t_n (qi (qi (ql ?_))))
         refine sp (.int .i64 0) ?_
         refine qj (t_n (qW ?_))
         refine zf (fun m' ρ w28 => ∃ (junk : Env) (k : Nat), ρ = upd (upd (upd junk 0 (pp bs os)) 1 (pp br or)) 5 (.int .i64 k) ∧ (k ≤ r.qF.length) ∧ (IntosTo s r k) ∧ m' = r.qF.length - k ∧ St w w28 [] [atF bs os [.int .i64 s.qH, .slice qx s.qf.length qp, .slice qN s.qh.length qL], isF false xn (.slice qx s.qf.length qp) s.qf, isF false xG (.slice qN s.qh.length qL) s.qh, atF br or [.int .i64 r.qw, .int .i64 r.xN, .slice ja r.qO.length vU, .slice jd r.qX.length vX, .slice jb r.xe.length vV, .slice jc r.xm.length vW, .slice yK r.xZ.length yJ, .slice vz r.qF.length vw, .bool false], isF false Xl (.slice ja r.qO.length vU) r.qO, isF false Xo (.slice jd r.qX.length vX) r.qX, isF false Xm (.slice jb r.xe.length vV) r.xe, isF false Xn (.slice jc r.xm.length vW) r.xm, isF false FrOut (.slice yK r.xZ.length yJ) r.xZ, isF false FrInto (.slice vz r.qF.length vw) r.qF]) (r.qF.length - 0) ⟨_, 0, (by exact qg (qg (qg (rfl) rfl) rfl) rfl), (by omega), (by exact fun j hj => by omega), rfl, H⟩ ?_
         clear H
         rintro m' ρ w29 ⟨junk, k, rfl, i0, i1, rfl, H⟩
         refine qi (qi (ql ?_))
         refine sps [.int .i64 k, pp br or, pp br or] ?_
         refine oF rfl ?_
         refine oL rfl (H.xJ 3 rfl 7 rfl) ?_
         refine oN rfl ?_
         refine sp (.bool (decide ((k : Int) < r.qF.length))) ?_
         refine qj (t_n ?_)
         refine qC (decide ((k : Int) < r.qF.length)) rfl (fun h30 => ?_) (fun h30 => ?_)
         ·skip
          replace h30 := of_decide_eq_true h30
          refine qM (t_n (qi (qW (qi (ql ?_)))))
          refine sps [pp br or, pp br or] ?_
          refine oF rfl ?_
          refine oL rfl (H.xJ 3 rfl 7 rfl) ?_
          refine sp (.int .i64 k) ?_
          obtain ⟨b31, o32, rfl⟩ := H.addr 9 rfl (by omega)
          obtain ⟨ae33Bag, ce33Bag, Fe33Bag, H⟩ := H.jC 9 rfl k k (by omega) (by omega) (by omega)
          refine oI rfl rfl ?_
          refine sp (pp b31 (o32 + (k : Int).toNat * 2)) ?_
          refine qj (t_n (qi (qi ?_)))
          refine vZ rfl H fun H => ?_
          refine rtp 0 (pp b31 (o32 + (k : Int).toNat * 2)) H ?_
          refine rtp 1 (pp b31 (o32 + (k : Int).toNat * 2)) H ?_
          refine tF 2 rfl rfl H ?_
          refine tL 3 rfl rfl (fun _ h => h.xJ 1 rfl 0 rfl) H ?_
          refine rtp 4 (pp bs os) H ?_
          refine rtp 5 (pp bs os) H ?_
          refine tF 6 rfl rfl H ?_
          refine tL 7 rfl rfl (fun _ h => h.xJ 2 rfl 1 rfl) H ?_
          refine tN 8 rfl rfl H ?_
          refine rt 9 (.int .i64 (s.qf.length - 1)) (y_sub s.qf.length 1 rfl rfl (by omega)) H ?_
          refine qR [10] (by kernel_rfl) (by simp) (xA rfl ?_ qU)
          refine oc (l00In_ok w29.drew ((r.qF[k]!).qw) 0 (s.qf.length - 1)) ?_
          rintro _ w35 rfl x36
          replace H := H.ext x36
          refine ⟨H, ?_⟩
          refine rtp 11 (.bool (!(inR ((r.qF[k]!).qw) 0 (s.qf.length - 1)))) H ?_
          refine rtp 12 (.bool (!(inR ((r.qF[k]!).qw) 0 (s.qf.length - 1)))) H ?_
          cases h37 : (!(inR ((r.qF[k]!).qw) 0 (s.qf.length - 1)))
          ·skip
           replace h37 := qJ h37
           replace h37 := yV.1 h37
           refine rgp 13 (pp bs os) 126 H ?_
           refine rgp 14 (pp b31 (o32 + (k : Int).toNat * 2)) 126 H ?_
           refine rgp 15 (pp b31 (o32 + (k : Int).toNat * 2)) 126 H ?_
           refine gF 16 rfl rfl H ?_
           refine gL 17 rfl rfl (fun _ h => h.xJ 1 rfl 0 rfl) H ?_
           refine rgp 18 (pp br or) 126 H ?_
           refine rgp 19 (pp br or) 126 H ?_
           refine gF 20 rfl rfl H ?_
           refine gL 21 rfl rfl (fun _ h => h.xJ 5 rfl 0 rfl) H ?_
           refine qR [22] (by kernel_rfl) (by simp) (r_opG rfl (e := 126) rfl rfl ?_ qU)
           refine oc (l02In_ok _ s ((r.qF[k]!).qw) r.qw _ _ _ _ _ _ _ _ (qI (H.get 2 rfl) 0 3) (H.get 3 rfl).1 (H.get 4 rfl).1 (by assumption) (by assumption)) ?_
           rintro _ w38 rfl x39
           replace H := H.ext x39
           refine ⟨H, ?_⟩
           refine rgp 23 (.bool (!(dec (Lies s.qf r.qw ((r.qF[k]!).qw))))) 126 H ?_
           refine rtp 24 (.bool (!(dec (Lies s.qf r.qw ((r.qF[k]!).qw))))) H ?_
           refine rtp 25 (.bool (!(dec (Lies s.qf r.qw ((r.qF[k]!).qw))))) H ?_
           cases h40 : (!(dec (Lies s.qf r.qw ((r.qF[k]!).qw))))
           ·skip
            replace h40 := qJ h40
            replace h40 := vC h40
            refine rgp 26 (pp bs os) 139 H ?_
            refine rgp 27 (pp b31 (o32 + (k : Int).toNat * 2)) 139 H ?_
            refine rgp 28 (pp b31 (o32 + (k : Int).toNat * 2)) 139 H ?_
            refine gF 29 rfl rfl H ?_
            refine gL 30 rfl rfl (fun _ h => h.xJ 1 rfl 1 rfl) H ?_
            refine qR [31] (by kernel_rfl) (by simp) (r_opG rfl (e := 139) rfl rfl ?_ qU)
            refine oc (yB _ s ((r.qF[k]!).zZ) _ _ _ _ _ _ _ _ _ _ _ (qI (H.get 2 rfl) 0 3) (H.get 3 rfl).1 (H.get 4 rfl).1 (H.get 0 rfl).1) ?_
            rintro _ w41 rfl x42
            replace H := H.ext x42
            refine ⟨H, ?_⟩
            refine rgp 32 (.bool (!(dec (zg s.qH ((r.qF[k]!).zZ))))) 139 H ?_
            refine rtp 33 (.bool (!(dec (zg s.qH ((r.qF[k]!).zZ))))) H ?_
            refine rtp 34 (.bool (!(dec (zg s.qH ((r.qF[k]!).zZ))))) H ?_
            cases h43 : (!(dec (zg s.qH ((r.qF[k]!).zZ))))
            ·skip
             replace h43 := qJ h43
             replace h43 := vC h43
             refine rgp 35 (pp b31 (o32 + (k : Int).toNat * 2)) 148 H ?_
             refine rgp 36 (pp b31 (o32 + (k : Int).toNat * 2)) 148 H ?_
             refine gF 37 rfl rfl H ?_
             refine gL 38 rfl rfl (fun _ h => h.xJ 1 rfl 1 rfl) H ?_
             refine qR [39] (by kernel_rfl) (by simp) (r_opG rfl (e := 148) rfl rfl ?_ qU)
             refine oc (XC _ ((r.qF[k]!).zZ) _ _ _ (H.get 0 rfl).1 (by first | assumption | exact zo (by assumption) | exact jw (by assumption))) ?_
             rintro _ w44 rfl x45
             replace H := H.ext x45
             refine ⟨H, ?_⟩
             refine rgp 40 (.bool ((Qz ((r.qF[k]!).zZ) : Int) == 0)) 148 H ?_
             refine rtp 41 (.bool ((Qz ((r.qF[k]!).zZ) : Int) == 0)) H ?_
             refine xq (by kernel_rfl) (t_n ?_)
             refine qC ((Qz ((r.qF[k]!).zZ) : Int) == 0) rfl (fun h46 => ?_) (fun h46 => ?_)
             ·skip
              replace h46 := eq_of_beq h46
              refine qi (ql ?_)
              refine sp (.bool false) ?_
              refine qj (t_n (qV (t_r (b_r (t_r (t_r (b_r (t_r ?_))))))))
              refine ret1 (.bool false) rfl rfl ⟨_, rfl, ?_, H.base⟩
              rw [qY (fun h => by obtain ⟨h1, h2, h3, h4, h5, h6, h7, h8, h9, h10, h11⟩ := h; first | contradiction | omega | exact h3 ⟨‹_›, ‹_›⟩ | (obtain ⟨q1, q2, q3, q4, q5⟩ := h11 k (by omega); first | contradiction | omega | (have := q5 (by omega); omega)))]
             replace h46 := ne_of_beq_false h46
             refine qM (t_n (qi ?_))
             refine vZ rfl H fun H => ?_
             refine rtp 0 (.int .i64 k) H ?_
             refine rtp 1 (.bool (decide ((k : Int) > 0))) H ?_
             refine rtp 2 (.bool (decide ((k : Int) > 0))) H ?_
             cases h48 : (decide ((k : Int) > 0))
             ·skip
              replace h48 := of_decide_eq_false h48
              refine zi [3, 4, 5, 6, 7, 8, 9, 10, 11, 12, 13, 14, 15, 16] 14 (H) ?_
              refine rtp 17 (.bool false) H ?_
              refine xq (by kernel_rfl) (t_n ?_)
              refine qC false rfl (fun h => absurd h (by decide)) (fun _ => ?_)
              refine qM (b_n (t_n (ql ?_)))
              refine sp (.int .i64 k) ?_
              refine sw (zk k 1 rfl rfl (by omega) ?_)
              refine sp (.int .i64 (k + 1)) ?_
              refine qj ?_
              refine xk (m' := r.qF.length - (k + 1)) (by omega) ⟨_, k + 1, (by exact qg (qg (qg (rfl) rfl) rfl) rfl), ?_, ?_, rfl, H.sel _ (.refl _) _ (by simp)⟩
              · omega
              · exact i1.succ ⟨‹_›, ‹_›, ‹_›, ‹_›, fun hk => by omega⟩
             replace h48 := of_decide_eq_true h48
             refine rgp 3 (pp br or) 158 H ?_
             refine rgp 4 (pp br or) 158 H ?_
             refine gF 5 rfl rfl H ?_
             refine gL 6 rfl rfl (fun _ h => h.xJ 5 rfl 7 rfl) H ?_
             refine rgp 7 (.int .i64 k) 158 H ?_
             refine rg 8 (.int .i64 (k - 1)) 158 (y_sub k 1 rfl rfl (by omega)) H ?_
             obtain ⟨ae49Bag, ce49Bag, Fe49Bag, H⟩ := H.jC 11 rfl (k - 1) (k - 1) (by omega) (by omega) (by omega)
             refine gI 9 rfl rfl rfl (H.sel _ (.refl _) _ (fun _ h => List.mem_cons_of_mem _ (List.mem_cons_of_mem _ (h)))) ?_
             refine gF 10 rfl rfl (H.sel _ (.refl _) _ (fun _ h => List.mem_cons_of_mem _ (List.mem_cons_of_mem _ (h)))) ?_
             refine rgp 12 (pp b31 (o32 + (k : Int).toNat * 2)) 158 (H.sel _ (.refl _) _ (fun _ h => List.mem_cons_of_mem _ (List.mem_cons_of_mem _ (h)))) ?_
             refine rgp 13 (pp b31 (o32 + (k : Int).toNat * 2)) 158 (H.sel _ (.refl _) _ (fun _ h => List.mem_cons_of_mem _ (List.mem_cons_of_mem _ (h)))) ?_
             refine gF 14 rfl rfl (H.sel _ (.refl _) _ (fun _ h => List.mem_cons_of_mem _ (List.mem_cons_of_mem _ (h)))) ?_
             refine gL 15 rfl rfl (fun _ h => h.xJ 1 rfl 0 rfl) (H.sel _ (.refl _) _ (fun _ h => List.mem_cons_of_mem _ (List.mem_cons_of_mem _ (h)))) ?_
             refine qR [11] (by kernel_rfl) (by simp) (r_opG rfl (e := 158) rfl rfl ?_ qU)
             refine jU (.int .i64 ((r.qF[k - 1]!).qw)) Tryz.isAgg2 rfl (H.xJ 1 rfl 0 rfl) ?_
             refine ⟨H.sel _ (.refl _) _ (fun _ h => List.mem_cons_of_mem _ (List.mem_cons_of_mem _ (h))), ?_⟩
             refine rgp 16 (.bool (decide (((r.qF[k - 1]!).qw : Int) ≥ ((r.qF[k]!).qw)))) 158 (H.sel _ (.refl _) _ (fun _ h => List.mem_cons_of_mem _ (List.mem_cons_of_mem _ (h)))) ?_
             refine rtp 17 (.bool (decide (((r.qF[k - 1]!).qw : Int) ≥ ((r.qF[k]!).qw)))) (H.sel _ (.refl _) _ (fun _ h => List.mem_cons_of_mem _ (List.mem_cons_of_mem _ (h)))) ?_
             refine xq (by kernel_rfl) (t_n ?_)
             refine qC (decide (((r.qF[k - 1]!).qw : Int) ≥ ((r.qF[k]!).qw))) rfl (fun h50 => ?_) (fun h50 => ?_)
             ·skip
              replace h50 := of_decide_eq_true h50
              refine qi (ql ?_)
              refine sp (.bool false) ?_
              refine qj (t_n (qV (b_r (t_r (t_r (b_r (t_r ?_)))))))
              refine ret1 (.bool false) rfl rfl ⟨_, rfl, ?_, H.base⟩
              rw [qY (fun h => by obtain ⟨h1, h2, h3, h4, h5, h6, h7, h8, h9, h10, h11⟩ := h; first | contradiction | omega | exact h3 ⟨‹_›, ‹_›⟩ | (obtain ⟨q1, q2, q3, q4, q5⟩ := h11 k (by omega); first | contradiction | omega | (have := q5 (by omega); omega)))]
             replace h50 := of_decide_eq_false h50
             refine qM (b_n (t_n (ql ?_)))
             refine sp (.int .i64 k) ?_
             refine sw (zk k 1 rfl rfl (by omega) ?_)
             refine sp (.int .i64 (k + 1)) ?_
             refine qj ?_
             refine xk (m' := r.qF.length - (k + 1)) (by omega) ⟨_, k + 1, (by exact qg (qg (qg (rfl) rfl) rfl) rfl), ?_, ?_, rfl, H.sel _ (.refl _) _ (by simp)⟩
             · omega
             · exact i1.succ ⟨‹_›, ‹_›, ‹_›, ‹_›, fun hk => by omega⟩
            replace h43 := qP h43
            replace h43 := xI h43
            refine zi [35, 36, 37, 38, 39, 40] 6 (H) ?_
            refine rtp 41 (.bool true) H ?_
            refine xq (by kernel_rfl) (t_n ?_)
            refine qC true rfl (fun _ => ?_) (fun h => absurd h (by decide))
            refine qi (ql ?_)
            refine sp (.bool false) ?_
            refine qj (t_n (qV (t_r (b_r (t_r (t_r (b_r (t_r ?_))))))))
            refine ret1 (.bool false) rfl rfl ⟨_, rfl, ?_, H.base⟩
            rw [qY (fun h => by obtain ⟨h1, h2, h3, h4, h5, h6, h7, h8, h9, h10, h11⟩ := h; first | contradiction | omega | exact h3 ⟨‹_›, ‹_›⟩ | (obtain ⟨q1, q2, q3, q4, q5⟩ := h11 k (by omega); first | contradiction | omega | (have := q5 (by omega); omega)))]
           replace h40 := qP h40
           replace h40 := xI h40
           refine zi [26, 27, 28, 29, 30, 31, 32] 7 (H) ?_
           refine rtp 33 (.bool true) H ?_
           refine rtp 34 (.bool true) H ?_
           refine zi [35, 36, 37, 38, 39, 40] 6 (H) ?_
           refine rtp 41 (.bool true) H ?_
           refine xq (by kernel_rfl) (t_n ?_)
           refine qC true rfl (fun _ => ?_) (fun h => absurd h (by decide))
           refine qi (ql ?_)
           refine sp (.bool false) ?_
           refine qj (t_n (qV (t_r (b_r (t_r (t_r (b_r (t_r ?_))))))))
           refine ret1 (.bool false) rfl rfl ⟨_, rfl, ?_, H.base⟩
           rw [qY (fun h => by obtain ⟨h1, h2, h3, h4, h5, h6, h7, h8, h9, h10, h11⟩ := h; first | contradiction | omega | exact h3 ⟨‹_›, ‹_›⟩ | (obtain ⟨q1, q2, q3, q4, q5⟩ := h11 k (by omega); first | contradiction | omega | (have := q5 (by omega); omega)))]
          replace h37 := qP h37
          replace h37 := QP h37
          refine zi [13, 14, 15, 16, 17, 18, 19, 20, 21, 22, 23] 11 (H) ?_
          refine rtp 24 (.bool true) H ?_
          refine rtp 25 (.bool true) H ?_
          refine zi [26, 27, 28, 29, 30, 31, 32] 7 (H) ?_
          refine rtp 33 (.bool true) H ?_
          refine rtp 34 (.bool true) H ?_
          refine zi [35, 36, 37, 38, 39, 40] 6 (H) ?_
          refine rtp 41 (.bool true) H ?_
          refine xq (by kernel_rfl) (t_n ?_)
          refine qC true rfl (fun _ => ?_) (fun h => absurd h (by decide))
          refine qi (ql ?_)
          refine sp (.bool false) ?_
          refine qj (t_n (qV (t_r (b_r (t_r (t_r (b_r (t_r ?_))))))))
          refine ret1 (.bool false) rfl rfl ⟨_, rfl, ?_, H.base⟩
          rw [qY (fun h => by obtain ⟨h1, h2, h3, h4, h5, h6, h7, h8, h9, h10, h11⟩ := h; first | contradiction | omega | exact h3 ⟨‹_›, ‹_›⟩ | (obtain ⟨q1, q2, q3, q4, q5⟩ := h11 k (by omega); first | contradiction | omega | (have := q5 (by omega); omega)))]
         replace h30 := of_decide_eq_false h30
         refine xQ (t_x (t_x (b_x (t_n (qi (ql ?_))))))
         refine sp (.bool true) ?_
         refine qj (t_n (qV ?_))
         refine ret1 (.bool true) rfl rfl ⟨_, rfl, ?_, H.base⟩
         obtain rfl : k = r.qF.length := by omega
         rw [jE ⟨by assumption, by omega, by simp_all, by omega, by assumption, by assumption, by assumption, by assumption, by assumption, by assumption, i1⟩]
        replace h24 := qP h24
        replace h24 := xI h24
        refine xF [92, 93, 94, 95, 96, 97] ?_
        refine sp (.bool true) ?_
        refine qj (t_n ?_)
        refine qC true rfl (fun _ => ?_) (fun h => absurd h (by decide))
        refine qi (ql ?_)
        refine sp (.bool false) ?_
        refine qj (t_n (qV (t_r ?_)))
        refine ret1 (.bool false) rfl rfl ⟨_, rfl, ?_, H.base⟩
        rw [qY (fun h => by obtain ⟨h1, h2, h3, h4, h5, h6, h7, h8, h9, h10, h11⟩ := h; first | contradiction | omega | exact h3 ⟨‹_›, ‹_›⟩ | (obtain ⟨q1, q2, q3, q4, q5⟩ := h11 k (by omega); first | contradiction | omega | (have := q5 (by omega); omega)))]
       replace h21 := qP h21
       replace h21 := xI h21
       refine xF [83, 84, 85, 86, 87, 88, 89] ?_
       refine sps [.bool true, .bool true] ?_
       refine xF [92, 93, 94, 95, 96, 97] ?_
       refine sp (.bool true) ?_
       refine qj (t_n ?_)
       refine qC true rfl (fun _ => ?_) (fun h => absurd h (by decide))
       refine qi (ql ?_)
       refine sp (.bool false) ?_
       refine qj (t_n (qV (t_r ?_)))
       refine ret1 (.bool false) rfl rfl ⟨_, rfl, ?_, H.base⟩
       rw [qY (fun h => by obtain ⟨h1, h2, h3, h4, h5, h6, h7, h8, h9, h10, h11⟩ := h; first | contradiction | omega | exact h3 ⟨‹_›, ‹_›⟩ | (obtain ⟨q1, q2, q3, q4, q5⟩ := h11 k (by omega); first | contradiction | omega | (have := q5 (by omega); omega)))]
      replace h18 := qP h18
      replace h18 := xI h18
      refine xF [74, 75, 76, 77, 78, 79, 80] ?_
      refine sps [.bool true, .bool true] ?_
      refine xF [83, 84, 85, 86, 87, 88, 89] ?_
      refine sps [.bool true, .bool true] ?_
      refine xF [92, 93, 94, 95, 96, 97] ?_
      refine sp (.bool true) ?_
      refine qj (t_n ?_)
      refine qC true rfl (fun _ => ?_) (fun h => absurd h (by decide))
      refine qi (ql ?_)
      refine sp (.bool false) ?_
      refine qj (t_n (qV (t_r ?_)))
      refine ret1 (.bool false) rfl rfl ⟨_, rfl, ?_, H.base⟩
      rw [qY (fun h => by obtain ⟨h1, h2, h3, h4, h5, h6, h7, h8, h9, h10, h11⟩ := h; first | contradiction | omega | exact h3 ⟨‹_›, ‹_›⟩ | (obtain ⟨q1, q2, q3, q4, q5⟩ := h11 k (by omega); first | contradiction | omega | (have := q5 (by omega); omega)))]
     replace h15 := qP h15
     replace h15 := xI h15
     refine xF [65, 66, 67, 68, 69, 70, 71] ?_
     refine sps [.bool true, .bool true] ?_
     refine xF [74, 75, 76, 77, 78, 79, 80] ?_
     refine sps [.bool true, .bool true] ?_
     refine xF [83, 84, 85, 86, 87, 88, 89] ?_
     refine sps [.bool true, .bool true] ?_
     refine xF [92, 93, 94, 95, 96, 97] ?_
     refine sp (.bool true) ?_
     refine qj (t_n ?_)
     refine qC true rfl (fun _ => ?_) (fun h => absurd h (by decide))
     refine qi (ql ?_)
     refine sp (.bool false) ?_
     refine qj (t_n (qV (t_r ?_)))
     refine ret1 (.bool false) rfl rfl ⟨_, rfl, ?_, H.base⟩
     rw [qY (fun h => by obtain ⟨h1, h2, h3, h4, h5, h6, h7, h8, h9, h10, h11⟩ := h; first | contradiction | omega | exact h3 ⟨‹_›, ‹_›⟩ | (obtain ⟨q1, q2, q3, q4, q5⟩ := h11 k (by omega); first | contradiction | omega | (have := q5 (by omega); omega)))]
    replace h12 := qP h12
    replace h12 := xI h12
    refine xF [56, 57, 58, 59, 60, 61, 62] ?_
    refine sps [.bool true, .bool true] ?_
    refine xF [65, 66, 67, 68, 69, 70, 71] ?_
    refine sps [.bool true, .bool true] ?_
    refine xF [74, 75, 76, 77, 78, 79, 80] ?_
    refine sps [.bool true, .bool true] ?_
    refine xF [83, 84, 85, 86, 87, 88, 89] ?_
    refine sps [.bool true, .bool true] ?_
    refine xF [92, 93, 94, 95, 96, 97] ?_
    refine sp (.bool true) ?_
    refine qj (t_n ?_)
    refine qC true rfl (fun _ => ?_) (fun h => absurd h (by decide))
    refine qi (ql ?_)
    refine sp (.bool false) ?_
    refine qj (t_n (qV (t_r ?_)))
    refine ret1 (.bool false) rfl rfl ⟨_, rfl, ?_, H.base⟩
    rw [qY (fun h => by obtain ⟨h1, h2, h3, h4, h5, h6, h7, h8, h9, h10, h11⟩ := h; first | contradiction | omega | exact h3 ⟨‹_›, ‹_›⟩ | (obtain ⟨q1, q2, q3, q4, q5⟩ := h11 k (by omega); first | contradiction | omega | (have := q5 (by omega); omega)))]
   rw [h8] at H
   refine rgp 26 (pp br or) 32 H ?_
   refine rgp 27 (pp br or) 32 H ?_
   refine gF 28 rfl rfl H ?_
   refine gL 29 rfl rfl (fun _ h => h.xJ 3 rfl 0 rfl) H ?_
   refine rgp 30 (.bool ((r.qw : Int) == 0)) 32 H ?_
   refine rgp 31 (.bool ((r.qw : Int) == 0)) 27 H ?_
   refine rtp 32 (.bool ((r.qw : Int) == 0)) H ?_
   refine rtp 33 (.bool ((r.qw : Int) == 0)) H ?_
   cases h51 : ((r.qw : Int) == 0)
   ·skip
    replace h51 := ne_of_beq_false h51
    refine rgp 34 (pp br or) 40 H ?_
    refine rgp 35 (pp br or) 40 H ?_
    refine gF 36 rfl rfl H ?_
    refine gL 37 rfl rfl (fun _ h => h.xJ 3 rfl 7 rfl) H ?_
    refine gN 38 rfl rfl H ?_
    refine rgp 39 (.bool (decide ((r.qF.length : Int) > 3))) 40 H ?_
    refine rtp 40 (.bool (decide ((r.qF.length : Int) > 3))) H ?_
    refine xq (by kernel_rfl) (t_n ?_)
    refine qC (decide ((r.qF.length : Int) > 3)) rfl (fun h52 => ?_) (fun h52 => ?_)
    ·skip
     replace h52 := of_decide_eq_true h52
     refine qi (ql ?_)
     refine sp (.bool false) ?_
     refine qj (t_n (qV (t_r ?_)))
     refine ret1 (.bool false) rfl rfl ⟨_, rfl, ?_, H.base⟩
     rw [qY (fun h => by obtain ⟨h1, h2, h3, h4, h5, h6, h7, h8, h9, h10, h11⟩ := h; first | contradiction | omega | exact h3 ⟨‹_›, ‹_›⟩ | (obtain ⟨q1, q2, q3, q4, q5⟩ := h11 k (by omega); first | contradiction | omega | (have := q5 (by omega); omega)))]
    replace h52 := of_decide_eq_false h52
    refine qM (t_n (qi (qi (ql ?_))))
    refine sps [pp bs os, pp br or, pp br or] ?_
    refine oF rfl ?_
    refine oL rfl (H.xJ 3 rfl 2 rfl) ?_
    refine sw (oc (yB _ s r.qO _ _ _ _ _ _ _ _ _ _ _ (qI (H.get 0 rfl) 0 3) (H.get 1 rfl).1 (H.get 2 rfl).1 (H.get 4 rfl).1) ?_)
    rintro _ w53 rfl x54
    replace H := H.ext x54
    refine sps [.bool (!(dec (zg s.qH r.qO))), .bool (!(dec (zg s.qH r.qO)))] ?_
    cases h55 : (!(dec (zg s.qH r.qO)))
    ·skip
     replace h55 := qJ h55
     replace h55 := vC h55
     refine qB 55 rfl rfl ?_
     refine sp (pp bs os) ?_
     refine qB 55 rfl rfl ?_
     refine sp (pp br or) ?_
     refine qB 55 rfl rfl ?_
     refine sp (pp br or) ?_
     refine qB 55 rfl rfl ?_
     refine oF rfl ?_
     refine qB 55 rfl rfl ?_
     refine oL rfl (H.xJ 3 rfl 3 rfl) ?_
     refine qB 55 rfl rfl ?_
     refine sw (oc (yB _ s r.qX _ _ _ _ _ _ _ _ _ _ _ (qI (H.get 0 rfl) 0 3) (H.get 1 rfl).1 (H.get 2 rfl).1 (H.get 5 rfl).1) ?_)
     rintro _ w56 rfl x57
     replace H := H.ext x57
     refine qB 55 rfl rfl ?_
     refine sps [.bool (!(dec (zg s.qH r.qX))), .bool (!(dec (zg s.qH r.qX))), .bool (!(dec (zg s.qH r.qX)))] ?_
     cases h58 : (!(dec (zg s.qH r.qX)))
     ·skip
      replace h58 := qJ h58
      replace h58 := vC h58
      refine qB 64 rfl rfl ?_
      refine sp (pp bs os) ?_
      refine qB 64 rfl rfl ?_
      refine sp (pp br or) ?_
      refine qB 64 rfl rfl ?_
      refine sp (pp br or) ?_
      refine qB 64 rfl rfl ?_
      refine oF rfl ?_
      refine qB 64 rfl rfl ?_
      refine oL rfl (H.xJ 3 rfl 4 rfl) ?_
      refine qB 64 rfl rfl ?_
      refine sw (oc (yB _ s r.xe _ _ _ _ _ _ _ _ _ _ _ (qI (H.get 0 rfl) 0 3) (H.get 1 rfl).1 (H.get 2 rfl).1 (H.get 6 rfl).1) ?_)
      rintro _ w59 rfl x60
      replace H := H.ext x60
      refine qB 64 rfl rfl ?_
      refine sps [.bool (!(dec (zg s.qH r.xe))), .bool (!(dec (zg s.qH r.xe))), .bool (!(dec (zg s.qH r.xe)))] ?_
      cases h61 : (!(dec (zg s.qH r.xe)))
      ·skip
       replace h61 := qJ h61
       replace h61 := vC h61
       refine qB 73 rfl rfl ?_
       refine sp (pp bs os) ?_
       refine qB 73 rfl rfl ?_
       refine sp (pp br or) ?_
       refine qB 73 rfl rfl ?_
       refine sp (pp br or) ?_
       refine qB 73 rfl rfl ?_
       refine oF rfl ?_
       refine qB 73 rfl rfl ?_
       refine oL rfl (H.xJ 3 rfl 5 rfl) ?_
       refine qB 73 rfl rfl ?_
       refine sw (oc (yB _ s r.xm _ _ _ _ _ _ _ _ _ _ _ (qI (H.get 0 rfl) 0 3) (H.get 1 rfl).1 (H.get 2 rfl).1 (H.get 7 rfl).1) ?_)
       rintro _ w62 rfl x63
       replace H := H.ext x63
       refine qB 73 rfl rfl ?_
       refine sps [.bool (!(dec (zg s.qH r.xm))), .bool (!(dec (zg s.qH r.xm))), .bool (!(dec (zg s.qH r.xm)))] ?_
       cases h64 : (!(dec (zg s.qH r.xm)))
       ·skip
        replace h64 := qJ h64
        replace h64 := vC h64
        refine qB 82 rfl rfl ?_
        refine sp (pp bs os) ?_
        refine qB 82 rfl rfl ?_
        refine sp (pp br or) ?_
        refine qB 82 rfl rfl ?_
        refine sp (pp br or) ?_
        refine qB 82 rfl rfl ?_
        refine oF rfl ?_
        refine qB 82 rfl rfl ?_
        refine oL rfl (H.xJ 3 rfl 6 rfl) ?_
        refine qB 82 rfl rfl ?_
        refine sw (oc (yB _ s r.xZ _ _ _ _ _ _ _ _ _ _ _ (qI (H.get 0 rfl) 0 3) (H.get 1 rfl).1 (H.get 2 rfl).1 (H.get 8 rfl).1) ?_)
        rintro _ w65 rfl x66
        replace H := H.ext x66
        refine qB 82 rfl rfl ?_
        refine sps [.bool (!(dec (zg s.qH r.xZ))), .bool (!(dec (zg s.qH r.xZ))), .bool (!(dec (zg s.qH r.xZ)))] ?_
        cases h67 : (!(dec (zg s.qH r.xZ)))
        ·skip
         replace h67 := qJ h67
         replace h67 := vC h67
         refine qB 91 rfl rfl ?_
         refine sp (pp br or) ?_
         refine qB 91 rfl rfl ?_
         refine sp (pp br or) ?_
         refine qB 91 rfl rfl ?_
         refine oF rfl ?_
         refine qB 91 rfl rfl ?_
         refine oL rfl (H.xJ 3 rfl 2 rfl) ?_
         refine qB 91 rfl rfl ?_
         refine sw (oc (XC _ r.qO _ _ _ (H.get 4 rfl).1 (by first | assumption | exact zo (by assumption) | exact jw (by assumption))) ?_)
         rintro _ w68 rfl x69
         replace H := H.ext x69
         refine qB 91 rfl rfl ?_
         refine sps [.bool ((Qz r.qO : Int) == 0), .bool ((Qz r.qO : Int) == 0)] ?_
         refine qj (t_n ?_)
         refine qC ((Qz r.qO : Int) == 0) rfl (fun h70 => ?_) (fun h70 => ?_)
         ·skip
          replace h70 := eq_of_beq h70
          refine qi (ql ?_)
          refine sp (.bool false) ?_
          refine qj (t_n (qV (t_r ?_)))
          refine ret1 (.bool false) rfl rfl ⟨_, rfl, ?_, H.base⟩
          rw [qY (fun h => by obtain ⟨h1, h2, h3, h4, h5, h6, h7, h8, h9, h10, h11⟩ := h; first | contradiction | omega | exact h3 ⟨‹_›, ‹_›⟩ | (obtain ⟨q1, q2, q3, q4, q5⟩ := h11 k (by omega); first | contradiction | omega | (have := q5 (by omega); omega)))]
         replace h70 := ne_of_beq_false h70
         refine qM (t_n (qi (qi (ql ?_))))
         refine sp (.int .i64 0) ?_
         refine qj (t_n (qW ?_))
         refine zf (fun m' ρ w71 => ∃ (junk : Env) (k : Nat), ρ = upd (upd (upd junk 0 (pp bs os)) 1 (pp br or)) 5 (.int .i64 k) ∧ (k ≤ r.qF.length) ∧ (IntosTo s r k) ∧ m' = r.qF.length - k ∧ St w w71 [] [atF bs os [.int .i64 s.qH, .slice qx s.qf.length qp, .slice qN s.qh.length qL], isF false xn (.slice qx s.qf.length qp) s.qf, isF false xG (.slice qN s.qh.length qL) s.qh, atF br or [.int .i64 r.qw, .int .i64 r.xN, .slice ja r.qO.length vU, .slice jd r.qX.length vX, .slice jb r.xe.length vV, .slice jc r.xm.length vW, .slice yK r.xZ.length yJ, .slice vz r.qF.length vw, .bool true], isF false Xl (.slice ja r.qO.length vU) r.qO, isF false Xo (.slice jd r.qX.length vX) r.qX, isF false Xm (.slice jb r.xe.length vV) r.xe, isF false Xn (.slice jc r.xm.length vW) r.xm, isF false FrOut (.slice yK r.xZ.length yJ) r.xZ, isF false FrInto (.slice vz r.qF.length vw) r.qF]) (r.qF.length - 0) ⟨_, 0, (by exact qg (qg (qg (rfl) rfl) rfl) rfl), (by omega), (by exact fun j hj => by omega), rfl, H⟩ ?_
         clear H
         rintro m' ρ w72 ⟨junk, k, rfl, i0, i1, rfl, H⟩
         refine qi (qi (ql ?_))
         refine sps [.int .i64 k, pp br or, pp br or] ?_
         refine oF rfl ?_
         refine oL rfl (H.xJ 3 rfl 7 rfl) ?_
         refine oN rfl ?_
         refine sp (.bool (decide ((k : Int) < r.qF.length))) ?_
         refine qj (t_n ?_)
         refine qC (decide ((k : Int) < r.qF.length)) rfl (fun h73 => ?_) (fun h73 => ?_)
         ·skip
          replace h73 := of_decide_eq_true h73
          refine qM (t_n (qi (qW (qi (ql ?_)))))
          refine sps [pp br or, pp br or] ?_
          refine oF rfl ?_
          refine oL rfl (H.xJ 3 rfl 7 rfl) ?_
          refine sp (.int .i64 k) ?_
          obtain ⟨b74, o75, rfl⟩ := H.addr 9 rfl (by omega)
          obtain ⟨ae76Bag, ce76Bag, Fe76Bag, H⟩ := H.jC 9 rfl k k (by omega) (by omega) (by omega)
          refine oI rfl rfl ?_
          refine sp (pp b74 (o75 + (k : Int).toNat * 2)) ?_
          refine qj (t_n (qi (qi ?_)))
          refine vZ rfl H fun H => ?_
          refine rtp 0 (pp b74 (o75 + (k : Int).toNat * 2)) H ?_
          refine rtp 1 (pp b74 (o75 + (k : Int).toNat * 2)) H ?_
          refine tF 2 rfl rfl H ?_
          refine tL 3 rfl rfl (fun _ h => h.xJ 1 rfl 0 rfl) H ?_
          refine rtp 4 (pp bs os) H ?_
          refine rtp 5 (pp bs os) H ?_
          refine tF 6 rfl rfl H ?_
          refine tL 7 rfl rfl (fun _ h => h.xJ 2 rfl 1 rfl) H ?_
          refine tN 8 rfl rfl H ?_
          refine rt 9 (.int .i64 (s.qf.length - 1)) (y_sub s.qf.length 1 rfl rfl (by omega)) H ?_
          refine qR [10] (by kernel_rfl) (by simp) (xA rfl ?_ qU)
          refine oc (l00In_ok w72.drew ((r.qF[k]!).qw) 0 (s.qf.length - 1)) ?_
          rintro _ w78 rfl x79
          replace H := H.ext x79
          refine ⟨H, ?_⟩
          refine rtp 11 (.bool (!(inR ((r.qF[k]!).qw) 0 (s.qf.length - 1)))) H ?_
          refine rtp 12 (.bool (!(inR ((r.qF[k]!).qw) 0 (s.qf.length - 1)))) H ?_
          cases h80 : (!(inR ((r.qF[k]!).qw) 0 (s.qf.length - 1)))
          ·skip
           replace h80 := qJ h80
           replace h80 := yV.1 h80
           refine rgp 13 (pp bs os) 126 H ?_
           refine rgp 14 (pp b74 (o75 + (k : Int).toNat * 2)) 126 H ?_
           refine rgp 15 (pp b74 (o75 + (k : Int).toNat * 2)) 126 H ?_
           refine gF 16 rfl rfl H ?_
           refine gL 17 rfl rfl (fun _ h => h.xJ 1 rfl 0 rfl) H ?_
           refine rgp 18 (pp br or) 126 H ?_
           refine rgp 19 (pp br or) 126 H ?_
           refine gF 20 rfl rfl H ?_
           refine gL 21 rfl rfl (fun _ h => h.xJ 5 rfl 0 rfl) H ?_
           refine qR [22] (by kernel_rfl) (by simp) (r_opG rfl (e := 126) rfl rfl ?_ qU)
           refine oc (l02In_ok _ s ((r.qF[k]!).qw) r.qw _ _ _ _ _ _ _ _ (qI (H.get 2 rfl) 0 3) (H.get 3 rfl).1 (H.get 4 rfl).1 (by assumption) (by assumption)) ?_
           rintro _ w81 rfl x82
           replace H := H.ext x82
           refine ⟨H, ?_⟩
           refine rgp 23 (.bool (!(dec (Lies s.qf r.qw ((r.qF[k]!).qw))))) 126 H ?_
           refine rtp 24 (.bool (!(dec (Lies s.qf r.qw ((r.qF[k]!).qw))))) H ?_
           refine rtp 25 (.bool (!(dec (Lies s.qf r.qw ((r.qF[k]!).qw))))) H ?_
           cases h83 : (!(dec (Lies s.qf r.qw ((r.qF[k]!).qw))))
           ·skip
            replace h83 := qJ h83
            replace h83 := vC h83
            refine rgp 26 (pp bs os) 139 H ?_
            refine rgp 27 (pp b74 (o75 + (k : Int).toNat * 2)) 139 H ?_
            refine rgp 28 (pp b74 (o75 + (k : Int).toNat * 2)) 139 H ?_
            refine gF 29 rfl rfl H ?_
            refine gL 30 rfl rfl (fun _ h => h.xJ 1 rfl 1 rfl) H ?_
            refine qR [31] (by kernel_rfl) (by simp) (r_opG rfl (e := 139) rfl rfl ?_ qU)
            refine oc (yB _ s ((r.qF[k]!).zZ) _ _ _ _ _ _ _ _ _ _ _ (qI (H.get 2 rfl) 0 3) (H.get 3 rfl).1 (H.get 4 rfl).1 (H.get 0 rfl).1) ?_
            rintro _ w84 rfl x85
            replace H := H.ext x85
            refine ⟨H, ?_⟩
            refine rgp 32 (.bool (!(dec (zg s.qH ((r.qF[k]!).zZ))))) 139 H ?_
            refine rtp 33 (.bool (!(dec (zg s.qH ((r.qF[k]!).zZ))))) H ?_
            refine rtp 34 (.bool (!(dec (zg s.qH ((r.qF[k]!).zZ))))) H ?_
            cases h86 : (!(dec (zg s.qH ((r.qF[k]!).zZ))))
            ·skip
             replace h86 := qJ h86
             replace h86 := vC h86
             refine rgp 35 (pp b74 (o75 + (k : Int).toNat * 2)) 148 H ?_
             refine rgp 36 (pp b74 (o75 + (k : Int).toNat * 2)) 148 H ?_
             refine gF 37 rfl rfl H ?_
             refine gL 38 rfl rfl (fun _ h => h.xJ 1 rfl 1 rfl) H ?_
             refine qR [39] (by kernel_rfl) (by simp) (r_opG rfl (e := 148) rfl rfl ?_ qU)
             refine oc (XC _ ((r.qF[k]!).zZ) _ _ _ (H.get 0 rfl).1 (by first | assumption | exact zo (by assumption) | exact jw (by assumption))) ?_
             rintro _ w87 rfl x88
             replace H := H.ext x88
             refine ⟨H, ?_⟩
             refine rgp 40 (.bool ((Qz ((r.qF[k]!).zZ) : Int) == 0)) 148 H ?_
             refine rtp 41 (.bool ((Qz ((r.qF[k]!).zZ) : Int) == 0)) H ?_
             refine xq (by kernel_rfl) (t_n ?_)
             refine qC ((Qz ((r.qF[k]!).zZ) : Int) == 0) rfl (fun h89 => ?_) (fun h89 => ?_)
             ·skip
              replace h89 := eq_of_beq h89
              refine qi (ql ?_)
              refine sp (.bool false) ?_
              refine qj (t_n (qV (t_r (b_r (t_r (t_r (b_r (t_r ?_))))))))
              refine ret1 (.bool false) rfl rfl ⟨_, rfl, ?_, H.base⟩
              rw [qY (fun h => by obtain ⟨h1, h2, h3, h4, h5, h6, h7, h8, h9, h10, h11⟩ := h; first | contradiction | omega | exact h3 ⟨‹_›, ‹_›⟩ | (obtain ⟨q1, q2, q3, q4, q5⟩ := h11 k (by omega); first | contradiction | omega | (have := q5 (by omega); omega)))]
             replace h89 := ne_of_beq_false h89
             refine qM (t_n (qi ?_))
             refine vZ rfl H fun H => ?_
             refine rtp 0 (.int .i64 k) H ?_
             refine rtp 1 (.bool (decide ((k : Int) > 0))) H ?_
             refine rtp 2 (.bool (decide ((k : Int) > 0))) H ?_
             cases h91 : (decide ((k : Int) > 0))
             ·skip
              replace h91 := of_decide_eq_false h91
              refine zi [3, 4, 5, 6, 7, 8, 9, 10, 11, 12, 13, 14, 15, 16] 14 (H) ?_
              refine rtp 17 (.bool false) H ?_
              refine xq (by kernel_rfl) (t_n ?_)
              refine qC false rfl (fun h => absurd h (by decide)) (fun _ => ?_)
              refine qM (b_n (t_n (ql ?_)))
              refine sp (.int .i64 k) ?_
              refine sw (zk k 1 rfl rfl (by omega) ?_)
              refine sp (.int .i64 (k + 1)) ?_
              refine qj ?_
              refine xk (m' := r.qF.length - (k + 1)) (by omega) ⟨_, k + 1, (by exact qg (qg (qg (rfl) rfl) rfl) rfl), ?_, ?_, rfl, H.sel _ (.refl _) _ (by simp)⟩
              · omega
              · exact i1.succ ⟨‹_›, ‹_›, ‹_›, ‹_›, fun hk => by omega⟩
             replace h91 := of_decide_eq_true h91
             refine rgp 3 (pp br or) 158 H ?_
             refine rgp 4 (pp br or) 158 H ?_
             refine gF 5 rfl rfl H ?_
             refine gL 6 rfl rfl (fun _ h => h.xJ 5 rfl 7 rfl) H ?_
             refine rgp 7 (.int .i64 k) 158 H ?_
             refine rg 8 (.int .i64 (k - 1)) 158 (y_sub k 1 rfl rfl (by omega)) H ?_
             obtain ⟨ae92Bag, ce92Bag, Fe92Bag, H⟩ := H.jC 11 rfl (k - 1) (k - 1) (by omega) (by omega) (by omega)
             refine gI 9 rfl rfl rfl (H.sel _ (.refl _) _ (fun _ h => List.mem_cons_of_mem _ (List.mem_cons_of_mem _ (h)))) ?_
             refine gF 10 rfl rfl (H.sel _ (.refl _) _ (fun _ h => List.mem_cons_of_mem _ (List.mem_cons_of_mem _ (h)))) ?_
             refine rgp 12 (pp b74 (o75 + (k : Int).toNat * 2)) 158 (H.sel _ (.refl _) _ (fun _ h => List.mem_cons_of_mem _ (List.mem_cons_of_mem _ (h)))) ?_
             refine rgp 13 (pp b74 (o75 + (k : Int).toNat * 2)) 158 (H.sel _ (.refl _) _ (fun _ h => List.mem_cons_of_mem _ (List.mem_cons_of_mem _ (h)))) ?_
             refine gF 14 rfl rfl (H.sel _ (.refl _) _ (fun _ h => List.mem_cons_of_mem _ (List.mem_cons_of_mem _ (h)))) ?_
             refine gL 15 rfl rfl (fun _ h => h.xJ 1 rfl 0 rfl) (H.sel _ (.refl _) _ (fun _ h => List.mem_cons_of_mem _ (List.mem_cons_of_mem _ (h)))) ?_
             refine qR [11] (by kernel_rfl) (by simp) (r_opG rfl (e := 158) rfl rfl ?_ qU)
             refine jU (.int .i64 ((r.qF[k - 1]!).qw)) Tryz.isAgg2 rfl (H.xJ 1 rfl 0 rfl) ?_
             refine ⟨H.sel _ (.refl _) _ (fun _ h => List.mem_cons_of_mem _ (List.mem_cons_of_mem _ (h))), ?_⟩
             refine rgp 16 (.bool (decide (((r.qF[k - 1]!).qw : Int) ≥ ((r.qF[k]!).qw)))) 158 (H.sel _ (.refl _) _ (fun _ h => List.mem_cons_of_mem _ (List.mem_cons_of_mem _ (h)))) ?_
             refine rtp 17 (.bool (decide (((r.qF[k - 1]!).qw : Int) ≥ ((r.qF[k]!).qw)))) (H.sel _ (.refl _) _ (fun _ h => List.mem_cons_of_mem _ (List.mem_cons_of_mem _ (h)))) ?_
             refine xq (by kernel_rfl) (t_n ?_)
             refine qC (decide (((r.qF[k - 1]!).qw : Int) ≥ ((r.qF[k]!).qw))) rfl (fun h93 => ?_) (fun h93 => ?_)
             ·skip
              replace h93 := of_decide_eq_true h93
              refine qi (ql ?_)
              refine sp (.bool false) ?_
              refine qj (t_n (qV (b_r (t_r (t_r (b_r (t_r ?_)))))))
              refine ret1 (.bool false) rfl rfl ⟨_, rfl, ?_, H.base⟩
              rw [qY (fun h => by obtain ⟨h1, h2, h3, h4, h5, h6, h7, h8, h9, h10, h11⟩ := h; first | contradiction | omega | exact h3 ⟨‹_›, ‹_›⟩ | (obtain ⟨q1, q2, q3, q4, q5⟩ := h11 k (by omega); first | contradiction | omega | (have := q5 (by omega); omega)))]
             replace h93 := of_decide_eq_false h93
             refine qM (b_n (t_n (ql ?_)))
             refine sp (.int .i64 k) ?_
             refine sw (zk k 1 rfl rfl (by omega) ?_)
             refine sp (.int .i64 (k + 1)) ?_
             refine qj ?_
             refine xk (m' := r.qF.length - (k + 1)) (by omega) ⟨_, k + 1, (by exact qg (qg (qg (rfl) rfl) rfl) rfl), ?_, ?_, rfl, H.sel _ (.refl _) _ (by simp)⟩
             · omega
             · exact i1.succ ⟨‹_›, ‹_›, ‹_›, ‹_›, fun hk => by omega⟩
            replace h86 := qP h86
            replace h86 := xI h86
            refine zi [35, 36, 37, 38, 39, 40] 6 (H) ?_
            refine rtp 41 (.bool true) H ?_
            refine xq (by kernel_rfl) (t_n ?_)
            refine qC true rfl (fun _ => ?_) (fun h => absurd h (by decide))
            refine qi (ql ?_)
            refine sp (.bool false) ?_
            refine qj (t_n (qV (t_r (b_r (t_r (t_r (b_r (t_r ?_))))))))
            refine ret1 (.bool false) rfl rfl ⟨_, rfl, ?_, H.base⟩
            rw [qY (fun h => by obtain ⟨h1, h2, h3, h4, h5, h6, h7, h8, h9, h10, h11⟩ := h; first | contradiction | omega | exact h3 ⟨‹_›, ‹_›⟩ | (obtain ⟨q1, q2, q3, q4, q5⟩ := h11 k (by omega); first | contradiction | omega | (have := q5 (by omega); omega)))]
           replace h83 := qP h83
           replace h83 := xI h83
           refine zi [26, 27, 28, 29, 30, 31, 32] 7 (H) ?_
           refine rtp 33 (.bool true) H ?_
           refine rtp 34 (.bool true) H ?_
           refine zi [35, 36, 37, 38, 39, 40] 6 (H) ?_
           refine rtp 41 (.bool true) H ?_
           refine xq (by kernel_rfl) (t_n ?_)
           refine qC true rfl (fun _ => ?_) (fun h => absurd h (by decide))
           refine qi (ql ?_)
           refine sp (.bool false) ?_
           refine qj (t_n (qV (t_r (b_r (t_r (t_r (b_r (t_r ?_))))))))
           refine ret1 (.bool false) rfl rfl ⟨_, rfl, ?_, H.base⟩
           rw [qY (fun h => by obtain ⟨h1, h2, h3, h4, h5, h6, h7, h8, h9, h10, h11⟩ := h; first | contradiction | omega | exact h3 ⟨‹_›, ‹_›⟩ | (obtain ⟨q1, q2, q3, q4, q5⟩ := h11 k (by omega); first | contradiction | omega | (have := q5 (by omega); omega)))]
          replace h80 := qP h80
          replace h80 := QP h80
          refine zi [13, 14, 15, 16, 17, 18, 19, 20, 21, 22, 23] 11 (H) ?_
          refine rtp 24 (.bool true) H ?_
          refine rtp 25 (.bool true) H ?_
          refine zi [26, 27, 28, 29, 30, 31, 32] 7 (H) ?_
          refine rtp 33 (.bool true) H ?_
          refine rtp 34 (.bool true) H ?_
          refine zi [35, 36, 37, 38, 39, 40] 6 (H) ?_
          refine rtp 41 (.bool true) H ?_
          refine xq (by kernel_rfl) (t_n ?_)
          refine qC true rfl (fun _ => ?_) (fun h => absurd h (by decide))
          refine qi (ql ?_)
          refine sp (.bool false) ?_
          refine qj (t_n (qV (t_r (b_r (t_r (t_r (b_r (t_r ?_))))))))
          refine ret1 (.bool false) rfl rfl ⟨_, rfl, ?_, H.base⟩
          rw [qY (fun h => by obtain ⟨h1, h2, h3, h4, h5, h6, h7, h8, h9, h10, h11⟩ := h; first | contradiction | omega | exact h3 ⟨‹_›, ‹_›⟩ | (obtain ⟨q1, q2, q3, q4, q5⟩ := h11 k (by omega); first | contradiction | omega | (have := q5 (by omega); omega)))]
         replace h73 := of_decide_eq_false h73
         refine xQ (t_x (t_x (b_x (t_n (qi (ql ?_))))))
         refine sp (.bool true) ?_
         refine qj (t_n (qV ?_))
         refine ret1 (.bool true) rfl rfl ⟨_, rfl, ?_, H.base⟩
         obtain rfl : k = r.qF.length := by omega
         rw [jE ⟨by assumption, by omega, by simp_all, by omega, by assumption, by assumption, by assumption, by assumption, by assumption, by assumption, i1⟩]
        replace h67 := qP h67
        replace h67 := xI h67
        refine xF [92, 93, 94, 95, 96, 97] ?_
        refine sp (.bool true) ?_
        refine qj (t_n ?_)
        refine qC true rfl (fun _ => ?_) (fun h => absurd h (by decide))
        refine qi (ql ?_)
        refine sp (.bool false) ?_
        refine qj (t_n (qV (t_r ?_)))
        refine ret1 (.bool false) rfl rfl ⟨_, rfl, ?_, H.base⟩
        rw [qY (fun h => by obtain ⟨h1, h2, h3, h4, h5, h6, h7, h8, h9, h10, h11⟩ := h; first | contradiction | omega | exact h3 ⟨‹_›, ‹_›⟩ | (obtain ⟨q1, q2, q3, q4, q5⟩ := h11 k (by omega); first | contradiction | omega | (have := q5 (by omega); omega)))]
       replace h64 := qP h64
       replace h64 := xI h64
       refine xF [83, 84, 85, 86, 87, 88, 89] ?_
       refine sps [.bool true, .bool true] ?_
       refine xF [92, 93, 94, 95, 96, 97] ?_
       refine sp (.bool true) ?_
       refine qj (t_n ?_)
       refine qC true rfl (fun _ => ?_) (fun h => absurd h (by decide))
       refine qi (ql ?_)
       refine sp (.bool false) ?_
       refine qj (t_n (qV (t_r ?_)))
       refine ret1 (.bool false) rfl rfl ⟨_, rfl, ?_, H.base⟩
       rw [qY (fun h => by obtain ⟨h1, h2, h3, h4, h5, h6, h7, h8, h9, h10, h11⟩ := h; first | contradiction | omega | exact h3 ⟨‹_›, ‹_›⟩ | (obtain ⟨q1, q2, q3, q4, q5⟩ := h11 k (by omega); first | contradiction | omega | (have := q5 (by omega); omega)))]
      replace h61 := qP h61
      replace h61 := xI h61
      refine xF [74, 75, 76, 77, 78, 79, 80] ?_
      refine sps [.bool true, .bool true] ?_
      refine xF [83, 84, 85, 86, 87, 88, 89] ?_
      refine sps [.bool true, .bool true] ?_
      refine xF [92, 93, 94, 95, 96, 97] ?_
      refine sp (.bool true) ?_
      refine qj (t_n ?_)
      refine qC true rfl (fun _ => ?_) (fun h => absurd h (by decide))
      refine qi (ql ?_)
      refine sp (.bool false) ?_
      refine qj (t_n (qV (t_r ?_)))
      refine ret1 (.bool false) rfl rfl ⟨_, rfl, ?_, H.base⟩
      rw [qY (fun h => by obtain ⟨h1, h2, h3, h4, h5, h6, h7, h8, h9, h10, h11⟩ := h; first | contradiction | omega | exact h3 ⟨‹_›, ‹_›⟩ | (obtain ⟨q1, q2, q3, q4, q5⟩ := h11 k (by omega); first | contradiction | omega | (have := q5 (by omega); omega)))]
     replace h58 := qP h58
     replace h58 := xI h58
     refine xF [65, 66, 67, 68, 69, 70, 71] ?_
     refine sps [.bool true, .bool true] ?_
     refine xF [74, 75, 76, 77, 78, 79, 80] ?_
     refine sps [.bool true, .bool true] ?_
     refine xF [83, 84, 85, 86, 87, 88, 89] ?_
     refine sps [.bool true, .bool true] ?_
     refine xF [92, 93, 94, 95, 96, 97] ?_
     refine sp (.bool true) ?_
     refine qj (t_n ?_)
     refine qC true rfl (fun _ => ?_) (fun h => absurd h (by decide))
     refine qi (ql ?_)
     refine sp (.bool false) ?_
     refine qj (t_n (qV (t_r ?_)))
     refine ret1 (.bool false) rfl rfl ⟨_, rfl, ?_, H.base⟩
     rw [qY (fun h => by obtain ⟨h1, h2, h3, h4, h5, h6, h7, h8, h9, h10, h11⟩ := h; first | contradiction | omega | exact h3 ⟨‹_›, ‹_›⟩ | (obtain ⟨q1, q2, q3, q4, q5⟩ := h11 k (by omega); first | contradiction | omega | (have := q5 (by omega); omega)))]
    replace h55 := qP h55
    replace h55 := xI h55
    refine xF [56, 57, 58, 59, 60, 61, 62] ?_
    refine sps [.bool true, .bool true] ?_
    refine xF [65, 66, 67, 68, 69, 70, 71] ?_
    refine sps [.bool true, .bool true] ?_
    refine xF [74, 75, 76, 77, 78, 79, 80] ?_
    refine sps [.bool true, .bool true] ?_
    refine xF [83, 84, 85, 86, 87, 88, 89] ?_
    refine sps [.bool true, .bool true] ?_
    refine xF [92, 93, 94, 95, 96, 97] ?_
    refine sp (.bool true) ?_
    refine qj (t_n ?_)
    refine qC true rfl (fun _ => ?_) (fun h => absurd h (by decide))
    refine qi (ql ?_)
    refine sp (.bool false) ?_
    refine qj (t_n (qV (t_r ?_)))
    refine ret1 (.bool false) rfl rfl ⟨_, rfl, ?_, H.base⟩
    rw [qY (fun h => by obtain ⟨h1, h2, h3, h4, h5, h6, h7, h8, h9, h10, h11⟩ := h; first | contradiction | omega | exact h3 ⟨‹_›, ‹_›⟩ | (obtain ⟨q1, q2, q3, q4, q5⟩ := h11 k (by omega); first | contradiction | omega | (have := q5 (by omega); omega)))]
   replace h51 := eq_of_beq h51
   refine zi [34, 35, 36, 37, 38, 39] 6 (H) ?_
   refine rtp 40 (.bool true) H ?_
   refine xq (by kernel_rfl) (t_n ?_)
   refine qC true rfl (fun _ => ?_) (fun h => absurd h (by decide))
   refine qi (ql ?_)
   refine sp (.bool false) ?_
   refine qj (t_n (qV (t_r ?_)))
   refine ret1 (.bool false) rfl rfl ⟨_, rfl, ?_, H.base⟩
   rw [qY (fun h => by obtain ⟨h1, h2, h3, h4, h5, h6, h7, h8, h9, h10, h11⟩ := h; first | contradiction | omega | exact h3 ⟨‹_›, ‹_›⟩ | (obtain ⟨q1, q2, q3, q4, q5⟩ := h11 k (by omega); first | contradiction | omega | (have := q5 (by omega); omega)))]
  replace h7 := qP h7
  replace h7 := QP h7
  refine zi [21, 22, 23, 24, 25, 26, 27, 28, 29, 30, 31] 11 (H) ?_
  refine rtp 32 (.bool true) H ?_
  refine rtp 33 (.bool true) H ?_
  refine zi [34, 35, 36, 37, 38, 39] 6 (H) ?_
  refine rtp 40 (.bool true) H ?_
  refine xq (by kernel_rfl) (t_n ?_)
  refine qC true rfl (fun _ => ?_) (fun h => absurd h (by decide))
  refine qi (ql ?_)
  refine sp (.bool false) ?_
  refine qj (t_n (qV (t_r ?_)))
  refine ret1 (.bool false) rfl rfl ⟨_, rfl, ?_, H.base⟩
  rw [qY (fun h => by obtain ⟨h1, h2, h3, h4, h5, h6, h7, h8, h9, h10, h11⟩ := h; first | contradiction | omega | exact h3 ⟨‹_›, ‹_›⟩ | (obtain ⟨q1, q2, q3, q4, q5⟩ := h11 k (by omega); first | contradiction | omega | (have := q5 (by omega); omega)))]
 replace h4 := qP h4
 replace h4 := QP h4
 refine zi [13, 14, 15, 16, 17, 18] 6 (H) ?_
 refine rtp 19 (.bool true) H ?_
 refine rtp 20 (.bool true) H ?_
 refine zi [21, 22, 23, 24, 25, 26, 27, 28, 29, 30, 31] 11 (H) ?_
 refine rtp 32 (.bool true) H ?_
 refine rtp 33 (.bool true) H ?_
 refine zi [34, 35, 36, 37, 38, 39] 6 (H) ?_
 refine rtp 40 (.bool true) H ?_
 refine xq (by kernel_rfl) (t_n ?_)
 refine qC true rfl (fun _ => ?_) (fun h => absurd h (by decide))
 refine qi (ql ?_)
 refine sp (.bool false) ?_
 refine qj (t_n (qV (t_r ?_)))
 refine ret1 (.bool false) rfl rfl ⟨_, rfl, ?_, H.base⟩
 rw [qY (fun h => by obtain ⟨h1, h2, h3, h4, h5, h6, h7, h8, h9, h10, h11⟩ := h; first | contradiction | omega | exact h3 ⟨‹_›, ‹_›⟩ | (obtain ⟨q1, q2, q3, q4, q5⟩ := h11 k (by omega); first | contradiction | omega | (have := q5 (by omega); omega)))]

theorem l02State_ok (w : World) (s : qK) (t : xu) (bs os : Nat) (qx : Option Addr) (qp : Nat) (xn : List Nat) (qN : Option Addr) (qL : Nat) (xG : List Nat) (bt ot : Nat) (xB : Option Addr) (xx : Nat) (zy : List Nat) (xK : Option Addr) (xH : Nat) (zX : List Nat) (xg : Option Addr) (xf : Nat) (xW : List Nat) (hs : zT w bs os [.int .i64 s.qH, .slice qx s.qf.length qp, .slice qN s.qh.length qL]) (xh : qE.rep w xn [.slice qx s.qf.length qp] s.qf) (xE : qE.rep w xG [.slice qN s.qh.length qL] s.qh) (ht : zT w bt ot [.slice xB t.qo.length xx, .slice xK t.qy.length xH, .slice xg t.qm.length xf]) (zu : qE.rep w zy [.slice xB t.qo.length xx] t.qo) (zV : qE.rep w zX [.slice xK t.qy.length xH] t.qy) (xU : qE.rep w xW [.slice xg t.qm.length xf] t.qm) (p0 : yt s) : Calls Tryz.prog 87 #[pp bs os, pp bt ot] w (Ret (fun v w' => v = .bool (dec (zS s t))) w) := by
 refine en Tryz.func87 Tryz.ntmps87 ?_
 have H := (((((((St.start w).arg xU).arg zV).arg zu).argAt ht).arg xE).arg xh).argAt hs
 have zU := qA xh
 have jD := qA xE
 have Xr := qA zu
 have nhtBags := qA zV
 have QA := qA xU
 clear hs xh xE ht zu zV xU
 have p1 := p0.2.1
 refine qi (ql ?_)
 refine sp (.bool false) ?_
 refine qj (t_n (qi (qi ?_)))
 refine vZ rfl H fun H => ?_
 refine rtp 0 (pp bt ot) H ?_
 refine rtp 1 (pp bt ot) H ?_
 refine tF 2 rfl rfl H ?_
 refine tL 3 rfl rfl (fun _ h => h.xJ 3 rfl 0 rfl) H ?_
 refine tN 4 rfl rfl H ?_
 refine rtp 5 (pp bs os) H ?_
 refine rtp 6 (pp bs os) H ?_
 refine tF 7 rfl rfl H ?_
 refine tL 8 rfl rfl (fun _ h => h.xJ 0 rfl 1 rfl) H ?_
 refine tN 9 rfl rfl H ?_
 refine rtp 10 (.bool ((t.qo.length : Int) != s.qf.length)) H ?_
 refine rtp 11 (.bool ((t.qo.length : Int) != s.qf.length)) H ?_
 cases h2 : ((t.qo.length : Int) != s.qf.length)
 ·skip
  replace h2 := xw h2
  refine rgp 12 (pp bt ot) 17 H ?_
  refine rgp 13 (pp bt ot) 17 H ?_
  refine gF 14 rfl rfl H ?_
  refine gL 15 rfl rfl (fun _ h => h.xJ 3 rfl 1 rfl) H ?_
  refine gN 16 rfl rfl H ?_
  refine rgp 17 (pp bs os) 17 H ?_
  refine rgp 18 (pp bs os) 17 H ?_
  refine gF 19 rfl rfl H ?_
  refine gL 20 rfl rfl (fun _ h => h.xJ 0 rfl 1 rfl) H ?_
  refine gN 21 rfl rfl H ?_
  refine rgp 22 (.bool ((t.qy.length : Int) != s.qf.length)) 17 H ?_
  refine rtp 23 (.bool ((t.qy.length : Int) != s.qf.length)) H ?_
  refine rtp 24 (.bool ((t.qy.length : Int) != s.qf.length)) H ?_
  cases h3 : ((t.qy.length : Int) != s.qf.length)
  ·skip
   replace h3 := xw h3
   refine rgp 25 (pp bt ot) 30 H ?_
   refine rgp 26 (pp bt ot) 30 H ?_
   refine gF 27 rfl rfl H ?_
   refine gL 28 rfl rfl (fun _ h => h.xJ 3 rfl 0 rfl) H ?_
   obtain ⟨b4, o5, rfl⟩ := H.addr 4 rfl (by omega)
   refine gI 29 rfl rfl rfl H ?_
   refine gL 30 rfl rfl (fun _ h => h.QG 4 rfl 0 (by omega) (by omega)) H ?_
   refine rgp 31 (.bool (!(t.qo[0]!))) 30 H ?_
   refine rtp 32 (.bool (!(t.qo[0]!))) H ?_
   refine rtp 33 (.bool (!(t.qo[0]!))) H ?_
   cases h6 : (!(t.qo[0]!))
   ·skip
    replace h6 := qJ h6
    refine rgp 34 (pp bs os) 39 H ?_
    refine rgp 35 (pp bt ot) 39 H ?_
    refine rgp 36 (pp bt ot) 39 H ?_
    refine gF 37 rfl rfl H ?_
    refine gL 38 rfl rfl (fun _ h => h.xJ 3 rfl 2 rfl) H ?_
    refine qR [39] (by kernel_rfl) (by simp) (r_opG rfl (e := 39) rfl rfl ?_ qU)
    refine oc (yB _ s t.qm _ _ _ _ _ _ _ _ _ _ _ (qI (H.get 0 rfl) 0 3) (H.get 1 rfl).1 (H.get 2 rfl).1 (H.get 6 rfl).1) ?_
    rintro _ w7 rfl x8
    replace H := H.ext x8
    refine ⟨H, ?_⟩
    refine rgp 40 (.bool (!(dec (zg s.qH t.qm)))) 39 H ?_
    refine rtp 41 (.bool (!(dec (zg s.qH t.qm)))) H ?_
    refine xq (by kernel_rfl) (t_n ?_)
    refine qC (!(dec (zg s.qH t.qm))) rfl (fun h9 => ?_) (fun h9 => ?_)
    ·skip
     replace h9 := qP h9
     replace h9 := xI h9
     refine qi (ql ?_)
     refine sp (.bool false) ?_
     refine qj (t_n (qV (t_r ?_)))
     refine ret1 (.bool false) rfl rfl ⟨_, rfl, ?_, H.base⟩
     rw [qY (fun h => by obtain ⟨h1, h2, h3, h4, h5⟩ := h; first | contradiction | omega | (simp_all; done) | (obtain ⟨q1, q2⟩ := h5 k (by omega); first | contradiction | (have := q2 (by assumption); omega)))]
    replace h9 := qJ h9
    replace h9 := vC h9
    refine qM (t_n (qi (qi (ql ?_))))
    refine sp (.int .i64 0) ?_
    refine qj (t_n (qW ?_))
    refine zf (fun m' ρ w10 => ∃ (junk : Env) (k : Nat), ρ = upd (upd (upd junk 0 (pp bs os)) 1 (pp bt ot)) 5 (.int .i64 k) ∧ (k ≤ t.qy.length) ∧ (BagsTo s t k) ∧ m' = t.qy.length - k ∧ St w w10 [] [atF bs os [.int .i64 s.qH, .slice qx s.qf.length qp, .slice qN s.qh.length qL], isF false xn (.slice qx s.qf.length qp) s.qf, isF false xG (.slice qN s.qh.length qL) s.qh, atF bt ot [.slice (aa b4 o5) t.qo.length xx, .slice xK t.qy.length xH, .slice xg t.qm.length xf], isF false zy (.slice (aa b4 o5) t.qo.length xx) t.qo, isF false zX (.slice xK t.qy.length xH) t.qy, isF false xW (.slice xg t.qm.length xf) t.qm]) (t.qy.length - 0) ⟨_, 0, (by exact qg (qg (qg (rfl) rfl) rfl) rfl), (by omega), (by exact fun j hj => by omega), rfl, H⟩ ?_
    clear H
    rintro m' ρ w11 ⟨junk, k, rfl, i0, i1, rfl, H⟩
    refine qi (qi (ql ?_))
    refine sps [.int .i64 k, pp bt ot, pp bt ot] ?_
    refine oF rfl ?_
    refine oL rfl (H.xJ 3 rfl 1 rfl) ?_
    refine oN rfl ?_
    refine sp (.bool (decide ((k : Int) < t.qy.length))) ?_
    refine qj (t_n ?_)
    refine qC (decide ((k : Int) < t.qy.length)) rfl (fun h12 => ?_) (fun h12 => ?_)
    ·skip
     replace h12 := of_decide_eq_true h12
     refine qM (t_n (qi (qW (qi (ql ?_)))))
     refine sps [pp bs os, pp bt ot, pp bt ot] ?_
     refine oF rfl ?_
     refine oL rfl (H.xJ 3 rfl 1 rfl) ?_
     refine sp (.int .i64 k) ?_
     obtain ⟨b13, o14, rfl⟩ := H.addr 5 rfl (by omega)
     obtain ⟨ae15, ce15, Fe15, H⟩ := H.jo 5 rfl k k (by omega) (by omega) (by omega)
     refine oI rfl rfl ?_
     refine oL rfl (H.xJ 1 rfl 0 rfl) ?_
     refine sw (oc (yB _ s (t.qy[k]!) _ _ _ _ _ _ _ _ _ _ _ (qI (H.get 2 rfl) 0 3) (H.get 3 rfl).1 (H.get 4 rfl).1 (H.get 0 rfl).1) ?_)
     rintro _ w16 rfl x17
     replace H := H.ext x17
     refine sps [.bool (!(dec (zg s.qH (t.qy[k]!)))), .bool (!(dec (zg s.qH (t.qy[k]!))))] ?_
     cases h18 : (!(dec (zg s.qH (t.qy[k]!))))
     ·skip
      replace h18 := qJ h18
      replace h18 := vC h18
      refine qB 67 rfl rfl ?_
      refine sp (pp bt ot) ?_
      refine qB 67 rfl rfl ?_
      refine sp (pp bt ot) ?_
      refine qB 67 rfl rfl ?_
      refine oF rfl ?_
      refine qB 67 rfl rfl ?_
      refine oL rfl (H.xJ 5 rfl 0 rfl) ?_
      refine qB 67 rfl rfl ?_
      refine sp (.int .i64 k) ?_
      refine qB 67 rfl rfl ?_
      refine oI rfl rfl ?_
      refine qB 67 rfl rfl ?_
      refine oL rfl (H.QG 6 rfl k (by omega) (by omega)) ?_
      refine qB 67 rfl rfl ?_
      refine sp (.bool (!(t.qo[k]!))) ?_
      refine qB 67 rfl rfl ?_
      refine sp (.bool (!(t.qo[k]!))) ?_
      cases h19 : (!(t.qo[k]!))
      ·skip
       replace h19 := qJ h19
       refine xF [77, 78, 79, 80, 81, 82, 83, 84, 85] ?_
       refine qB 67 rfl rfl ?_
       refine sps [.bool false, .bool false] ?_
       refine qj (t_n ?_)
       refine qC false rfl (fun h => absurd h (by decide)) (fun _ => ?_)
       refine qM (b_n (t_n (ql ?_)))
       refine sp (.int .i64 k) ?_
       refine sw (zk k 1 rfl rfl (by omega) ?_)
       refine sp (.int .i64 (k + 1)) ?_
       refine qj ?_
       refine xk (m' := t.qy.length - (k + 1)) (by omega) ⟨_, k + 1, (by exact qg (qg (qg (rfl) rfl) rfl) rfl), ?_, ?_, rfl, H.sel _ (.refl _) _ (by simp)⟩
       · omega
       · exact i1.succ ‹_› (fun hk => by first | omega | simp_all)
      replace h19 := qP h19
      refine qB 76 rfl rfl ?_
      refine sp (pp bt ot) ?_
      refine qB 76 rfl rfl ?_
      refine sp (pp bt ot) ?_
      refine qB 76 rfl rfl ?_
      refine oF rfl ?_
      refine qB 76 rfl rfl ?_
      refine oL rfl (H.xJ 5 rfl 1 rfl) ?_
      refine qB 76 rfl rfl ?_
      refine sp (.int .i64 k) ?_
      refine qB 76 rfl rfl ?_
      refine oI rfl rfl ?_
      refine qB 76 rfl rfl ?_
      refine oL rfl (H.xJ 1 rfl 0 rfl) ?_
      refine qB 76 rfl rfl ?_
      refine sw (oc (XC _ (t.qy[k]!) _ _ _ (H.get 0 rfl).1 (by first | assumption | exact zo (by assumption) | exact jw (by assumption))) ?_)
      rintro _ w20 rfl x21
      replace H := H.ext x21
      refine qB 76 rfl rfl ?_
      refine sp (.bool (decide ((Qz (t.qy[k]!) : Int) > 0))) ?_
      refine qB 67 rfl rfl ?_
      refine sps [.bool (decide ((Qz (t.qy[k]!) : Int) > 0)), .bool (decide ((Qz (t.qy[k]!) : Int) > 0))] ?_
      refine qj (t_n ?_)
      refine qC (decide ((Qz (t.qy[k]!) : Int) > 0)) rfl (fun h22 => ?_) (fun h22 => ?_)
      ·skip
       replace h22 := of_decide_eq_true h22
       refine qi (ql ?_)
       refine sp (.bool false) ?_
       refine qj (t_n (qV (b_r (t_r (t_r (b_r (t_r ?_)))))))
       refine ret1 (.bool false) rfl rfl ⟨_, rfl, ?_, H.base⟩
       rw [qY (fun h => by obtain ⟨h1, h2, h3, h4, h5⟩ := h; first | contradiction | omega | (simp_all; done) | (obtain ⟨q1, q2⟩ := h5 k (by omega); first | contradiction | (have := q2 (by assumption); omega)))]
      replace h22 := of_decide_eq_false h22
      refine qM (b_n (t_n (ql ?_)))
      refine sp (.int .i64 k) ?_
      refine sw (zk k 1 rfl rfl (by omega) ?_)
      refine sp (.int .i64 (k + 1)) ?_
      refine qj ?_
      refine xk (m' := t.qy.length - (k + 1)) (by omega) ⟨_, k + 1, (by exact qg (qg (qg (rfl) rfl) rfl) rfl), ?_, ?_, rfl, H.sel _ (.refl _) _ (by simp)⟩
      · omega
      · exact i1.succ ‹_› (fun hk => by first | omega | simp_all)
     replace h18 := qP h18
     replace h18 := xI h18
     refine xF [68, 69, 70, 71, 72, 73, 74, 75, 76, 77, 78, 79, 80, 81, 82, 83, 84, 85, 86] ?_
     refine sp (.bool true) ?_
     refine qj (t_n ?_)
     refine qC true rfl (fun _ => ?_) (fun h => absurd h (by decide))
     refine qi (ql ?_)
     refine sp (.bool false) ?_
     refine qj (t_n (qV (b_r (t_r (t_r (b_r (t_r ?_)))))))
     refine ret1 (.bool false) rfl rfl ⟨_, rfl, ?_, H.base⟩
     rw [qY (fun h => by obtain ⟨h1, h2, h3, h4, h5⟩ := h; first | contradiction | omega | (simp_all; done) | (obtain ⟨q1, q2⟩ := h5 k (by omega); first | contradiction | (have := q2 (by assumption); omega)))]
    replace h12 := of_decide_eq_false h12
    refine xQ (t_x (t_x (b_x (t_n (qi (ql ?_))))))
    refine sp (.bool true) ?_
    refine qj (t_n (qV ?_))
    refine ret1 (.bool true) rfl rfl ⟨_, rfl, ?_, H.base⟩
    obtain rfl : k = t.qy.length := by omega
    rw [jE ⟨by omega, by omega, by first | assumption | simp_all, by assumption, i1⟩]
   replace h6 := qP h6
   refine zi [34, 35, 36, 37, 38, 39, 40] 7 (H) ?_
   refine rtp 41 (.bool true) H ?_
   refine xq (by kernel_rfl) (t_n ?_)
   refine qC true rfl (fun _ => ?_) (fun h => absurd h (by decide))
   refine qi (ql ?_)
   refine sp (.bool false) ?_
   refine qj (t_n (qV (t_r ?_)))
   refine ret1 (.bool false) rfl rfl ⟨_, rfl, ?_, H.base⟩
   rw [qY (fun h => by obtain ⟨h1, h2, h3, h4, h5⟩ := h; first | contradiction | omega | (simp_all; done) | (obtain ⟨q1, q2⟩ := h5 k (by omega); first | contradiction | (have := q2 (by assumption); omega)))]
  replace h3 := bne_iff_ne.1 h3
  refine zi [25, 26, 27, 28, 29, 30, 31] 7 (H) ?_
  refine rtp 32 (.bool true) H ?_
  refine rtp 33 (.bool true) H ?_
  refine zi [34, 35, 36, 37, 38, 39, 40] 7 (H) ?_
  refine rtp 41 (.bool true) H ?_
  refine xq (by kernel_rfl) (t_n ?_)
  refine qC true rfl (fun _ => ?_) (fun h => absurd h (by decide))
  refine qi (ql ?_)
  refine sp (.bool false) ?_
  refine qj (t_n (qV (t_r ?_)))
  refine ret1 (.bool false) rfl rfl ⟨_, rfl, ?_, H.base⟩
  rw [qY (fun h => by obtain ⟨h1, h2, h3, h4, h5⟩ := h; first | contradiction | omega | (simp_all; done) | (obtain ⟨q1, q2⟩ := h5 k (by omega); first | contradiction | (have := q2 (by assumption); omega)))]
 replace h2 := bne_iff_ne.1 h2
 refine zi [12, 13, 14, 15, 16, 17, 18, 19, 20, 21, 22] 11 (H) ?_
 refine rtp 23 (.bool true) H ?_
 refine rtp 24 (.bool true) H ?_
 refine zi [25, 26, 27, 28, 29, 30, 31] 7 (H) ?_
 refine rtp 32 (.bool true) H ?_
 refine rtp 33 (.bool true) H ?_
 refine zi [34, 35, 36, 37, 38, 39, 40] 7 (H) ?_
 refine rtp 41 (.bool true) H ?_
 refine xq (by kernel_rfl) (t_n ?_)
 refine qC true rfl (fun _ => ?_) (fun h => absurd h (by decide))
 refine qi (ql ?_)
 refine sp (.bool false) ?_
 refine qj (t_n (qV (t_r ?_)))
 refine ret1 (.bool false) rfl rfl ⟨_, rfl, ?_, H.base⟩
 rw [qY (fun h => by obtain ⟨h1, h2, h3, h4, h5⟩ := h; first | contradiction | omega | (simp_all; done) | (obtain ⟨q1, q2⟩ := h5 k (by omega); first | contradiction | (have := q2 (by assumption); omega)))]

theorem l02Parent_ok (w : World) (s : qK) (t : xu) (c : Int) (bs os : Nat) (qx : Option Addr) (qp : Nat) (xn : List Nat) (qN : Option Addr) (qL : Nat) (xG : List Nat) (bt ot : Nat) (xB : Option Addr) (xx : Nat) (zy : List Nat) (xK : Option Addr) (xH : Nat) (zX : List Nat) (xg : Option Addr) (xf : Nat) (xW : List Nat) (hs : zT w bs os [.int .i64 s.qH, .slice qx s.qf.length qp, .slice qN s.qh.length qL]) (xh : qE.rep w xn [.slice qx s.qf.length qp] s.qf) (xE : qE.rep w xG [.slice qN s.qh.length qL] s.qh) (ht : zT w bt ot [.slice xB t.qo.length xx, .slice xK t.qy.length xH, .slice xg t.qm.length xf]) (zu : qE.rep w zy [.slice xB t.qo.length xx] t.qo) (zV : qE.rep w zX [.slice xK t.qy.length xH] t.qy) (xU : qE.rep w xW [.slice xg t.qm.length xf] t.qm) (p0 : yt s) (p1 : CellIn s c) (p2 : t.qo.length = s.qf.length) : Calls Tryz.prog 182 #[pp bs os, pp bt ot, .int .i64 c] w (Ret (fun v w' => v = .int .i64 (vI s t c)) w) := by
 refine en Tryz.func182 Tryz.ntmps182 ?_
 have H := (((((((St.start w).arg xU).arg zV).arg zu).argAt ht).arg xE).arg xh).argAt hs
 have zU := qA xh
 have jD := qA xE
 have Xr := qA zu
 have nhtBags := qA zV
 have QA := qA xU
 clear hs xh xE ht zu zV xU
 have p3 := p0.step p1.1 p1.2
 refine qi (ql ?_)
 refine sp (.int .i64 0) ?_
 refine qj (t_n (qi (ql ?_)))
 refine sps [pp bs os, pp bs os] ?_
 refine oF rfl ?_
 refine oL rfl (H.xJ 0 rfl 1 rfl) ?_
 refine sp (.int .i64 c) ?_
 obtain ⟨b1, o2, rfl⟩ := H.addr 1 rfl (by omega)
 refine oI rfl rfl ?_
 refine oL rfl (H.vT 1 rfl c (by omega) (by omega)) ?_
 refine sp (.int .i64 (s.qf[c.toNat]!)) ?_
 refine qj (t_n (qi (qW ?_)))
 refine zf (fun m' ρ w3 => ∃ (junk : Env) (y : Int) (n : Nat), ρ = upd (upd (upd (upd junk 0 (pp bs os)) 1 (pp bt ot)) 6 (.int .i64 0)) 7 (.int .i64 y) ∧ (-1 ≤ y ∧ y ≤ (s.qf.length : Int) - 1) ∧ (y < n) ∧ (vI s t c = climb s.qf t.qo n y) ∧ m' = (y + 1).toNat ∧ St w w3 [] [atF bs os [.int .i64 s.qH, .slice (aa b1 o2) s.qf.length qp, .slice qN s.qh.length qL], isF false xn (.slice (aa b1 o2) s.qf.length qp) s.qf, isF false xG (.slice qN s.qh.length qL) s.qh, atF bt ot [.slice xB t.qo.length xx, .slice xK t.qy.length xH, .slice xg t.qm.length xf], isF false zy (.slice xB t.qo.length xx) t.qo, isF false zX (.slice xK t.qy.length xH) t.qy, isF false xW (.slice xg t.qm.length xf) t.qm]) (((s.qf[c.toNat]!) + 1).toNat) ⟨_, s.qf[c.toNat]!, s.qf.length, (by exact qg (qg (qg (qg (rfl) rfl) rfl) rfl) rfl), (by omega), (by omega), (by rfl), rfl, H⟩ ?_
 clear H
 rintro m' ρ w4 ⟨junk, y, n, rfl, i0, i1, i2, rfl, H⟩
 have up := fun h => p0.step (c := y) h i0.2
 refine qi (qi (ql ?_))
 refine sps [.int .i64 y, .bool (decide ((y : Int) ≥ 0)), .bool (decide ((y : Int) ≥ 0))] ?_
 cases h5 : (decide ((y : Int) ≥ 0))
 ·skip
  replace h5 := of_decide_eq_false h5
  refine xF [18, 19, 20, 21, 22, 23, 24, 25] ?_
  refine sp (.bool false) ?_
  refine qj (t_n ?_)
  refine qC false rfl (fun h => absurd h (by decide)) (fun _ => ?_)
  refine xQ (t_x (t_x (b_x (t_n (qi (ql ?_))))))
  refine sps [.int .i64 y, .int .i64 y] ?_
  refine qj (t_n (qV ?_))
  refine ret1 (.int .i64 y) rfl rfl ⟨_, rfl, ?_, H.base⟩
  rw [i2, climb_end (by first | omega | simp_all)]
 replace h5 := of_decide_eq_true h5
 refine qB 17 rfl rfl ?_
 refine sp (pp bt ot) ?_
 refine qB 17 rfl rfl ?_
 refine sp (pp bt ot) ?_
 refine qB 17 rfl rfl ?_
 refine oF rfl ?_
 refine qB 17 rfl rfl ?_
 refine oL rfl (H.xJ 3 rfl 0 rfl) ?_
 refine qB 17 rfl rfl ?_
 refine sp (.int .i64 y) ?_
 refine qB 17 rfl rfl ?_
 obtain ⟨b6, o7, rfl⟩ := H.addr 4 rfl (by omega)
 refine oI rfl rfl ?_
 refine qB 17 rfl rfl ?_
 refine oL rfl (H.QG 4 rfl y (by omega) (by omega)) ?_
 refine qB 17 rfl rfl ?_
 refine sps [.bool (!(t.qo[y.toNat]!)), .bool (!(t.qo[y.toNat]!))] ?_
 refine qj (t_n ?_)
 refine qC (!(t.qo[y.toNat]!)) rfl (fun h8 => ?_) (fun h8 => ?_)
 ·skip
  replace h8 := qP h8
  refine qM (t_n (qW (ql ?_)))
  refine sps [pp bs os, pp bs os] ?_
  refine oF rfl ?_
  refine oL rfl (H.xJ 0 rfl 1 rfl) ?_
  refine sp (.int .i64 y) ?_
  refine oI rfl rfl ?_
  refine oL rfl (H.vT 1 rfl y (by omega) (by omega)) ?_
  refine sp (.int .i64 (s.qf[y.toNat]!)) ?_
  refine qj (b_n ?_)
  have up1 := up (by omega)
  refine xk (m' := ((s.qf[y.toNat]!) + 1).toNat) (by omega) ⟨_, (s.qf[y.toNat]!), n - 1, (by exact qg (qg (qg (qg (rfl) rfl) rfl) rfl) rfl), ?_, ?_, ?_, rfl, H⟩
  · omega
  · omega
  · exact i2.trans (climb_go (by omega) (by omega) ‹_›)
 replace h8 := qJ h8
 refine xQ (t_x (t_x (b_x (t_n (qi (ql ?_))))))
 refine sps [.int .i64 y, .int .i64 y] ?_
 refine qj (t_n (qV ?_))
 refine ret1 (.int .i64 y) rfl rfl ⟨_, rfl, ?_, H.base⟩
 rw [i2, climb_end (by first | omega | simp_all)]

theorem l02Ok_ok (w : World) (s : qK) (bs os : Nat) (qx : Option Addr) (qp : Nat) (xn : List Nat) (qN : Option Addr) (qL : Nat) (xG : List Nat) (hs : zT w bs os [.int .i64 s.qH, .slice qx s.qf.length qp, .slice qN s.qh.length qL]) (xh : qE.rep w xn [.slice qx s.qf.length qp] s.qf) (xE : qE.rep w xG [.slice qN s.qh.length qL] s.qh) : Calls Tryz.prog 98 #[pp bs os] w (Ret (fun v w' => v = .bool (dec (yw s))) w) := by
 refine en Tryz.func98 Tryz.ntmps98 ?_
 have H := (((St.start w).arg xE).arg xh).argAt hs
 have zU := qA xh
 have jD := qA xE
 clear hs xh xE
 have p1 := fun h : yt s => h.2.1
 refine qi (ql ?_)
 refine sp (.bool false) ?_
 refine qj (t_n (qi (qi (ql ?_))))
 refine sp (pp bs os) ?_
 refine sw (oc (l02Frame_ok _ s _ _ _ _ _ _ _ _ (qI (H.get 0 rfl) 0 3) (H.get 1 rfl).1 (H.get 2 rfl).1) ?_)
 rintro _ w1 rfl x2
 replace H := H.ext x2
 refine sps [.bool (!(dec (yt s))), .bool (!(dec (yt s)))] ?_
 cases h3 : (!(dec (yt s)))
 ·skip
  replace h3 := qJ h3
  replace h3 := vC h3
  refine qB 8 rfl rfl ?_
  refine sp (pp bs os) ?_
  refine qB 8 rfl rfl ?_
  refine sp (pp bs os) ?_
  refine qB 8 rfl rfl ?_
  refine oF rfl ?_
  refine qB 8 rfl rfl ?_
  refine oL rfl (H.xJ 0 rfl 2 rfl) ?_
  refine qB 8 rfl rfl ?_
  refine oN rfl ?_
  refine qB 8 rfl rfl ?_
  refine sps [.bool (decide ((s.qh.length : Int) > 16)), .bool (decide ((s.qh.length : Int) > 16))] ?_
  refine qj (t_n ?_)
  refine qC (decide ((s.qh.length : Int) > 16)) rfl (fun h4 => ?_) (fun h4 => ?_)
  ·skip
   replace h4 := of_decide_eq_true h4
   refine qi (ql ?_)
   refine sp (.bool false) ?_
   refine qj (t_n (qV (t_r ?_)))
   refine ret1 (.bool false) rfl rfl ⟨_, rfl, ?_, H.base⟩
   rw [qY (fun h => by obtain ⟨h1, h2, h3⟩ := h; first | contradiction | omega | (obtain ⟨q1, q2⟩ := h3 k (by omega); first | contradiction | (have := XE (k := k + 1) q; omega)))]
  replace h4 := of_decide_eq_false h4
  have p2 := p1 (by assumption)
  refine qM (t_n (qi (ql ?_)))
  refine sps [pp bs os, pp bs os] ?_
  refine oF rfl ?_
  refine oL rfl (H.xJ 0 rfl 1 rfl) ?_
  refine oN rfl ?_
  refine sw (o_make1 H Tryz.underlying22 ti2 rfl s.qf.length rfl rfl (by omega) (by omega) fun b5 w6 H => ?_)
  replace H : St _ _ [.box b5 (List.replicate s.qf.length (.int .i64 0)) 2] _ := H
  refine sp (.slice (aa b5 0) s.qf.length s.qf.length) ?_
  refine qj (t_n (qi (qi (ql ?_))))
  refine sp (.int .i64 0) ?_
  refine qj (t_n (qW ?_))
  rw [ints_zero, counts_zero] at H
  refine zf (fun m' ρ w7 => ∃ (junk : Env) (k : Nat), ρ = upd (upd (upd junk 0 (pp bs os)) 3 (.slice (aa b5 0) s.qf.length s.qf.length)) 4 (.int .i64 k) ∧ (k ≤ s.qh.length) ∧ (RulesTo s k) ∧ m' = s.qh.length - k ∧ St w w7 [.box b5 ((counts s k).map (Value.int .i64)) 2] [atF bs os [.int .i64 s.qH, .slice qx s.qf.length qp, .slice qN s.qh.length qL], isF false xn (.slice qx s.qf.length qp) s.qf, isF false xG (.slice qN s.qh.length qL) s.qh]) (s.qh.length - 0) ⟨_, 0, (by exact qg (qg (qg (rfl) rfl) rfl) rfl), (by omega), (by exact fun j hj => by omega), rfl, H⟩ ?_
  clear H
  rintro m' ρ w8 ⟨junk, k, rfl, i0, i1, rfl, H⟩
  refine qi (qi (ql ?_))
  refine sps [.int .i64 k, pp bs os, pp bs os] ?_
  refine oF rfl ?_
  refine oL rfl (H.xJ 0 rfl 2 rfl) ?_
  refine oN rfl ?_
  refine sp (.bool (decide ((k : Int) < s.qh.length))) ?_
  refine qj (t_n ?_)
  refine qC (decide ((k : Int) < s.qh.length)) rfl (fun h9 => ?_) (fun h9 => ?_)
  ·skip
   replace h9 := of_decide_eq_true h9
   refine qM (t_n (qi (qW (qi (qi (ql ?_))))))
   refine sps [pp bs os, pp bs os, pp bs os] ?_
   refine oF rfl ?_
   refine oL rfl (H.xJ 0 rfl 2 rfl) ?_
   refine sp (.int .i64 k) ?_
   obtain ⟨b10, o11, rfl⟩ := H.addr 2 rfl (by omega)
   obtain ⟨ae12Need, ce12Need, Fe12Need, ae12Have, ce12Have, Fe12Have, ae12Lack, ce12Lack, Fe12Lack, ae12Here, ce12Here, Fe12Here, ae12Out, ce12Out, Fe12Out, ae12Into, ce12Into, Fe12Into, H⟩ := H.jK 2 rfl k k (by omega) (by omega) (by omega)
   refine oI rfl rfl ?_
   refine sw (oc (l02Rule_ok _ s (s.qh[k]!) _ _ _ _ _ _ _ _ _ _ _ _ _ _ _ _ _ _ _ _ _ _ _ _ _ _ _ _ (qI (H.get 7 rfl) 0 3) (H.get 8 rfl).1 (H.get 9 rfl).1 (qI (H.get 6 rfl) 0 9) (H.get 0 rfl).1 (H.get 1 rfl).1 (H.get 2 rfl).1 (H.get 3 rfl).1 (H.get 4 rfl).1 (H.get 5 rfl).1 (by assumption)) ?_)
   rintro _ w13 rfl x14
   replace H := H.ext x14
   refine sp (.bool (!(dec (RuleOk s (s.qh[k]!))))) ?_
   refine qj (t_n ?_)
   refine qC (!(dec (RuleOk s (s.qh[k]!)))) rfl (fun h15 => ?_) (fun h15 => ?_)
   ·skip
    replace h15 := qP h15
    replace h15 := xI h15
    refine qi (ql ?_)
    refine sp (.bool false) ?_
    refine qj (t_n (qV (t_r (b_r (t_r (t_r (b_r (t_r ?_))))))))
    refine ret1 (.bool false) rfl rfl ⟨_, rfl, ?_, H.base⟩
    rw [qY (fun h => by obtain ⟨h1, h2, h3⟩ := h; first | contradiction | omega | (obtain ⟨q1, q2⟩ := h3 k (by omega); first | contradiction | (have := XE (k := k + 1) q; omega)))]
   replace h15 := qJ h15
   replace h15 := vC h15
   have q := (h15).1
   refine qM (t_n (qi (ql ?_)))
   refine sps [.slice (aa b5 0) s.qf.length s.qf.length, pp bs os, pp bs os] ?_
   refine oF rfl ?_
   refine oL rfl (H.xJ 7 rfl 2 rfl) ?_
   refine sp (.int .i64 k) ?_
   refine oI rfl rfl ?_
   refine oF rfl ?_
   refine oL rfl (H.xJ 6 rfl 0 rfl) ?_
   refine oI rfl rfl ?_
   refine oL rfl (H.cell 0 rfl (ints_get (by rw [counts_len]; omega))) ?_
   refine sw (zk ((counts s k)[((s.qh[k]!).qw : Int).toNat]!) 1 rfl rfl (by (first | omega | (rw [XE q]; have := ofCell_bd s.qh (s.qh[k]!).qw k; omega))) ?_)
   refine oI rfl rfl ?_
   refine sw (jr H 0 rfl (.int .i64 (((counts s k)[((s.qh[k]!).qw : Int).toNat]!) + 1)) Tryz.sizeOf2 rfl rfl rfl (ints_lt (by rw [counts_len]; omega)) fun w16 H => ?_)
   rw [ints_set] at H
   rw [counts_succ q] at H
   replace H : St _ _ [.box b5 ((counts s (k + 1)).map (Value.int .i64)) 2] _ := H
   refine qj (t_n (qi (ql ?_)))
   refine sps [.slice (aa b5 0) s.qf.length s.qf.length, pp bs os, pp bs os] ?_
   refine oF rfl ?_
   refine oL rfl (H.xJ 7 rfl 2 rfl) ?_
   refine sp (.int .i64 k) ?_
   refine oI rfl rfl ?_
   refine oF rfl ?_
   refine oL rfl (H.xJ 6 rfl 0 rfl) ?_
   refine oI rfl rfl ?_
   refine oL rfl (H.cell 0 rfl (ints_get (by rw [counts_len]; omega))) ?_
   refine sp (.bool (decide (((counts s (k + 1))[((s.qh[k]!).qw : Int).toNat]! : Int) > 8))) ?_
   refine qj (t_n ?_)
   refine qC (decide (((counts s (k + 1))[((s.qh[k]!).qw : Int).toNat]! : Int) > 8)) rfl (fun h17 => ?_) (fun h17 => ?_)
   ·skip
    replace h17 := of_decide_eq_true h17
    refine qi (ql ?_)
    refine sp (.bool false) ?_
    refine qj (t_n (qV (b_r (t_r (t_r (b_r (t_r ?_)))))))
    refine ret1 (.bool false) rfl rfl ⟨_, rfl, ?_, H.base⟩
    rw [qY (fun h => by obtain ⟨h1, h2, h3⟩ := h; first | contradiction | omega | (obtain ⟨q1, q2⟩ := h3 k (by omega); first | contradiction | (have := XE (k := k + 1) q; omega)))]
   replace h17 := of_decide_eq_false h17
   refine qM (b_n (t_n (ql ?_)))
   refine sp (.int .i64 k) ?_
   refine sw (zk k 1 rfl rfl (by (first | omega | (rw [XE q]; have := ofCell_bd s.qh (s.qh[k]!).qw k; omega))) ?_)
   refine sp (.int .i64 (k + 1)) ?_
   refine qj ?_
   refine xk (m' := s.qh.length - (k + 1)) (by omega) ⟨_, k + 1, (by exact qg (qg (qg (rfl) rfl) rfl) rfl), ?_, ?_, rfl, H.sel _ (.refl _) _ (by simp)⟩
   · omega
   · exact i1.succ ‹_› (by have := XE (k := k + 1) q; omega)
  replace h9 := of_decide_eq_false h9
  refine xQ (t_x (t_x (b_x (t_n (qi (ql ?_))))))
  refine sp (.bool true) ?_
  refine qj (t_n (qV ?_))
  refine ret1 (.bool true) rfl rfl ⟨_, rfl, ?_, H.base⟩
  obtain rfl : k = s.qh.length := by omega
  rw [jE ⟨by assumption, by omega, i1⟩]
 replace h3 := qP h3
 replace h3 := xI h3
 refine xF [9, 10, 11, 12, 13, 14] ?_
 refine sp (.bool true) ?_
 refine qj (t_n ?_)
 refine qC true rfl (fun _ => ?_) (fun h => absurd h (by decide))
 refine qi (ql ?_)
 refine sp (.bool false) ?_
 refine qj (t_n (qV (t_r ?_)))
 refine ret1 (.bool false) rfl rfl ⟨_, rfl, ?_, H.base⟩
 rw [qY (fun h => by obtain ⟨h1, h2, h3⟩ := h; first | contradiction | omega | (obtain ⟨q1, q2⟩ := h3 k (by omega); first | contradiction | (have := XE (k := k + 1) q; omega)))]

end Go.Proofs.YtgjnaocffdhnbaaGreat
