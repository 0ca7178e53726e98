/- Walks, printed by program (wip/tools/gv.py): what each function comes to, for all arguments. -/
import Derived.Test.YtkmlihdacnfhdaaG3
import Derived.Test.YtkmlihdacnfhdaaP1
namespace Go.Proofs.Ytkmlihdacnfhdaa
open Go.Proofs.Ytkmlihdacnfhdaa.Tot (tot)
open Go.Proofs.Ytkmlihdacnfhdaa.Mark (cnt mrk mkd mkd_mark cnt_mark)
open Go.RowKit
set_option linter.unusedVariables false
set_option linter.unusedSimpArgs false
set_option maxRecDepth 100000
set_option maxHeartbeats 4000000



theorem l01Bag_ok (w : World) (l : List Int) (al : Option Addr) (cl : Nat) (Fl : List Nat) (hl : qW.rep w Fl [.slice al l.length cl] l) : Calls Try.prog 120 #[.slice al l.length cl] w (Ret (fun v w' => v = .bool (dec (BagAny l))) w) := by
 refine enter (n := 19) Try.func120 rfl Try.ntmps120 (Nat.le_of_ble_eq_true rfl) ?_
 have H := (St.start w).arg hl
 have nhl := qN hl
 clear hl
 refine qo (qB ?_)
 refine sp (.bool false) ?_
 refine qA (t_n (qo (qo (qB ?_))))
 refine sp (.int .i64 0) ?_
 refine qA (t_n (xC ?_))
 refine vw (fun m' ρ w1 => ∃ (junk : Env) (k : Nat), ρ = upd (upd junk 0 (.slice al l.length cl)) 3 (.int .i64 k) ∧ (k ≤ l.length) ∧ (Counts l k) ∧ m' = l.length - k ∧ St w w1 [] [isF false Fl (.slice al l.length cl) l]) (l.length - 0) ⟨_, 0, (by exact qj (qj (rfl) rfl) rfl), (by omega), (by exact Counts.zero l), rfl, H⟩ ?_
 clear H
 rintro m' ρ w2 ⟨junk, k, rfl, i0, i1, rfl, H⟩
 refine qo (qo (qB ?_))
 refine sps [.int .i64 k, .slice al l.length cl] ?_
 refine sw (vI Try.underlying22 al l.length cl rfl ?_)
 refine sp (.bool (decide ((k : Int) < l.length))) ?_
 refine qA (t_n ?_)
 refine qX (decide ((k : Int) < l.length)) rfl (fun h3 => ?_) (fun h3 => ?_)
 ·skip
  replace h3 := of_decide_eq_true h3
  refine xy (t_n (qo (xC (qo (qB ?_)))))
  refine sps [.slice al l.length cl, .int .i64 k] ?_
  obtain ⟨b4, o5, rfl⟩ := H.addr 0 rfl (by omega)
  refine sw (xO k Try.underlying22 ti2 rfl rfl (by omega) (by omega) ?_)
  refine sw (qF (.int .i64 (l[k]!)) Try.isAgg2 rfl (H.vX 0 rfl k (by omega) (by omega)) ?_)
  refine sw (xf #[.int .i64 (l[k]!), .int .i64 0, .int .i64 1000] rfl rfl Try.call55 (l00In_ok w2 (l[k]!) 0 1000) ?_)
  rintro _ w6 rfl x7
  replace H := H.ext x7
  refine sp (.bool (!(inR (l[k]!) 0 1000))) ?_
  refine qA (t_n ?_)
  refine qX (!(inR (l[k]!) 0 1000)) rfl (fun h8 => ?_) (fun h8 => ?_)
  ·skip
   replace h8 := xh h8
   replace h8 := XB h8
   refine qo (qB ?_)
   refine sp (.bool false) ?_
   refine qA (t_n (xE (b_r (t_r (t_r (b_r (t_r ?_)))))))
   refine ret1 (.bool false) rfl rfl ⟨_, rfl, ?_, H.base⟩
   rw [xB (fun h => ‹¬ (0 ≤ l[k]! ∧ l[k]! ≤ 1000)› (h.1 k (by omega)))]
  replace h8 := qY h8
  replace h8 := Q9.1 h8
  refine xy (b_n (t_n (qB ?_)))
  refine sp (.int .i64 k) ?_
  refine sw (vz k 1 rfl rfl (by omega) ?_)
  refine sp (.int .i64 (k + 1)) ?_
  refine qA ?_
  refine xH (m' := l.length - (k + 1)) (by omega) ⟨_, k + 1, (by exact qj (qj (rfl) rfl) rfl), ?_, ?_, rfl, H⟩
  · omega
  · exact i1.succ ‹_›
 replace h3 := of_decide_eq_false h3
 refine ve (t_x (t_x (b_x (t_n (qo (qB ?_))))))
 refine sp (.slice al l.length cl) ?_
 refine sw (vI Try.underlying22 al l.length cl rfl ?_)
 refine sw (xf #[.int .i64 l.length, .int .i64 1, .int .i64 8] rfl rfl Try.call55 (l00In_ok w2 l.length 1 8) ?_)
 rintro _ w9 rfl x10
 replace H := H.ext x10
 refine sp (.bool (inR l.length 1 8)) ?_
 refine qA (t_n (xE ?_))
 refine ret1 (.bool (inR l.length 1 8)) rfl rfl ⟨_, rfl, ?_, H.base⟩
 obtain rfl : k = l.length := by omega
 refine congrArg Value.bool (dec_eq ?_)
 rw [Q9]
 exact ⟨fun h => ⟨i1, by omega, by omega⟩, fun h => by have := h.2; omega⟩

theorem Q4 (w : World) (s : qV) (b : List Int) (bs os : Nat) (qw : Option Addr) (qm : Nat) (qM : List Nat) (qG : Option Addr) (qC : Nat) (xu : List Nat) (ab : Option Addr) (cb : Nat) (Fb : List Nat) (hs : jd w bs os [.int .i64 s.qI, .slice qw s.qf.length qm, .slice qG s.qg.length qC]) (xx : qW.rep w qM [.slice qw s.qf.length qm] s.qf) (xN : qW.rep w xu [.slice qG s.qg.length qC] s.qg) (hb : qW.rep w Fb [.slice ab b.length cb] b) : Calls Try.prog 105 #[pp bs os, .slice ab b.length cb] w (Ret (fun v w' => v = .bool (dec (zZ s.qI b))) w) := by
 refine enter (n := 16) Try.func105 rfl Try.ntmps105 (Nat.le_of_ble_eq_true rfl) ?_
 have H := ((((St.start w).arg hb).arg xN).arg xx).argAt hs
 have vW := qN xx
 have yh := qN xN
 have nhb := qN hb
 clear hs xx xN hb
 refine qo (qB ?_)
 refine sp (.bool false) ?_
 refine qA (t_n (qo (qB ?_)))
 refine sp (.slice ab b.length cb) ?_
 refine sw (xf #[.slice ab b.length cb] rfl rfl Try.call120 (l01Bag_ok w b ab cb Fb (H.get 3 rfl).1) ?_)
 rintro _ w1 rfl x2
 replace H := H.ext x2
 refine sp (.bool (dec (BagAny b))) ?_
 cases h3 : (dec (BagAny b))
 ·skip
  replace h3 := zt h3
  refine zi [8, 9, 10, 11, 12, 13, 14] ?_
  refine sps [.bool false, .bool false] ?_
  refine qA (t_n (xE ?_))
  refine ret1 (.bool false) rfl rfl ⟨_, rfl, ?_, H.base⟩
  rw [xB (fun h => ‹¬ BagAny b› h.1)]
 replace h3 := jZ h3
 refine qU 7 rfl rfl ?_
 refine sp (.slice ab b.length cb) ?_
 refine qU 7 rfl rfl ?_
 refine sw (vI Try.underlying22 ab b.length cb rfl ?_)
 refine qU 7 rfl rfl ?_
 refine sp (pp bs os) ?_
 refine qU 7 rfl rfl ?_
 refine sp (pp bs os) ?_
 refine qU 7 rfl rfl ?_
 refine sw (qO bs (os) 0 Try.underlying30 rfl rfl Try.sizeOf2 rfl ?_)
 refine qU 7 rfl rfl ?_
 refine sw (qF (.int .i64 s.qI) Try.isAgg2 rfl (H.zh 0 rfl 0 rfl) ?_)
 refine qU 7 rfl rfl ?_
 refine sps [.bool ((b.length : Int) == s.qI), .bool ((b.length : Int) == s.qI), .bool ((b.length : Int) == s.qI)] ?_
 refine qA (t_n (xE ?_))
 refine ret1 (.bool ((b.length : Int) == s.qI)) rfl rfl ⟨_, rfl, ?_, H.base⟩
 refine congrArg Value.bool (dec_eq ?_)
 rw [beq_iff_eq]
 exact ⟨fun h => ⟨‹_›, h⟩, fun h => h.2⟩

theorem l02Frame_ok (w : World) (s : qV) (bs os : Nat) (qw : Option Addr) (qm : Nat) (qM : List Nat) (qG : Option Addr) (qC : Nat) (xu : List Nat) (hs : jd w bs os [.int .i64 s.qI, .slice qw s.qf.length qm, .slice qG s.qg.length qC]) (xx : qW.rep w qM [.slice qw s.qf.length qm] s.qf) (xN : qW.rep w xu [.slice qG s.qg.length qC] s.qg) : Calls Try.prog 97 #[pp bs os] w (Ret (fun v w' => v = .bool (dec (yA s))) w) := by
 refine enter (n := 48) Try.func97 rfl Try.ntmps97 (Nat.le_of_ble_eq_true rfl) ?_
 have H := (((St.start w).arg xN).arg xx).argAt hs
 have vW := qN xx
 have yh := qN xN
 clear hs xx xN
 refine qo (qB ?_)
 refine sp (.bool false) ?_
 refine qA (t_n (qo (qo (qB ?_))))
 refine sps [pp bs os, pp bs os] ?_
 refine sw (qO bs (os) 0 Try.underlying30 rfl rfl Try.sizeOf2 rfl ?_)
 refine sw (qF (.int .i64 s.qI) Try.isAgg2 rfl (H.zh 0 rfl 0 rfl) ?_)
 refine sw (xf #[.int .i64 s.qI, .int .i64 1, .int .i64 8] rfl rfl Try.call55 (l00In_ok w s.qI 1 8) ?_)
 rintro _ w1 rfl x2
 replace H := H.ext x2
 refine sps [.bool (!(inR s.qI 1 8)), .bool (!(inR s.qI 1 8))] ?_
 cases h3 : (!(inR s.qI 1 8))
 ·skip
  replace h3 := qY h3
  replace h3 := Q9.1 h3
  refine qU 10 rfl rfl ?_
  refine sp (pp bs os) ?_
  refine qU 10 rfl rfl ?_
  refine sp (pp bs os) ?_
  refine qU 10 rfl rfl ?_
  refine sw (qO bs (os) 1 Try.underlying30 rfl rfl Try.sizeOf22 rfl ?_)
  refine qU 10 rfl rfl ?_
  refine sw (qF (.slice qw s.qf.length qm) Try.isAgg22 rfl (H.zh 0 rfl 1 rfl) ?_)
  refine qU 10 rfl rfl ?_
  refine sw (vI Try.underlying22 qw s.qf.length qm rfl ?_)
  refine qU 10 rfl rfl ?_
  refine sw (xf #[.int .i64 s.qf.length, .int .i64 1, .int .i64 6] rfl rfl Try.call55 (l00In_ok w1 s.qf.length 1 6) ?_)
  rintro _ w4 rfl x5
  replace H := H.ext x5
  refine qU 10 rfl rfl ?_
  refine sps [.bool (!(inR s.qf.length 1 6)), .bool (!(inR s.qf.length 1 6)), .bool (!(inR s.qf.length 1 6))] ?_
  cases h6 : (!(inR s.qf.length 1 6))
  ·skip
   replace h6 := qY h6
   replace h6 := Q9.1 h6
   refine qU 19 rfl rfl ?_
   refine sp (pp bs os) ?_
   refine qU 19 rfl rfl ?_
   refine sp (pp bs os) ?_
   refine qU 19 rfl rfl ?_
   refine sw (qO bs (os) 1 Try.underlying30 rfl rfl Try.sizeOf22 rfl ?_)
   refine qU 19 rfl rfl ?_
   refine sw (qF (.slice qw s.qf.length qm) Try.isAgg22 rfl (H.zh 0 rfl 1 rfl) ?_)
   refine qU 19 rfl rfl ?_
   obtain ⟨b7, o8, rfl⟩ := H.addr 1 rfl (by omega)
   refine sw (xO 0 Try.underlying22 ti2 rfl rfl (by omega) (by omega) ?_)
   refine qU 19 rfl rfl ?_
   refine sw (qF (.int .i64 (s.qf[0]!)) Try.isAgg2 rfl (H.vX 1 rfl 0 (by omega) (by omega)) ?_)
   refine qU 19 rfl rfl ?_
   refine sps [.bool ((s.qf[0]! : Int) != (-1)), .bool ((s.qf[0]! : Int) != (-1))] ?_
   refine qA (t_n ?_)
   refine qX ((s.qf[0]! : Int) != (-1)) rfl (fun h9 => ?_) (fun h9 => ?_)
   ·skip
    replace h9 := bne_iff_ne.1 h9
    refine qo (qB ?_)
    refine sp (.bool false) ?_
    refine qA (t_n (xE (t_r ?_)))
    refine ret1 (.bool false) rfl rfl ⟨_, rfl, ?_, H.base⟩
    rw [xB (fun h => by obtain ⟨h1, h2, h3, h4⟩ := h; first | omega | (have := h4 k (by omega) (by omega); omega))]
   replace h9 := xP h9
   refine xy (t_n (qo (qo (qB ?_))))
   refine sp (.int .i64 1) ?_
   refine qA (t_n (xC ?_))
   refine vw (fun m' ρ w10 => ∃ (junk : Env) (k : Nat), ρ = upd (upd junk 0 (pp bs os)) 3 (.int .i64 k) ∧ (k ≤ s.qf.length) ∧ (1 ≤ k) ∧ (FrameTo s k) ∧ m' = s.qf.length - k ∧ St w w10 [] [atF bs os [.int .i64 s.qI, .slice (aa b7 o8) s.qf.length qm, .slice qG s.qg.length qC], isF false qM (.slice (aa b7 o8) s.qf.length qm) s.qf, isF false xu (.slice qG s.qg.length qC) s.qg]) (s.qf.length - 1) ⟨_, 1, (by exact qj (qj (rfl) rfl) rfl), (by omega), (by omega), (by exact FrameTo.one s), rfl, H⟩ ?_
   clear H
   rintro m' ρ w11 ⟨junk, k, rfl, i0, i2, i1, rfl, H⟩
   refine qo (qo (qB ?_))
   refine sps [.int .i64 k, pp bs os, pp bs os] ?_
   refine sw (qO bs (os) 1 Try.underlying30 rfl rfl Try.sizeOf22 rfl ?_)
   refine sw (qF (.slice (aa b7 o8) s.qf.length qm) Try.isAgg22 rfl (H.zh 0 rfl 1 rfl) ?_)
   refine sw (vI Try.underlying22 (aa b7 o8) s.qf.length qm rfl ?_)
   refine sp (.bool (decide ((k : Int) < s.qf.length))) ?_
   refine qA (t_n ?_)
   refine qX (decide ((k : Int) < s.qf.length)) rfl (fun h12 => ?_) (fun h12 => ?_)
   ·skip
    replace h12 := of_decide_eq_true h12
    refine xy (t_n (qo (xC (qo (qB ?_)))))
    refine sps [pp bs os, pp bs os] ?_
    refine sw (qO bs (os) 1 Try.underlying30 rfl rfl Try.sizeOf22 rfl ?_)
    refine sw (qF (.slice (aa b7 o8) s.qf.length qm) Try.isAgg22 rfl (H.zh 0 rfl 1 rfl) ?_)
    refine sp (.int .i64 k) ?_
    refine sw (xO k Try.underlying22 ti2 rfl rfl (by omega) (by omega) ?_)
    refine sw (qF (.int .i64 (s.qf[k]!)) Try.isAgg2 rfl (H.vX 1 rfl k (by omega) (by omega)) ?_)
    refine sp (.int .i64 k) ?_
    refine sw (o_sub k 1 rfl rfl (by omega) ?_)
    refine sw (xf #[.int .i64 (s.qf[k]!), .int .i64 0, .int .i64 (k - 1)] rfl rfl Try.call55 (l00In_ok w11 (s.qf[k]!) 0 (k - 1)) ?_)
    rintro _ w13 rfl x14
    replace H := H.ext x14
    refine sp (.bool (!(inR (s.qf[k]!) 0 (k - 1)))) ?_
    refine qA (t_n ?_)
    refine qX (!(inR (s.qf[k]!) 0 (k - 1))) rfl (fun h15 => ?_) (fun h15 => ?_)
    ·skip
     replace h15 := xh h15
     replace h15 := XB h15
     refine qo (qB ?_)
     refine sp (.bool false) ?_
     refine qA (t_n (xE (b_r (t_r (t_r (b_r (t_r ?_)))))))
     refine ret1 (.bool false) rfl rfl ⟨_, rfl, ?_, H.base⟩
     rw [xB (fun h => by obtain ⟨h1, h2, h3, h4⟩ := h; first | omega | (have := h4 k (by omega) (by omega); omega))]
    replace h15 := qY h15
    replace h15 := Q9.1 h15
    refine xy (b_n (t_n (qB ?_)))
    refine sp (.int .i64 k) ?_
    refine sw (vz k 1 rfl rfl (by omega) ?_)
    refine sp (.int .i64 (k + 1)) ?_
    refine qA ?_
    refine xH (m' := s.qf.length - (k + 1)) (by omega) ⟨_, k + 1, (by exact qj (qj (rfl) rfl) rfl), ?_, ?_, ?_, rfl, H⟩
    · omega
    · omega
    · exact i1.succ ‹_›
   replace h12 := of_decide_eq_false h12
   refine ve (t_x (t_x (b_x (t_n (qo (qB ?_))))))
   refine sp (.bool true) ?_
   refine qA (t_n (xE ?_))
   refine ret1 (.bool true) rfl rfl ⟨_, rfl, ?_, H.base⟩
   obtain rfl : k = s.qf.length := by omega
   rw [yZ ⟨by omega, by omega, by omega, i1⟩]
  replace h6 := xh h6
  replace h6 := XB h6
  refine zi [20, 21, 22, 23, 24, 25, 26] ?_
  refine sp (.bool true) ?_
  refine qA (t_n ?_)
  refine qX true rfl (fun _ => ?_) (fun h => absurd h (by decide))
  refine qo (qB ?_)
  refine sp (.bool false) ?_
  refine qA (t_n (xE (t_r ?_)))
  refine ret1 (.bool false) rfl rfl ⟨_, rfl, ?_, H.base⟩
  rw [xB (fun h => by obtain ⟨h1, h2, h3, h4⟩ := h; first | omega | (have := h4 k (by omega) (by omega); omega))]
 replace h3 := xh h3
 replace h3 := XB h3
 refine zi [11, 12, 13, 14, 15, 16, 17] ?_
 refine sps [.bool true, .bool true] ?_
 refine zi [20, 21, 22, 23, 24, 25, 26] ?_
 refine sp (.bool true) ?_
 refine qA (t_n ?_)
 refine qX true rfl (fun _ => ?_) (fun h => absurd h (by decide))
 refine qo (qB ?_)
 refine sp (.bool false) ?_
 refine qA (t_n (xE (t_r ?_)))
 refine ret1 (.bool false) rfl rfl ⟨_, rfl, ?_, H.base⟩
 rw [xB (fun h => by obtain ⟨h1, h2, h3, h4⟩ := h; first | omega | (have := h4 k (by omega) (by omega); omega))]

theorem l02In_ok (w : World) (s : qV) (c : Int) (other : Int) (bs os : Nat) (qw : Option Addr) (qm : Nat) (qM : List Nat) (qG : Option Addr) (qC : Nat) (xu : List Nat) (hs : jd w bs os [.int .i64 s.qI, .slice qw s.qf.length qm, .slice qG s.qg.length qC]) (xx : qW.rep w qM [.slice qw s.qf.length qm] s.qf) (xN : qW.rep w xu [.slice qG s.qg.length qC] s.qg) (p0 : yA s) (p1 : CellIn s c) : Calls Try.prog 117 #[pp bs os, .int .i64 c, .int .i64 other] w (Ret (fun v w' => v = .bool (dec (Lies s.qf other c))) w) := by
 refine enter (n := 19) Try.func117 rfl Try.ntmps117 (Nat.le_of_ble_eq_true rfl) ?_
 have H := (((St.start w).arg xN).arg xx).argAt hs
 have vW := qN xx
 have yh := qN xN
 clear hs xx xN
 refine qo (qB ?_)
 refine sp (.bool false) ?_
 refine qA (t_n (qo (xC ?_)))
 refine vw (fun m' ρ w1 => ∃ (junk : Env) (y : Int), ρ = upd (upd (upd junk 0 (pp bs os)) 1 (.int .i64 y)) 2 (.int .i64 other) ∧ (0 ≤ y ∧ y ≤ (s.qf.length : Int) - 1) ∧ (Lies s.qf other c ↔ Lies s.qf other y) ∧ m' = y.toNat ∧ St w w1 [] [atF bs os [.int .i64 s.qI, .slice qw s.qf.length qm, .slice qG s.qg.length qC], isF false qM (.slice qw s.qf.length qm) s.qf, isF false xu (.slice qG s.qg.length qC) s.qg]) (c.toNat) ⟨_, c, (by exact qj (qj (qj (rfl) rfl) rfl) rfl), (by exact p1), (by exact Iff.rfl), rfl, H⟩ ?_
 clear H
 rintro m' ρ w2 ⟨junk, y, rfl, i0, i1, rfl, H⟩
 have up := fun h => p0.up (c := y) h i0.2
 refine qo (qo (qB ?_))
 refine sps [.int .i64 y, .bool (decide ((y : Int) > 0))] ?_
 refine qA (t_n ?_)
 refine qX (decide ((y : Int) > 0)) rfl (fun h3 => ?_) (fun h3 => ?_)
 ·skip
  replace h3 := of_decide_eq_true h3
  refine xy (t_n (xC (qo (qB ?_))))
  refine sps [pp bs os, pp bs os] ?_
  refine sw (qO bs (os) 1 Try.underlying30 rfl rfl Try.sizeOf22 rfl ?_)
  refine sw (qF (.slice qw s.qf.length qm) Try.isAgg22 rfl (H.zh 0 rfl 1 rfl) ?_)
  refine sp (.int .i64 y) ?_
  obtain ⟨b4, o5, rfl⟩ := H.addr 1 rfl (by omega)
  refine sw (xO y Try.underlying22 ti2 rfl rfl (by omega) (by omega) ?_)
  refine sw (qF (.int .i64 (s.qf[y.toNat]!)) Try.isAgg2 rfl (H.vX 1 rfl y (by omega) (by omega)) ?_)
  refine sp (.int .i64 (s.qf[y.toNat]!)) ?_
  refine qA (t_n (qo (qB ?_)))
  refine sps [.int .i64 (s.qf[y.toNat]!), .int .i64 other, .bool ((s.qf[y.toNat]! : Int) == other)] ?_
  refine qA (t_n ?_)
  refine qX ((s.qf[y.toNat]! : Int) == other) rfl (fun h6 => ?_) (fun h6 => ?_)
  ·skip
   replace h6 := eq_of_beq h6
   refine qo (qB ?_)
   refine sp (.bool true) ?_
   refine qA (t_n (xE (b_r (t_r (b_r (t_r ?_))))))
   refine ret1 (.bool true) rfl rfl ⟨_, rfl, ?_, H.base⟩
   rw [yZ (i1.2 (.here (by omega) ‹_›))]
  replace h6 := ne_of_beq_false h6
  refine xy (b_n ?_)
  have up1 := up (by omega)
  refine xH (m' := (s.qf[y.toNat]!).toNat) (by omega) ⟨_, (s.qf[y.toNat]!), (by exact qj (qj (qj (rfl) rfl) rfl) rfl), ?_, ?_, rfl, H⟩
  · have := up (by omega); omega
  · exact i1.trans (lies_iff.trans ⟨fun h => h.2.resolve_left ‹_›, fun h => ⟨by omega, .inr h⟩⟩)
 replace h3 := of_decide_eq_false h3
 refine ve (t_x (t_x (b_x (t_n (qo (qB ?_))))))
 refine sp (.bool false) ?_
 refine qA (t_n (xE ?_))
 refine ret1 (.bool false) rfl rfl ⟨_, rfl, ?_, H.base⟩
 rw [xB (fun h => by have := (lies_iff.1 (i1.1 h)).1; omega)]

theorem l02Rule_ok (w : World) (s : qV) (r : QK) (bs os : Nat) (qw : Option Addr) (qm : Nat) (qM : List Nat) (qG : Option Addr) (qC : Nat) (xu : List Nat) (br or : Nat) (vP : Option Addr) (vO : Nat) (Q5 : List Nat) (jv : Option Addr) (jr : Nat) (Xw : List Nat) (jb : Option Addr) (ja : Nat) (Xn : List Nat) (jL : Option Addr) (jK : Nat) (XM : List Nat) (Qy : Option Addr) (Qx : Nat) (FrOut : List Nat) (vF : Option Addr) (zU : Nat) (FrInto : List Nat) (hs : jd w bs os [.int .i64 s.qI, .slice qw s.qf.length qm, .slice qG s.qg.length qC]) (xx : qW.rep w qM [.slice qw s.qf.length qm] s.qf) (xN : qW.rep w xu [.slice qG s.qg.length qC] s.qg) (hr : jd w br or [.int .i64 r.qy, .int .i64 r.zk, .slice vP r.qR.length vO, .slice jv r.xg.length jr, .slice jb r.xk.length ja, .slice jL r.xw.length jK, .slice Qy r.zo.length Qx, .slice vF r.qE.length zU, .bool r.xQ]) (hrNeed : qW.rep w Q5 [.slice vP r.qR.length vO] r.qR) (hrHave : qW.rep w Xw [.slice jv r.xg.length jr] r.xg) (hrLack : qW.rep w Xn [.slice jb r.xk.length ja] r.xk) (hrHere : qW.rep w XM [.slice jL r.xw.length jK] r.xw) (hrOut : qW.rep w FrOut [.slice Qy r.zo.length Qx] r.zo) (hrInto : qW.rep w FrInto [.slice vF r.qE.length zU] r.qE) (p0 : yA s) : Calls Try.prog 98 #[pp bs os, pp br or] w (Ret (fun v w' => v = .bool (dec (RuleOk s r))) w) := by
 refine enter (n := 174) Try.func98 rfl Try.ntmps98 (Nat.le_of_ble_eq_true rfl) ?_
 have H := ((((((((((St.start w).arg hrInto).arg hrOut).arg hrHere).arg hrLack).arg hrHave).arg hrNeed).argAt hr).arg xN).arg xx).argAt hs
 have vW := qN xx
 have yh := qN xN
 have nhrNeed := qN hrNeed
 have nhrHave := qN hrHave
 have nhrLack := qN hrLack
 have nhrHere := qN hrHere
 have nhrOut := qN hrOut
 have nhrInto := qN hrInto
 clear hs xx xN hr hrNeed hrHave hrLack hrHere hrOut hrInto
 refine qo (qB ?_)
 refine sp (.bool false) ?_
 refine qA (t_n (qo (qo ?_)))
 refine yg rfl H fun H => ?_
 refine rtp 0 (pp br or) H ?_
 refine rtp 1 (pp br or) H ?_
 refine rt 2 (pp br (or + 0)) (xF br (or) 0 Try.underlying92 rfl rfl Try.sizeOf2 rfl) H ?_
 refine rt 3 (.int .i64 r.qy) (xm Try.isAgg2 rfl (fun _ h => h.zh 3 rfl 0 rfl)) H ?_
 refine rtp 4 (pp bs os) H ?_
 refine rtp 5 (pp bs os) H ?_
 refine rt 6 (pp bs (os + 1)) (xF bs (os) 1 Try.underlying30 rfl rfl Try.sizeOf22 rfl) H ?_
 refine rt 7 (.slice qw s.qf.length qm) (xm Try.isAgg22 rfl (fun _ h => h.zh 0 rfl 1 rfl)) H ?_
 refine rt 8 (.int .i64 s.qf.length) (y_len Try.underlying22 qw s.qf.length qm rfl) H ?_
 refine rt 9 (.int .i64 (s.qf.length - 1)) (y_sub s.qf.length 1 rfl rfl (by omega)) H ?_
 refine xn [10] (by kernel_rfl) (by simp) (zg rfl ?_ xq)
 refine xf #[.int .i64 r.qy, .int .i64 0, .int .i64 (s.qf.length - 1)] rfl rfl Try.call55 (l00In_ok w.drew r.qy 0 (s.qf.length - 1)) ?_
 rintro _ w2 rfl x3
 replace H := H.ext x3
 refine ⟨H, ?_⟩
 refine rtp 11 (.bool (!(inR r.qy 0 (s.qf.length - 1)))) H ?_
 refine rtp 12 (.bool (!(inR r.qy 0 (s.qf.length - 1)))) H ?_
 cases h4 : (!(inR r.qy 0 (s.qf.length - 1)))
 ·skip
  replace h4 := qY h4
  replace h4 := Q9.1 h4
  refine rgp 13 (pp br or) 19 H ?_
  refine rgp 14 (pp br or) 19 H ?_
  refine rg 15 (pp br (or + 1)) 19 (xF br (or) 1 Try.underlying92 rfl rfl Try.sizeOf2 rfl) H ?_
  refine rg 16 (.int .i64 r.zk) 19 (xm Try.isAgg2 rfl (fun _ h => h.zh 3 rfl 1 rfl)) H ?_
  refine xn [17] (by kernel_rfl) (by simp) (r_opG rfl (e := 19) rfl rfl ?_ xq)
  refine xf #[.int .i64 r.zk, .int .i64 0, .int .i64 9] rfl rfl Try.call55 (l00In_ok w2 r.zk 0 9) ?_
  rintro _ w5 rfl x6
  replace H := H.ext x6
  refine ⟨H, ?_⟩
  refine rgp 18 (.bool (!(inR r.zk 0 9))) 19 H ?_
  refine rtp 19 (.bool (!(inR r.zk 0 9))) H ?_
  refine rtp 20 (.bool (!(inR r.zk 0 9))) H ?_
  cases h7 : (!(inR r.zk 0 9))
  ·skip
   replace h7 := qY h7
   replace h7 := Q9.1 h7
   refine rgp 21 (pp br or) 27 H ?_
   refine rgp 22 (pp br or) 27 H ?_
   refine rg 23 (pp br (or + 8)) 27 (xF br (or) 8 Try.underlying92 rfl rfl Try.sizeOf4 rfl) H ?_
   refine rg 24 (.bool r.xQ) 27 (xm Try.isAgg4 rfl (fun _ h => h.zh 3 rfl 8 rfl)) H ?_
   refine rgp 25 (.bool r.xQ) 27 H ?_
   cases h8 : (r.xQ)
   ·skip
    rw [h8] at H
    refine zS [26, 27, 28, 29, 30] 5 (H) ?_
    refine rgp 31 (.bool false) 27 H ?_
    refine rtp 32 (.bool false) H ?_
    refine rtp 33 (.bool false) H ?_
    refine rgp 34 (pp br or) 40 H ?_
    refine rgp 35 (pp br or) 40 H ?_
    refine rg 36 (pp br (or + 7)) 40 (xF br (or) 7 Try.underlying92 rfl rfl Try.sizeOf90 rfl) H ?_
    refine rg 37 (.slice vF r.qE.length zU) 40 (xm Try.isAgg90 rfl (fun _ h => h.zh 3 rfl 7 rfl)) H ?_
    refine rg 38 (.int .i64 r.qE.length) 40 (y_len Try.underlying90 vF r.qE.length zU rfl) H ?_
    refine rgp 39 (.bool (decide ((r.qE.length : Int) > 3))) 40 H ?_
    refine rtp 40 (.bool (decide ((r.qE.length : Int) > 3))) H ?_
    refine xM (by kernel_rfl) (t_n ?_)
    refine qX (decide ((r.qE.length : Int) > 3)) rfl (fun h9 => ?_) (fun h9 => ?_)
    ·skip
     replace h9 := of_decide_eq_true h9
     refine qo (qB ?_)
     refine sp (.bool false) ?_
     refine qA (t_n (xE (t_r ?_)))
     refine ret1 (.bool false) rfl rfl ⟨_, rfl, ?_, H.base⟩
     rw [xB (fun h => by obtain ⟨h1, h2, h3, h4, h5, h6, h7, h8, h9, h10, h11⟩ := h; first | contradiction | omega | exact h3 ⟨‹_›, ‹_›⟩ | (obtain ⟨q1, q2, q3, q4, q5⟩ := h11 k (by omega); first | contradiction | omega | (have := q5 (by omega); omega)))]
    replace h9 := of_decide_eq_false h9
    refine xy (t_n (qo (qo (qB ?_))))
    refine sps [pp bs os, pp br or, pp br or] ?_
    refine sw (qO br (or) 2 Try.underlying92 rfl rfl Try.sizeOf22 rfl ?_)
    refine sw (qF (.slice vP r.qR.length vO) Try.isAgg22 rfl (H.zh 3 rfl 2 rfl) ?_)
    refine sw (xf #[pp bs os, .slice vP r.qR.length vO] rfl rfl Try.call105 (Q4 w5 s r.qR bs os qw qm qM qG qC xu vP vO Q5 (qH (H.get 0 rfl) 0 3) (H.get 1 rfl).1 (H.get 2 rfl).1 (H.get 4 rfl).1) ?_)
    rintro _ w10 rfl x11
    replace H := H.ext x11
    refine sps [.bool (!(dec (zZ s.qI r.qR))), .bool (!(dec (zZ s.qI r.qR)))] ?_
    cases h12 : (!(dec (zZ s.qI r.qR)))
    ·skip
     replace h12 := qY h12
     replace h12 := jZ h12
     refine qU 55 rfl rfl ?_
     refine sp (pp bs os) ?_
     refine qU 55 rfl rfl ?_
     refine sp (pp br or) ?_
     refine qU 55 rfl rfl ?_
     refine sp (pp br or) ?_
     refine qU 55 rfl rfl ?_
     refine sw (qO br (or) 3 Try.underlying92 rfl rfl Try.sizeOf22 rfl ?_)
     refine qU 55 rfl rfl ?_
     refine sw (qF (.slice jv r.xg.length jr) Try.isAgg22 rfl (H.zh 3 rfl 3 rfl) ?_)
     refine qU 55 rfl rfl ?_
     refine sw (xf #[pp bs os, .slice jv r.xg.length jr] rfl rfl Try.call105 (Q4 w10 s r.xg bs os qw qm qM qG qC xu jv jr Xw (qH (H.get 0 rfl) 0 3) (H.get 1 rfl).1 (H.get 2 rfl).1 (H.get 5 rfl).1) ?_)
     rintro _ w13 rfl x14
     replace H := H.ext x14
     refine qU 55 rfl rfl ?_
     refine sps [.bool (!(dec (zZ s.qI r.xg))), .bool (!(dec (zZ s.qI r.xg))), .bool (!(dec (zZ s.qI r.xg)))] ?_
     cases h15 : (!(dec (zZ s.qI r.xg)))
     ·skip
      replace h15 := qY h15
      replace h15 := jZ h15
      refine qU 64 rfl rfl ?_
      refine sp (pp bs os) ?_
      refine qU 64 rfl rfl ?_
      refine sp (pp br or) ?_
      refine qU 64 rfl rfl ?_
      refine sp (pp br or) ?_
      refine qU 64 rfl rfl ?_
      refine sw (qO br (or) 4 Try.underlying92 rfl rfl Try.sizeOf22 rfl ?_)
      refine qU 64 rfl rfl ?_
      refine sw (qF (.slice jb r.xk.length ja) Try.isAgg22 rfl (H.zh 3 rfl 4 rfl) ?_)
      refine qU 64 rfl rfl ?_
      refine sw (xf #[pp bs os, .slice jb r.xk.length ja] rfl rfl Try.call105 (Q4 w13 s r.xk bs os qw qm qM qG qC xu jb ja Xn (qH (H.get 0 rfl) 0 3) (H.get 1 rfl).1 (H.get 2 rfl).1 (H.get 6 rfl).1) ?_)
      rintro _ w16 rfl x17
      replace H := H.ext x17
      refine qU 64 rfl rfl ?_
      refine sps [.bool (!(dec (zZ s.qI r.xk))), .bool (!(dec (zZ s.qI r.xk))), .bool (!(dec (zZ s.qI r.xk)))] ?_
      cases h18 : (!(dec (zZ s.qI r.xk)))
      ·skip
       replace h18 := qY h18
       replace h18 := jZ h18
       refine qU 73 rfl rfl ?_
       refine sp (pp bs os) ?_
       refine qU 73 rfl rfl ?_
       refine sp (pp br or) ?_
       refine qU 73 rfl rfl ?_
       refine sp (pp br or) ?_
       refine qU 73 rfl rfl ?_
       refine sw (qO br (or) 5 Try.underlying92 rfl rfl Try.sizeOf22 rfl ?_)
       refine qU 73 rfl rfl ?_
       refine sw (qF (.slice jL r.xw.length jK) Try.isAgg22 rfl (H.zh 3 rfl 5 rfl) ?_)
       refine qU 73 rfl rfl ?_
       refine sw (xf #[pp bs os, .slice jL r.xw.length jK] rfl rfl Try.call105 (Q4 w16 s r.xw bs os qw qm qM qG qC xu jL jK XM (qH (H.get 0 rfl) 0 3) (H.get 1 rfl).1 (H.get 2 rfl).1 (H.get 7 rfl).1) ?_)
       rintro _ w19 rfl x20
       replace H := H.ext x20
       refine qU 73 rfl rfl ?_
       refine sps [.bool (!(dec (zZ s.qI r.xw))), .bool (!(dec (zZ s.qI r.xw))), .bool (!(dec (zZ s.qI r.xw)))] ?_
       cases h21 : (!(dec (zZ s.qI r.xw)))
       ·skip
        replace h21 := qY h21
        replace h21 := jZ h21
        refine qU 82 rfl rfl ?_
        refine sp (pp bs os) ?_
        refine qU 82 rfl rfl ?_
        refine sp (pp br or) ?_
        refine qU 82 rfl rfl ?_
        refine sp (pp br or) ?_
        refine qU 82 rfl rfl ?_
        refine sw (qO br (or) 6 Try.underlying92 rfl rfl Try.sizeOf22 rfl ?_)
        refine qU 82 rfl rfl ?_
        refine sw (qF (.slice Qy r.zo.length Qx) Try.isAgg22 rfl (H.zh 3 rfl 6 rfl) ?_)
        refine qU 82 rfl rfl ?_
        refine sw (xf #[pp bs os, .slice Qy r.zo.length Qx] rfl rfl Try.call105 (Q4 w19 s r.zo bs os qw qm qM qG qC xu Qy Qx FrOut (qH (H.get 0 rfl) 0 3) (H.get 1 rfl).1 (H.get 2 rfl).1 (H.get 8 rfl).1) ?_)
        rintro _ w22 rfl x23
        replace H := H.ext x23
        refine qU 82 rfl rfl ?_
        refine sps [.bool (!(dec (zZ s.qI r.zo))), .bool (!(dec (zZ s.qI r.zo))), .bool (!(dec (zZ s.qI r.zo)))] ?_
        cases h24 : (!(dec (zZ s.qI r.zo)))
        ·skip
         replace h24 := qY h24
         replace h24 := jZ h24
         refine qU 91 rfl rfl ?_
         refine sp (pp br or) ?_
         refine qU 91 rfl rfl ?_
         refine sp (pp br or) ?_
         refine qU 91 rfl rfl ?_
         refine sw (qO br (or) 2 Try.underlying92 rfl rfl Try.sizeOf22 rfl ?_)
         refine qU 91 rfl rfl ?_
         refine sw (qF (.slice vP r.qR.length vO) Try.isAgg22 rfl (H.zh 3 rfl 2 rfl) ?_)
         refine qU 91 rfl rfl ?_
         refine sw (xf #[.slice vP r.qR.length vO] rfl rfl Try.call106 (l01Size_ok w22 r.qR vP vO Q5 (H.get 4 rfl).1 (by first | assumption | exact jF (by assumption) | exact Xm (by assumption))) ?_)
         rintro _ w25 rfl x26
         replace H := H.ext x26
         refine qU 91 rfl rfl ?_
         refine sps [.bool ((sumL r.qR : Int) == 0), .bool ((sumL r.qR : Int) == 0)] ?_
         refine qA (t_n ?_)
         refine qX ((sumL r.qR : Int) == 0) rfl (fun h27 => ?_) (fun h27 => ?_)
         ·skip
          replace h27 := eq_of_beq h27
          refine qo (qB ?_)
          refine sp (.bool false) ?_
          refine qA (t_n (xE (t_r ?_)))
          refine ret1 (.bool false) rfl rfl ⟨_, rfl, ?_, H.base⟩
          rw [xB (fun h => by obtain ⟨h1, h2, h3, h4, h5, h6, h7, h8, h9, h10, h11⟩ := h; first | contradiction | omega | exact h3 ⟨‹_›, ‹_›⟩ | (obtain ⟨q1, q2, q3, q4, q5⟩ := h11 k (by omega); first | contradiction | omega | (have := q5 (by omega); omega)))]
         replace h27 := ne_of_beq_false h27
         refine xy (t_n (qo (qo (qB ?_))))
         refine sp (.int .i64 0) ?_
         refine qA (t_n (xC ?_))
         refine vw (fun m' ρ w28 => ∃ (junk : Env) (k : Nat), ρ = upd (upd (upd junk 0 (pp bs os)) 1 (pp br or)) 5 (.int .i64 k) ∧ (k ≤ r.qE.length) ∧ (IntosTo s r k) ∧ m' = r.qE.length - k ∧ St w w28 [] [atF bs os [.int .i64 s.qI, .slice qw s.qf.length qm, .slice qG s.qg.length qC], isF false qM (.slice qw s.qf.length qm) s.qf, isF false xu (.slice qG s.qg.length qC) s.qg, atF br or [.int .i64 r.qy, .int .i64 r.zk, .slice vP r.qR.length vO, .slice jv r.xg.length jr, .slice jb r.xk.length ja, .slice jL r.xw.length jK, .slice Qy r.zo.length Qx, .slice vF r.qE.length zU, .bool false], isF false Q5 (.slice vP r.qR.length vO) r.qR, isF false Xw (.slice jv r.xg.length jr) r.xg, isF false Xn (.slice jb r.xk.length ja) r.xk, isF false XM (.slice jL r.xw.length jK) r.xw, isF false FrOut (.slice Qy r.zo.length Qx) r.zo, isF false FrInto (.slice vF r.qE.length zU) r.qE]) (r.qE.length - 0) ⟨_, 0, (by exact qj (qj (qj (rfl) rfl) rfl) rfl), (by omega), (by exact fun j hj => by omega), rfl, H⟩ ?_
         clear H
         rintro m' ρ w29 ⟨junk, k, rfl, i0, i1, rfl, H⟩
         refine qo (qo (qB ?_))
         refine sps [.int .i64 k, pp br or, pp br or] ?_
         refine sw (qO br (or) 7 Try.underlying92 rfl rfl Try.sizeOf90 rfl ?_)
         refine sw (qF (.slice vF r.qE.length zU) Try.isAgg90 rfl (H.zh 3 rfl 7 rfl) ?_)
         refine sw (vI Try.underlying90 vF r.qE.length zU rfl ?_)
         refine sp (.bool (decide ((k : Int) < r.qE.length))) ?_
         refine qA (t_n ?_)
         refine qX (decide ((k : Int) < r.qE.length)) rfl (fun h30 => ?_) (fun h30 => ?_)
         ·skip
          replace h30 := of_decide_eq_true h30
          refine xy (t_n (qo (xC (qo (qB ?_)))))
          refine sps [pp br or, pp br or] ?_
          refine sw (qO br (or) 7 Try.underlying92 rfl rfl Try.sizeOf90 rfl ?_)
          refine sw (qF (.slice vF r.qE.length zU) Try.isAgg90 rfl (H.zh 3 rfl 7 rfl) ?_)
          refine sp (.int .i64 k) ?_
          obtain ⟨b31, o32, rfl⟩ := H.addr 9 rfl (by omega)
          obtain ⟨Vs, Vr, Fe33Bag, H⟩ := H.jQ 9 rfl k k (by omega) (by omega) (by omega)
          refine sw (xO k Try.underlying90 ti108 rfl rfl (by omega) (by omega) ?_)
          refine sp (pp b31 (o32 + (k : Int).toNat * 2)) ?_
          refine qA (t_n (qo (qo ?_)))
          refine yg rfl H fun H => ?_
          refine rtp 0 (pp b31 (o32 + (k : Int).toNat * 2)) H ?_
          refine rtp 1 (pp b31 (o32 + (k : Int).toNat * 2)) H ?_
          refine rt 2 (pp b31 (o32 + (k : Int).toNat * 2 + 0)) (xF b31 (o32 + (k : Int).toNat * 2) 0 Try.underlying108 rfl rfl Try.sizeOf2 rfl) H ?_
          refine rt 3 (.int .i64 ((r.qE[k]!).qy)) (xm Try.isAgg2 rfl (fun _ h => h.zh 1 rfl 0 rfl)) H ?_
          refine rtp 4 (pp bs os) H ?_
          refine rtp 5 (pp bs os) H ?_
          refine rt 6 (pp bs (os + 1)) (xF bs (os) 1 Try.underlying30 rfl rfl Try.sizeOf22 rfl) H ?_
          refine rt 7 (.slice qw s.qf.length qm) (xm Try.isAgg22 rfl (fun _ h => h.zh 2 rfl 1 rfl)) H ?_
          refine rt 8 (.int .i64 s.qf.length) (y_len Try.underlying22 qw s.qf.length qm rfl) H ?_
          refine rt 9 (.int .i64 (s.qf.length - 1)) (y_sub s.qf.length 1 rfl rfl (by omega)) H ?_
          refine xn [10] (by kernel_rfl) (by simp) (zg rfl ?_ xq)
          refine xf #[.int .i64 ((r.qE[k]!).qy), .int .i64 0, .int .i64 (s.qf.length - 1)] rfl rfl Try.call55 (l00In_ok w29.drew ((r.qE[k]!).qy) 0 (s.qf.length - 1)) ?_
          rintro _ w35 rfl x36
          replace H := H.ext x36
          refine ⟨H, ?_⟩
          refine rtp 11 (.bool (!(inR ((r.qE[k]!).qy) 0 (s.qf.length - 1)))) H ?_
          refine rtp 12 (.bool (!(inR ((r.qE[k]!).qy) 0 (s.qf.length - 1)))) H ?_
          cases h37 : (!(inR ((r.qE[k]!).qy) 0 (s.qf.length - 1)))
          ·skip
           replace h37 := qY h37
           replace h37 := Q9.1 h37
           refine rgp 13 (pp bs os) 126 H ?_
           refine rgp 14 (pp b31 (o32 + (k : Int).toNat * 2)) 126 H ?_
           refine rgp 15 (pp b31 (o32 + (k : Int).toNat * 2)) 126 H ?_
           refine rg 16 (pp b31 (o32 + (k : Int).toNat * 2 + 0)) 126 (xF b31 (o32 + (k : Int).toNat * 2) 0 Try.underlying108 rfl rfl Try.sizeOf2 rfl) H ?_
           refine rg 17 (.int .i64 ((r.qE[k]!).qy)) 126 (xm Try.isAgg2 rfl (fun _ h => h.zh 1 rfl 0 rfl)) H ?_
           refine rgp 18 (pp br or) 126 H ?_
           refine rgp 19 (pp br or) 126 H ?_
           refine rg 20 (pp br (or + 0)) 126 (xF br (or) 0 Try.underlying92 rfl rfl Try.sizeOf2 rfl) H ?_
           refine rg 21 (.int .i64 r.qy) 126 (xm Try.isAgg2 rfl (fun _ h => h.zh 5 rfl 0 rfl)) H ?_
           refine xn [22] (by kernel_rfl) (by simp) (r_opG rfl (e := 126) rfl rfl ?_ xq)
           refine xf #[pp bs os, .int .i64 ((r.qE[k]!).qy), .int .i64 r.qy] rfl rfl Try.call117 (l02In_ok w35 s ((r.qE[k]!).qy) r.qy bs os qw qm qM qG qC xu (qH (H.get 2 rfl) 0 3) (H.get 3 rfl).1 (H.get 4 rfl).1 (by assumption) (by assumption)) ?_
           rintro _ w38 rfl x39
           replace H := H.ext x39
           refine ⟨H, ?_⟩
           refine rgp 23 (.bool (!(dec (Lies s.qf r.qy ((r.qE[k]!).qy))))) 126 H ?_
           refine rtp 24 (.bool (!(dec (Lies s.qf r.qy ((r.qE[k]!).qy))))) H ?_
           refine rtp 25 (.bool (!(dec (Lies s.qf r.qy ((r.qE[k]!).qy))))) H ?_
           cases h40 : (!(dec (Lies s.qf r.qy ((r.qE[k]!).qy))))
           ·skip
            replace h40 := qY h40
            replace h40 := jZ h40
            refine rgp 26 (pp bs os) 139 H ?_
            refine rgp 27 (pp b31 (o32 + (k : Int).toNat * 2)) 139 H ?_
            refine rgp 28 (pp b31 (o32 + (k : Int).toNat * 2)) 139 H ?_
            refine rg 29 (pp b31 (o32 + (k : Int).toNat * 2 + 1)) 139 (xF b31 (o32 + (k : Int).toNat * 2) 1 Try.underlying108 rfl rfl Try.sizeOf22 rfl) H ?_
            refine rg 30 (.slice Vs (((r.qE[k]!).vK).length) Vr) 139 (xm Try.isAgg22 rfl (fun _ h => h.zh 1 rfl 1 rfl)) H ?_
            refine xn [31] (by kernel_rfl) (by simp) (r_opG rfl (e := 139) rfl rfl ?_ xq)
            refine xf #[pp bs os, .slice Vs (((r.qE[k]!).vK).length) Vr] rfl rfl Try.call105 (Q4 w38 s ((r.qE[k]!).vK) bs os qw qm qM qG qC xu Vs Vr Fe33Bag (qH (H.get 2 rfl) 0 3) (H.get 3 rfl).1 (H.get 4 rfl).1 (H.get 0 rfl).1) ?_
            rintro _ w41 rfl x42
            replace H := H.ext x42
            refine ⟨H, ?_⟩
            refine rgp 32 (.bool (!(dec (zZ s.qI ((r.qE[k]!).vK))))) 139 H ?_
            refine rtp 33 (.bool (!(dec (zZ s.qI ((r.qE[k]!).vK))))) H ?_
            refine rtp 34 (.bool (!(dec (zZ s.qI ((r.qE[k]!).vK))))) H ?_
            cases h43 : (!(dec (zZ s.qI ((r.qE[k]!).vK))))
            ·skip
             replace h43 := qY h43
             replace h43 := jZ h43
             refine rgp 35 (pp b31 (o32 + (k : Int).toNat * 2)) 148 H ?_
             refine rgp 36 (pp b31 (o32 + (k : Int).toNat * 2)) 148 H ?_
             refine rg 37 (pp b31 (o32 + (k : Int).toNat * 2 + 1)) 148 (xF b31 (o32 + (k : Int).toNat * 2) 1 Try.underlying108 rfl rfl Try.sizeOf22 rfl) H ?_
             refine rg 38 (.slice Vs (((r.qE[k]!).vK).length) Vr) 148 (xm Try.isAgg22 rfl (fun _ h => h.zh 1 rfl 1 rfl)) H ?_
             refine xn [39] (by kernel_rfl) (by simp) (r_opG rfl (e := 148) rfl rfl ?_ xq)
             refine xf #[.slice Vs (((r.qE[k]!).vK).length) Vr] rfl rfl Try.call106 (l01Size_ok w41 ((r.qE[k]!).vK) Vs Vr Fe33Bag (H.get 0 rfl).1 (by first | assumption | exact jF (by assumption) | exact Xm (by assumption))) ?_
             rintro _ w44 rfl x45
             replace H := H.ext x45
             refine ⟨H, ?_⟩
             refine rgp 40 (.bool ((sumL ((r.qE[k]!).vK) : Int) == 0)) 148 H ?_
             refine rtp 41 (.bool ((sumL ((r.qE[k]!).vK) : Int) == 0)) H ?_
             refine xM (by kernel_rfl) (t_n ?_)
             refine qX ((sumL ((r.qE[k]!).vK) : Int) == 0) rfl (fun h46 => ?_) (fun h46 => ?_)
             ·skip
              replace h46 := eq_of_beq h46
              refine qo (qB ?_)
              refine sp (.bool false) ?_
              refine qA (t_n (xE (t_r (b_r (t_r (t_r (b_r (t_r ?_))))))))
              refine ret1 (.bool false) rfl rfl ⟨_, rfl, ?_, H.base⟩
              rw [xB (fun h => by obtain ⟨h1, h2, h3, h4, h5, h6, h7, h8, h9, h10, h11⟩ := h; first | contradiction | omega | exact h3 ⟨‹_›, ‹_›⟩ | (obtain ⟨q1, q2, q3, q4, q5⟩ := h11 k (by omega); first | contradiction | omega | (have := q5 (by omega); omega)))]
             replace h46 := ne_of_beq_false h46
             refine xy (t_n (qo ?_))
             refine yg rfl H fun H => ?_
             refine rtp 0 (.int .i64 k) H ?_
             refine rtp 1 (.bool (decide ((k : Int) > 0))) H ?_
             refine rtp 2 (.bool (decide ((k : Int) > 0))) H ?_
             cases h48 : (decide ((k : Int) > 0))
             ·skip
              replace h48 := of_decide_eq_false h48
              refine zS [3, 4, 5, 6, 7, 8, 9, 10, 11, 12, 13, 14, 15, 16] 14 (H) ?_
              refine rtp 17 (.bool false) H ?_
              refine xM (by kernel_rfl) (t_n ?_)
              refine qX false rfl (fun h => absurd h (by decide)) (fun _ => ?_)
              refine xy (b_n (t_n (qB ?_)))
              refine sp (.int .i64 k) ?_
              refine sw (vz k 1 rfl rfl (by omega) ?_)
              refine sp (.int .i64 (k + 1)) ?_
              refine qA ?_
              refine xH (m' := r.qE.length - (k + 1)) (by omega) ⟨_, k + 1, (by exact qj (qj (qj (rfl) rfl) rfl) rfl), ?_, ?_, rfl, H.sel _ (.refl _) _ (by simp)⟩
              · omega
              · exact i1.succ ⟨‹_›, ‹_›, ‹_›, ‹_›, fun hk => by omega⟩
             replace h48 := of_decide_eq_true h48
             refine rgp 3 (pp br or) 158 H ?_
             refine rgp 4 (pp br or) 158 H ?_
             refine rg 5 (pp br (or + 7)) 158 (xF br (or) 7 Try.underlying92 rfl rfl Try.sizeOf90 rfl) H ?_
             refine rg 6 (.slice (aa b31 o32) r.qE.length zU) 158 (xm Try.isAgg90 rfl (fun _ h => h.zh 5 rfl 7 rfl)) H ?_
             refine rgp 7 (.int .i64 k) 158 H ?_
             refine rg 8 (.int .i64 (k - 1)) 158 (y_sub k 1 rfl rfl (by omega)) H ?_
             obtain ⟨ae49Bag, ce49Bag, Fe49Bag, H⟩ := H.jQ 11 rfl (k - 1) (k - 1) (by omega) (by omega) (by omega)
             refine rg 9 (pp b31 (o32 + (k - 1 : Int).toNat * 2)) 158 (xK b31 (o32) r.qE.length zU (k - 1) Try.underlying90 ti108 rfl rfl (by omega) (by omega)) (H.sel _ (.refl _) _ (fun _ h => List.mem_cons_of_mem _ (List.mem_cons_of_mem _ (h)))) ?_
             refine rg 10 (pp b31 (o32 + (k - 1 : Int).toNat * 2 + 0)) 158 (xF b31 (o32 + (k - 1 : Int).toNat * 2) 0 Try.underlying108 rfl rfl Try.sizeOf2 rfl) (H.sel _ (.refl _) _ (fun _ h => List.mem_cons_of_mem _ (List.mem_cons_of_mem _ (h)))) ?_
             refine rgp 12 (pp b31 (o32 + (k : Int).toNat * 2)) 158 (H.sel _ (.refl _) _ (fun _ h => List.mem_cons_of_mem _ (List.mem_cons_of_mem _ (h)))) ?_
             refine rgp 13 (pp b31 (o32 + (k : Int).toNat * 2)) 158 (H.sel _ (.refl _) _ (fun _ h => List.mem_cons_of_mem _ (List.mem_cons_of_mem _ (h)))) ?_
             refine rg 14 (pp b31 (o32 + (k : Int).toNat * 2 + 0)) 158 (xF b31 (o32 + (k : Int).toNat * 2) 0 Try.underlying108 rfl rfl Try.sizeOf2 rfl) (H.sel _ (.refl _) _ (fun _ h => List.mem_cons_of_mem _ (List.mem_cons_of_mem _ (h)))) ?_
             refine rg 15 (.int .i64 ((r.qE[k]!).qy)) 158 (xm Try.isAgg2 rfl (fun _ h => h.zh 1 rfl 0 rfl)) (H.sel _ (.refl _) _ (fun _ h => List.mem_cons_of_mem _ (List.mem_cons_of_mem _ (h)))) ?_
             refine xn [11] (by kernel_rfl) (by simp) (r_opG rfl (e := 158) rfl rfl ?_ xq)
             refine qF (.int .i64 ((r.qE[k - 1]!).qy)) Try.isAgg2 rfl (H.zh 1 rfl 0 rfl) ?_
             refine ⟨H.sel _ (.refl _) _ (fun _ h => List.mem_cons_of_mem _ (List.mem_cons_of_mem _ (h))), ?_⟩
             refine rgp 16 (.bool (decide (((r.qE[k - 1]!).qy : Int) ≥ ((r.qE[k]!).qy)))) 158 (H.sel _ (.refl _) _ (fun _ h => List.mem_cons_of_mem _ (List.mem_cons_of_mem _ (h)))) ?_
             refine rtp 17 (.bool (decide (((r.qE[k - 1]!).qy : Int) ≥ ((r.qE[k]!).qy)))) (H.sel _ (.refl _) _ (fun _ h => List.mem_cons_of_mem _ (List.mem_cons_of_mem _ (h)))) ?_
             refine xM (by kernel_rfl) (t_n ?_)
             refine qX (decide (((r.qE[k - 1]!).qy : Int) ≥ ((r.qE[k]!).qy))) rfl (fun h50 => ?_) (fun h50 => ?_)
             ·skip
              replace h50 := of_decide_eq_true h50
              refine qo (qB ?_)
              refine sp (.bool false) ?_
              refine qA (t_n (xE (b_r (t_r (t_r (b_r (t_r ?_)))))))
              refine ret1 (.bool false) rfl rfl ⟨_, rfl, ?_, H.base⟩
              rw [xB (fun h => by obtain ⟨h1, h2, h3, h4, h5, h6, h7, h8, h9, h10, h11⟩ := h; first | contradiction | omega | exact h3 ⟨‹_›, ‹_›⟩ | (obtain ⟨q1, q2, q3, q4, q5⟩ := h11 k (by omega); first | contradiction | omega | (have := q5 (by omega); omega)))]
             replace h50 := of_decide_eq_false h50
             refine xy (b_n (t_n (qB ?_)))
             refine sp (.int .i64 k) ?_
             refine sw (vz k 1 rfl rfl (by omega) ?_)
             refine sp (.int .i64 (k + 1)) ?_
             refine qA ?_
             refine xH (m' := r.qE.length - (k + 1)) (by omega) ⟨_, k + 1, (by exact qj (qj (qj (rfl) rfl) rfl) rfl), ?_, ?_, rfl, H.sel _ (.refl _) _ (by simp)⟩
             · omega
             · exact i1.succ ⟨‹_›, ‹_›, ‹_›, ‹_›, fun hk => by omega⟩
            replace h43 := xh h43
            replace h43 := zt h43
            refine zS [35, 36, 37, 38, 39, 40] 6 (H) ?_
            refine rtp 41 (.bool true) H ?_
            refine xM (by kernel_rfl) (t_n ?_)
            refine qX true rfl (fun _ => ?_) (fun h => absurd h (by decide))
            refine qo (qB ?_)
            refine sp (.bool false) ?_
            refine qA (t_n (xE (t_r (b_r (t_r (t_r (b_r (t_r ?_))))))))
            refine ret1 (.bool false) rfl rfl ⟨_, rfl, ?_, H.base⟩
            rw [xB (fun h => by obtain ⟨h1, h2, h3, h4, h5, h6, h7, h8, h9, h10, h11⟩ := h; first | contradiction | omega | exact h3 ⟨‹_›, ‹_›⟩ | (obtain ⟨q1, q2, q3, q4, q5⟩ := h11 k (by omega); first | contradiction | omega | (have := q5 (by omega); omega)))]
           replace h40 := xh h40
           replace h40 := zt h40
           refine zS [26, 27, 28, 29, 30, 31, 32] 7 (H) ?_
           refine rtp 33 (.bool true) H ?_
           refine rtp 34 (.bool true) H ?_
           refine zS [35, 36, 37, 38, 39, 40] 6 (H) ?_
           refine rtp 41 (.bool true) H ?_
           refine xM (by kernel_rfl) (t_n ?_)
           refine qX true rfl (fun _ => ?_) (fun h => absurd h (by decide))
           refine qo (qB ?_)
           refine sp (.bool false) ?_
           refine qA (t_n (xE (t_r (b_r (t_r (t_r (b_r (t_r ?_))))))))
           refine ret1 (.bool false) rfl rfl ⟨_, rfl, ?_, H.base⟩
           rw [xB (fun h => by obtain ⟨h1, h2, h3, h4, h5, h6, h7, h8, h9, h10, h11⟩ := h; first | contradiction | omega | exact h3 ⟨‹_›, ‹_›⟩ | (obtain ⟨q1, q2, q3, q4, q5⟩ := h11 k (by omega); first | contradiction | omega | (have := q5 (by omega); omega)))]
          replace h37 := xh h37
          replace h37 := XB h37
          refine zS [13, 14, 15, 16, 17, 18, 19, 20, 21, 22, 23] 11 (H) ?_
          refine rtp 24 (.bool true) H ?_
          refine rtp 25 (.bool true) H ?_
          refine zS [26, 27, 28, 29, 30, 31, 32] 7 (H) ?_
          refine rtp 33 (.bool true) H ?_
          refine rtp 34 (.bool true) H ?_
          refine zS [35, 36, 37, 38, 39, 40] 6 (H) ?_
          refine rtp 41 (.bool true) H ?_
          refine xM (by kernel_rfl) (t_n ?_)
          refine qX true rfl (fun _ => ?_) (fun h => absurd h (by decide))
          refine qo (qB ?_)
          refine sp (.bool false) ?_
          refine qA (t_n (xE (t_r (b_r (t_r (t_r (b_r (t_r ?_))))))))
          refine ret1 (.bool false) rfl rfl ⟨_, rfl, ?_, H.base⟩
          rw [xB (fun h => by obtain ⟨h1, h2, h3, h4, h5, h6, h7, h8, h9, h10, h11⟩ := h; first | contradiction | omega | exact h3 ⟨‹_›, ‹_›⟩ | (obtain ⟨q1, q2, q3, q4, q5⟩ := h11 k (by omega); first | contradiction | omega | (have := q5 (by omega); omega)))]
         replace h30 := of_decide_eq_false h30
         refine ve (t_x (t_x (b_x (t_n (qo (qB ?_))))))
         refine sp (.bool true) ?_
         refine qA (t_n (xE ?_))
         refine ret1 (.bool true) rfl rfl ⟨_, rfl, ?_, H.base⟩
         obtain rfl : k = r.qE.length := by omega
         rw [yZ ⟨by assumption, by omega, by simp_all, by omega, by assumption, by assumption, by assumption, by assumption, by assumption, by assumption, i1⟩]
        replace h24 := xh h24
        replace h24 := zt h24
        refine zi [92, 93, 94, 95, 96, 97] ?_
        refine sp (.bool true) ?_
        refine qA (t_n ?_)
        refine qX true rfl (fun _ => ?_) (fun h => absurd h (by decide))
        refine qo (qB ?_)
        refine sp (.bool false) ?_
        refine qA (t_n (xE (t_r ?_)))
        refine ret1 (.bool false) rfl rfl ⟨_, rfl, ?_, H.base⟩
        rw [xB (fun h => by obtain ⟨h1, h2, h3, h4, h5, h6, h7, h8, h9, h10, h11⟩ := h; first | contradiction | omega | exact h3 ⟨‹_›, ‹_›⟩ | (obtain ⟨q1, q2, q3, q4, q5⟩ := h11 k (by omega); first | contradiction | omega | (have := q5 (by omega); omega)))]
       replace h21 := xh h21
       replace h21 := zt h21
       refine zi [83, 84, 85, 86, 87, 88, 89] ?_
       refine sps [.bool true, .bool true] ?_
       refine zi [92, 93, 94, 95, 96, 97] ?_
       refine sp (.bool true) ?_
       refine qA (t_n ?_)
       refine qX true rfl (fun _ => ?_) (fun h => absurd h (by decide))
       refine qo (qB ?_)
       refine sp (.bool false) ?_
       refine qA (t_n (xE (t_r ?_)))
       refine ret1 (.bool false) rfl rfl ⟨_, rfl, ?_, H.base⟩
       rw [xB (fun h => by obtain ⟨h1, h2, h3, h4, h5, h6, h7, h8, h9, h10, h11⟩ := h; first | contradiction | omega | exact h3 ⟨‹_›, ‹_›⟩ | (obtain ⟨q1, q2, q3, q4, q5⟩ := h11 k (by omega); first | contradiction | omega | (have := q5 (by omega); omega)))]
      replace h18 := xh h18
      replace h18 := zt h18
      refine zi [74, 75, 76, 77, 78, 79, 80] ?_
      refine sps [.bool true, .bool true] ?_
      refine zi [83, 84, 85, 86, 87, 88, 89] ?_
      refine sps [.bool true, .bool true] ?_
      refine zi [92, 93, 94, 95, 96, 97] ?_
      refine sp (.bool true) ?_
      refine qA (t_n ?_)
      refine qX true rfl (fun _ => ?_) (fun h => absurd h (by decide))
      refine qo (qB ?_)
      refine sp (.bool false) ?_
      refine qA (t_n (xE (t_r ?_)))
      refine ret1 (.bool false) rfl rfl ⟨_, rfl, ?_, H.base⟩
      rw [xB (fun h => by obtain ⟨h1, h2, h3, h4, h5, h6, h7, h8, h9, h10, h11⟩ := h; first | contradiction | omega | exact h3 ⟨‹_›, ‹_›⟩ | (obtain ⟨q1, q2, q3, q4, q5⟩ := h11 k (by omega); first | contradiction | omega | (have := q5 (by omega); omega)))]
     replace h15 := xh h15
     replace h15 := zt h15
     refine zi [65, 66, 67, 68, 69, 70, 71] ?_
     refine sps [.bool true, .bool true] ?_
     refine zi [74, 75, 76, 77, 78, 79, 80] ?_
     refine sps [.bool true, .bool true] ?_
     refine zi [83, 84, 85, 86, 87, 88, 89] ?_
     refine sps [.bool true, .bool true] ?_
     refine zi [92, 93, 94, 95, 96, 97] ?_
     refine sp (.bool true) ?_
     refine qA (t_n ?_)
     refine qX true rfl (fun _ => ?_) (fun h => absurd h (by decide))
     refine qo (qB ?_)
     refine sp (.bool false) ?_
     refine qA (t_n (xE (t_r ?_)))
     refine ret1 (.bool false) rfl rfl ⟨_, rfl, ?_, H.base⟩
     rw [xB (fun h => by obtain ⟨h1, h2, h3, h4, h5, h6, h7, h8, h9, h10, h11⟩ := h; first | contradiction | omega | exact h3 ⟨‹_›, ‹_›⟩ | (obtain ⟨q1, q2, q3, q4, q5⟩ := h11 k (by omega); first | contradiction | omega | (have := q5 (by omega); omega)))]
    replace h12 := xh h12
    replace h12 := zt h12
    refine zi [56, 57, 58, 59, 60, 61, 62] ?_
    refine sps [.bool true, .bool true] ?_
    refine zi [65, 66, 67, 68, 69, 70, 71] ?_
    refine sps [.bool true, .bool true] ?_
    refine zi [74, 75, 76, 77, 78, 79, 80] ?_
    refine sps [.bool true, .bool true] ?_
    refine zi [83, 84, 85, 86, 87, 88, 89] ?_
    refine sps [.bool true, .bool true] ?_
    refine zi [92, 93, 94, 95, 96, 97] ?_
    refine sp (.bool true) ?_
    refine qA (t_n ?_)
    refine qX true rfl (fun _ => ?_) (fun h => absurd h (by decide))
    refine qo (qB ?_)
    refine sp (.bool false) ?_
    refine qA (t_n (xE (t_r ?_)))
    refine ret1 (.bool false) rfl rfl ⟨_, rfl, ?_, H.base⟩
    rw [xB (fun h => by obtain ⟨h1, h2, h3, h4, h5, h6, h7, h8, h9, h10, h11⟩ := h; first | contradiction | omega | exact h3 ⟨‹_›, ‹_›⟩ | (obtain ⟨q1, q2, q3, q4, q5⟩ := h11 k (by omega); first | contradiction | omega | (have := q5 (by omega); omega)))]
   rw [h8] at H
   refine rgp 26 (pp br or) 32 H ?_
   refine rgp 27 (pp br or) 32 H ?_
   refine rg 28 (pp br (or + 0)) 32 (xF br (or) 0 Try.underlying92 rfl rfl Try.sizeOf2 rfl) H ?_
   refine rg 29 (.int .i64 r.qy) 32 (xm Try.isAgg2 rfl (fun _ h => h.zh 3 rfl 0 rfl)) H ?_
   refine rgp 30 (.bool ((r.qy : Int) == 0)) 32 H ?_
   refine rgp 31 (.bool ((r.qy : Int) == 0)) 27 H ?_
   refine rtp 32 (.bool ((r.qy : Int) == 0)) H ?_
   refine rtp 33 (.bool ((r.qy : Int) == 0)) H ?_
   cases h51 : ((r.qy : Int) == 0)
   ·skip
    replace h51 := ne_of_beq_false h51
    refine rgp 34 (pp br or) 40 H ?_
    refine rgp 35 (pp br or) 40 H ?_
    refine rg 36 (pp br (or + 7)) 40 (xF br (or) 7 Try.underlying92 rfl rfl Try.sizeOf90 rfl) H ?_
    refine rg 37 (.slice vF r.qE.length zU) 40 (xm Try.isAgg90 rfl (fun _ h => h.zh 3 rfl 7 rfl)) H ?_
    refine rg 38 (.int .i64 r.qE.length) 40 (y_len Try.underlying90 vF r.qE.length zU rfl) H ?_
    refine rgp 39 (.bool (decide ((r.qE.length : Int) > 3))) 40 H ?_
    refine rtp 40 (.bool (decide ((r.qE.length : Int) > 3))) H ?_
    refine xM (by kernel_rfl) (t_n ?_)
    refine qX (decide ((r.qE.length : Int) > 3)) rfl (fun h52 => ?_) (fun h52 => ?_)
    ·skip
     replace h52 := of_decide_eq_true h52
     refine qo (qB ?_)
     refine sp (.bool false) ?_
     refine qA (t_n (xE (t_r ?_)))
     refine ret1 (.bool false) rfl rfl ⟨_, rfl, ?_, H.base⟩
     rw [xB (fun h => by obtain ⟨h1, h2, h3, h4, h5, h6, h7, h8, h9, h10, h11⟩ := h; first | contradiction | omega | exact h3 ⟨‹_›, ‹_›⟩ | (obtain ⟨q1, q2, q3, q4, q5⟩ := h11 k (by omega); first | contradiction | omega | (have := q5 (by omega); omega)))]
    replace h52 := of_decide_eq_false h52
    refine xy (t_n (qo (qo (qB ?_))))
    refine sps [pp bs os, pp br or, pp br or] ?_
    refine sw (qO br (or) 2 Try.underlying92 rfl rfl Try.sizeOf22 rfl ?_)
    refine sw (qF (.slice vP r.qR.length vO) Try.isAgg22 rfl (H.zh 3 rfl 2 rfl) ?_)
    refine sw (xf #[pp bs os, .slice vP r.qR.length vO] rfl rfl Try.call105 (Q4 w5 s r.qR bs os qw qm qM qG qC xu vP vO Q5 (qH (H.get 0 rfl) 0 3) (H.get 1 rfl).1 (H.get 2 rfl).1 (H.get 4 rfl).1) ?_)
    rintro _ w53 rfl x54
    replace H := H.ext x54
    refine sps [.bool (!(dec (zZ s.qI r.qR))), .bool (!(dec (zZ s.qI r.qR)))] ?_
    cases h55 : (!(dec (zZ s.qI r.qR)))
    ·skip
     replace h55 := qY h55
     replace h55 := jZ h55
     refine qU 55 rfl rfl ?_
     refine sp (pp bs os) ?_
     refine qU 55 rfl rfl ?_
     refine sp (pp br or) ?_
     refine qU 55 rfl rfl ?_
     refine sp (pp br or) ?_
     refine qU 55 rfl rfl ?_
     refine sw (qO br (or) 3 Try.underlying92 rfl rfl Try.sizeOf22 rfl ?_)
     refine qU 55 rfl rfl ?_
     refine sw (qF (.slice jv r.xg.length jr) Try.isAgg22 rfl (H.zh 3 rfl 3 rfl) ?_)
     refine qU 55 rfl rfl ?_
     refine sw (xf #[pp bs os, .slice jv r.xg.length jr] rfl rfl Try.call105 (Q4 w53 s r.xg bs os qw qm qM qG qC xu jv jr Xw (qH (H.get 0 rfl) 0 3) (H.get 1 rfl).1 (H.get 2 rfl).1 (H.get 5 rfl).1) ?_)
     rintro _ w56 rfl x57
     replace H := H.ext x57
     refine qU 55 rfl rfl ?_
     refine sps [.bool (!(dec (zZ s.qI r.xg))), .bool (!(dec (zZ s.qI r.xg))), .bool (!(dec (zZ s.qI r.xg)))] ?_
     cases h58 : (!(dec (zZ s.qI r.xg)))
     ·skip
      replace h58 := qY h58
      replace h58 := jZ h58
      refine qU 64 rfl rfl ?_
      refine sp (pp bs os) ?_
      refine qU 64 rfl rfl ?_
      refine sp (pp br or) ?_
      refine qU 64 rfl rfl ?_
      refine sp (pp br or) ?_
      refine qU 64 rfl rfl ?_
      refine sw (qO br (or) 4 Try.underlying92 rfl rfl Try.sizeOf22 rfl ?_)
      refine qU 64 rfl rfl ?_
      refine sw (qF (.slice jb r.xk.length ja) Try.isAgg22 rfl (H.zh 3 rfl 4 rfl) ?_)
      refine qU 64 rfl rfl ?_
      refine sw (xf #[pp bs os, .slice jb r.xk.length ja] rfl rfl Try.call105 (Q4 w56 s r.xk bs os qw qm qM qG qC xu jb ja Xn (qH (H.get 0 rfl) 0 3) (H.get 1 rfl).1 (H.get 2 rfl).1 (H.get 6 rfl).1) ?_)
      rintro _ w59 rfl x60
      replace H := H.ext x60
      refine qU 64 rfl rfl ?_
      refine sps [.bool (!(dec (zZ s.qI r.xk))), .bool (!(dec (zZ s.qI r.xk))), .bool (!(dec (zZ s.qI r.xk)))] ?_
      cases h61 : (!(dec (zZ s.qI r.xk)))
      ·skip
       replace h61 := qY h61
       replace h61 := jZ h61
       refine qU 73 rfl rfl ?_
       refine sp (pp bs os) ?_
       refine qU 73 rfl rfl ?_
       refine sp (pp br or) ?_
       refine qU 73 rfl rfl ?_
       refine sp (pp br or) ?_
       refine qU 73 rfl rfl ?_
       refine sw (qO br (or) 5 Try.underlying92 rfl rfl Try.sizeOf22 rfl ?_)
       refine qU 73 rfl rfl ?_
       refine sw (qF (.slice jL r.xw.length jK) Try.isAgg22 rfl (H.zh 3 rfl 5 rfl) ?_)
       refine qU 73 rfl rfl ?_
       refine sw (xf #[pp bs os, .slice jL r.xw.length jK] rfl rfl Try.call105 (Q4 w59 s r.xw bs os qw qm qM qG qC xu jL jK XM (qH (H.get 0 rfl) 0 3) (H.get 1 rfl).1 (H.get 2 rfl).1 (H.get 7 rfl).1) ?_)
       rintro _ w62 rfl x63
       replace H := H.ext x63
       refine qU 73 rfl rfl ?_
       refine sps [.bool (!(dec (zZ s.qI r.xw))), .bool (!(dec (zZ s.qI r.xw))), .bool (!(dec (zZ s.qI r.xw)))] ?_
       cases h64 : (!(dec (zZ s.qI r.xw)))
       ·skip
        replace h64 := qY h64
        replace h64 := jZ h64
        refine qU 82 rfl rfl ?_
        refine sp (pp bs os) ?_
        refine qU 82 rfl rfl ?_
        refine sp (pp br or) ?_
        refine qU 82 rfl rfl ?_
        refine sp (pp br or) ?_
        refine qU 82 rfl rfl ?_
        refine sw (qO br (or) 6 Try.underlying92 rfl rfl Try.sizeOf22 rfl ?_)
        refine qU 82 rfl rfl ?_
        refine sw (qF (.slice Qy r.zo.length Qx) Try.isAgg22 rfl (H.zh 3 rfl 6 rfl) ?_)
        refine qU 82 rfl rfl ?_
        refine sw (xf #[pp bs os, .slice Qy r.zo.length Qx] rfl rfl Try.call105 (Q4 w62 s r.zo bs os qw qm qM qG qC xu Qy Qx FrOut (qH (H.get 0 rfl) 0 3) (H.get 1 rfl).1 (H.get 2 rfl).1 (H.get 8 rfl).1) ?_)
        rintro _ w65 rfl x66
        replace H := H.ext x66
        refine qU 82 rfl rfl ?_
        refine sps [.bool (!(dec (zZ s.qI r.zo))), .bool (!(dec (zZ s.qI r.zo))), .bool (!(dec (zZ s.qI r.zo)))] ?_
        cases h67 : (!(dec (zZ s.qI r.zo)))
        ·skip
         replace h67 := qY h67
         replace h67 := jZ h67
         refine qU 91 rfl rfl ?_
         refine sp (pp br or) ?_
         refine qU 91 rfl rfl ?_
         refine sp (pp br or) ?_
         refine qU 91 rfl rfl ?_
         refine sw (qO br (or) 2 Try.underlying92 rfl rfl Try.sizeOf22 rfl ?_)
         refine qU 91 rfl rfl ?_
         refine sw (qF (.slice vP r.qR.length vO) Try.isAgg22 rfl (H.zh 3 rfl 2 rfl) ?_)
         refine qU 91 rfl rfl ?_
         refine sw (xf #[.slice vP r.qR.length vO] rfl rfl Try.call106 (l01Size_ok w65 r.qR vP vO Q5 (H.get 4 rfl).1 (by first | assumption | exact jF (by assumption) | exact Xm (by assumption))) ?_)
         rintro _ w68 rfl x69
         replace H := H.ext x69
         refine qU 91 rfl rfl ?_
         refine sps [.bool ((sumL r.qR : Int) == 0), .bool ((sumL r.qR : Int) == 0)] ?_
         refine qA (t_n ?_)
         refine qX ((sumL r.qR : Int) == 0) rfl (fun h70 => ?_) (fun h70 => ?_)
         ·skip
          replace h70 := eq_of_beq h70
          refine qo (qB ?_)
          refine sp (.bool false) ?_
          refine qA (t_n (xE (t_r ?_)))
          refine ret1 (.bool false) rfl rfl ⟨_, rfl, ?_, H.base⟩
          rw [xB (fun h => by obtain ⟨h1, h2, h3, h4, h5, h6, h7, h8, h9, h10, h11⟩ := h; first | contradiction | omega | exact h3 ⟨‹_›, ‹_›⟩ | (obtain ⟨q1, q2, q3, q4, q5⟩ := h11 k (by omega); first | contradiction | omega | (have := q5 (by omega); omega)))]
         replace h70 := ne_of_beq_false h70
         refine xy (t_n (qo (qo (qB ?_))))
         refine sp (.int .i64 0) ?_
         refine qA (t_n (xC ?_))
         refine vw (fun m' ρ w71 => ∃ (junk : Env) (k : Nat), ρ = upd (upd (upd junk 0 (pp bs os)) 1 (pp br or)) 5 (.int .i64 k) ∧ (k ≤ r.qE.length) ∧ (IntosTo s r k) ∧ m' = r.qE.length - k ∧ St w w71 [] [atF bs os [.int .i64 s.qI, .slice qw s.qf.length qm, .slice qG s.qg.length qC], isF false qM (.slice qw s.qf.length qm) s.qf, isF false xu (.slice qG s.qg.length qC) s.qg, atF br or [.int .i64 r.qy, .int .i64 r.zk, .slice vP r.qR.length vO, .slice jv r.xg.length jr, .slice jb r.xk.length ja, .slice jL r.xw.length jK, .slice Qy r.zo.length Qx, .slice vF r.qE.length zU, .bool true], isF false Q5 (.slice vP r.qR.length vO) r.qR, isF false Xw (.slice jv r.xg.length jr) r.xg, isF false Xn (.slice jb r.xk.length ja) r.xk, isF false XM (.slice jL r.xw.length jK) r.xw, isF false FrOut (.slice Qy r.zo.length Qx) r.zo, isF false FrInto (.slice vF r.qE.length zU) r.qE]) (r.qE.length - 0) ⟨_, 0, (by exact qj (qj (qj (rfl) rfl) rfl) rfl), (by omega), (by exact fun j hj => by omega), rfl, H⟩ ?_
         clear H
         rintro m' ρ w72 ⟨junk, k, rfl, i0, i1, rfl, H⟩
         refine qo (qo (qB ?_))
         refine sps [.int .i64 k, pp br or, pp br or] ?_
         refine sw (qO br (or) 7 Try.underlying92 rfl rfl Try.sizeOf90 rfl ?_)
         refine sw (qF (.slice vF r.qE.length zU) Try.isAgg90 rfl (H.zh 3 rfl 7 rfl) ?_)
         refine sw (vI Try.underlying90 vF r.qE.length zU rfl ?_)
         refine sp (.bool (decide ((k : Int) < r.qE.length))) ?_
         refine qA (t_n ?_)
         refine qX (decide ((k : Int) < r.qE.length)) rfl (fun h73 => ?_) (fun h73 => ?_)
         ·skip
          replace h73 := of_decide_eq_true h73
          refine xy (t_n (qo (xC (qo (qB ?_)))))
          refine sps [pp br or, pp br or] ?_
          refine sw (qO br (or) 7 Try.underlying92 rfl rfl Try.sizeOf90 rfl ?_)
          refine sw (qF (.slice vF r.qE.length zU) Try.isAgg90 rfl (H.zh 3 rfl 7 rfl) ?_)
          refine sp (.int .i64 k) ?_
          obtain ⟨b74, o75, rfl⟩ := H.addr 9 rfl (by omega)
          obtain ⟨ae76Bag, ce76Bag, Fe76Bag, H⟩ := H.jQ 9 rfl k k (by omega) (by omega) (by omega)
          refine sw (xO k Try.underlying90 ti108 rfl rfl (by omega) (by omega) ?_)
          refine sp (pp b74 (o75 + (k : Int).toNat * 2)) ?_
          refine qA (t_n (qo (qo ?_)))
          refine yg rfl H fun H => ?_
          refine rtp 0 (pp b74 (o75 + (k : Int).toNat * 2)) H ?_
          refine rtp 1 (pp b74 (o75 + (k : Int).toNat * 2)) H ?_
          refine rt 2 (pp b74 (o75 + (k : Int).toNat * 2 + 0)) (xF b74 (o75 + (k : Int).toNat * 2) 0 Try.underlying108 rfl rfl Try.sizeOf2 rfl) H ?_
          refine rt 3 (.int .i64 ((r.qE[k]!).qy)) (xm Try.isAgg2 rfl (fun _ h => h.zh 1 rfl 0 rfl)) H ?_
          refine rtp 4 (pp bs os) H ?_
          refine rtp 5 (pp bs os) H ?_
          refine rt 6 (pp bs (os + 1)) (xF bs (os) 1 Try.underlying30 rfl rfl Try.sizeOf22 rfl) H ?_
          refine rt 7 (.slice qw s.qf.length qm) (xm Try.isAgg22 rfl (fun _ h => h.zh 2 rfl 1 rfl)) H ?_
          refine rt 8 (.int .i64 s.qf.length) (y_len Try.underlying22 qw s.qf.length qm rfl) H ?_
          refine rt 9 (.int .i64 (s.qf.length - 1)) (y_sub s.qf.length 1 rfl rfl (by omega)) H ?_
          refine xn [10] (by kernel_rfl) (by simp) (zg rfl ?_ xq)
          refine xf #[.int .i64 ((r.qE[k]!).qy), .int .i64 0, .int .i64 (s.qf.length - 1)] rfl rfl Try.call55 (l00In_ok w72.drew ((r.qE[k]!).qy) 0 (s.qf.length - 1)) ?_
          rintro _ w78 rfl x79
          replace H := H.ext x79
          refine ⟨H, ?_⟩
          refine rtp 11 (.bool (!(inR ((r.qE[k]!).qy) 0 (s.qf.length - 1)))) H ?_
          refine rtp 12 (.bool (!(inR ((r.qE[k]!).qy) 0 (s.qf.length - 1)))) H ?_
          cases h80 : (!(inR ((r.qE[k]!).qy) 0 (s.qf.length - 1)))
          ·skip
           replace h80 := qY h80
           replace h80 := Q9.1 h80
           refine rgp 13 (pp bs os) 126 H ?_
           refine rgp 14 (pp b74 (o75 + (k : Int).toNat * 2)) 126 H ?_
           refine rgp 15 (pp b74 (o75 + (k : Int).toNat * 2)) 126 H ?_
           refine rg 16 (pp b74 (o75 + (k : Int).toNat * 2 + 0)) 126 (xF b74 (o75 + (k : Int).toNat * 2) 0 Try.underlying108 rfl rfl Try.sizeOf2 rfl) H ?_
           refine rg 17 (.int .i64 ((r.qE[k]!).qy)) 126 (xm Try.isAgg2 rfl (fun _ h => h.zh 1 rfl 0 rfl)) H ?_
           refine rgp 18 (pp br or) 126 H ?_
           refine rgp 19 (pp br or) 126 H ?_
           refine rg 20 (pp br (or + 0)) 126 (xF br (or) 0 Try.underlying92 rfl rfl Try.sizeOf2 rfl) H ?_
           refine rg 21 (.int .i64 r.qy) 126 (xm Try.isAgg2 rfl (fun _ h => h.zh 5 rfl 0 rfl)) H ?_
           refine xn [22] (by kernel_rfl) (by simp) (r_opG rfl (e := 126) rfl rfl ?_ xq)
           refine xf #[pp bs os, .int .i64 ((r.qE[k]!).qy), .int .i64 r.qy] rfl rfl Try.call117 (l02In_ok w78 s ((r.qE[k]!).qy) r.qy bs os qw qm qM qG qC xu (qH (H.get 2 rfl) 0 3) (H.get 3 rfl).1 (H.get 4 rfl).1 (by assumption) (by assumption)) ?_
           rintro _ w81 rfl x82
           replace H := H.ext x82
           refine ⟨H, ?_⟩
           refine rgp 23 (.bool (!(dec (Lies s.qf r.qy ((r.qE[k]!).qy))))) 126 H ?_
           refine rtp 24 (.bool (!(dec (Lies s.qf r.qy ((r.qE[k]!).qy))))) H ?_
           refine rtp 25 (.bool (!(dec (Lies s.qf r.qy ((r.qE[k]!).qy))))) H ?_
           cases h83 : (!(dec (Lies s.qf r.qy ((r.qE[k]!).qy))))
           ·skip
            replace h83 := qY h83
            replace h83 := jZ h83
            refine rgp 26 (pp bs os) 139 H ?_
            refine rgp 27 (pp b74 (o75 + (k : Int).toNat * 2)) 139 H ?_
            refine rgp 28 (pp b74 (o75 + (k : Int).toNat * 2)) 139 H ?_
            refine rg 29 (pp b74 (o75 + (k : Int).toNat * 2 + 1)) 139 (xF b74 (o75 + (k : Int).toNat * 2) 1 Try.underlying108 rfl rfl Try.sizeOf22 rfl) H ?_
            refine rg 30 (.slice ae76Bag (((r.qE[k]!).vK).length) ce76Bag) 139 (xm Try.isAgg22 rfl (fun _ h => h.zh 1 rfl 1 rfl)) H ?_
            refine xn [31] (by kernel_rfl) (by simp) (r_opG rfl (e := 139) rfl rfl ?_ xq)
            refine xf #[pp bs os, .slice ae76Bag (((r.qE[k]!).vK).length) ce76Bag] rfl rfl Try.call105 (Q4 w81 s ((r.qE[k]!).vK) bs os qw qm qM qG qC xu ae76Bag ce76Bag Fe76Bag (qH (H.get 2 rfl) 0 3) (H.get 3 rfl).1 (H.get 4 rfl).1 (H.get 0 rfl).1) ?_
            rintro _ w84 rfl x85
            replace H := H.ext x85
            refine ⟨H, ?_⟩
            refine rgp 32 (.bool (!(dec (zZ s.qI ((r.qE[k]!).vK))))) 139 H ?_
            refine rtp 33 (.bool (!(dec (zZ s.qI ((r.qE[k]!).vK))))) H ?_
            refine rtp 34 (.bool (!(dec (zZ s.qI ((r.qE[k]!).vK))))) H ?_
            cases h86 : (!(dec (zZ s.qI ((r.qE[k]!).vK))))
            ·skip
             replace h86 := qY h86
             replace h86 := jZ h86
             refine rgp 35 (pp b74 (o75 + (k : Int).toNat * 2)) 148 H ?_
             refine rgp 36 (pp b74 (o75 + (k : Int).toNat * 2)) 148 H ?_
             refine rg 37 (pp b74 (o75 + (k : Int).toNat * 2 + 1)) 148 (xF b74 (o75 + (k : Int).toNat * 2) 1 Try.underlying108 rfl rfl Try.sizeOf22 rfl) H ?_
             refine rg 38 (.slice ae76Bag (((r.qE[k]!).vK).length) ce76Bag) 148 (xm Try.isAgg22 rfl (fun _ h => h.zh 1 rfl 1 rfl)) H ?_
             refine xn [39] (by kernel_rfl) (by simp) (r_opG rfl (e := 148) rfl rfl ?_ xq)
             refine xf #[.slice ae76Bag (((r.qE[k]!).vK).length) ce76Bag] rfl rfl Try.call106 (l01Size_ok w84 ((r.qE[k]!).vK) ae76Bag ce76Bag Fe76Bag (H.get 0 rfl).1 (by first | assumption | exact jF (by assumption) | exact Xm (by assumption))) ?_
             rintro _ w87 rfl x88
             replace H := H.ext x88
             refine ⟨H, ?_⟩
             refine rgp 40 (.bool ((sumL ((r.qE[k]!).vK) : Int) == 0)) 148 H ?_
             refine rtp 41 (.bool ((sumL ((r.qE[k]!).vK) : Int) == 0)) H ?_
             refine xM (by kernel_rfl) (t_n ?_)
             refine qX ((sumL ((r.qE[k]!).vK) : Int) == 0) rfl (fun h89 => ?_) (fun h89 => ?_)
             ·skip
              replace h89 := eq_of_beq h89
              refine qo (qB ?_)
              refine sp (.bool false) ?_
              refine qA (t_n (xE (t_r (b_r (t_r (t_r (b_r (t_r ?_))))))))
              refine ret1 (.bool false) rfl rfl ⟨_, rfl, ?_, H.base⟩
              rw [xB (fun h => by obtain ⟨h1, h2, h3, h4, h5, h6, h7, h8, h9, h10, h11⟩ := h; first | contradiction | omega | exact h3 ⟨‹_›, ‹_›⟩ | (obtain ⟨q1, q2, q3, q4, q5⟩ := h11 k (by omega); first | contradiction | omega | (have := q5 (by omega); omega)))]
             replace h89 := ne_of_beq_false h89
             refine xy (t_n (qo ?_))
             refine yg rfl H fun H => ?_
             refine rtp 0 (.int .i64 k) H ?_
             refine rtp 1 (.bool (decide ((k : Int) > 0))) H ?_
             refine rtp 2 (.bool (decide ((k : Int) > 0))) H ?_
             cases h91 : (decide ((k : Int) > 0))
             ·skip
              replace h91 := of_decide_eq_false h91
              refine zS [3, 4, 5, 6, 7, 8, 9, 10, 11, 12, 13, 14, 15, 16] 14 (H) ?_
              refine rtp 17 (.bool false) H ?_
              refine xM (by kernel_rfl) (t_n ?_)
              refine qX false rfl (fun h => absurd h (by decide)) (fun _ => ?_)
              refine xy (b_n (t_n (qB ?_)))
              refine sp (.int .i64 k) ?_
              refine sw (vz k 1 rfl rfl (by omega) ?_)
              refine sp (.int .i64 (k + 1)) ?_
              refine qA ?_
              refine xH (m' := r.qE.length - (k + 1)) (by omega) ⟨_, k + 1, (by exact qj (qj (qj (rfl) rfl) rfl) rfl), ?_, ?_, rfl, H.sel _ (.refl _) _ (by simp)⟩
              · omega
              · exact i1.succ ⟨‹_›, ‹_›, ‹_›, ‹_›, fun hk => by omega⟩
             replace h91 := of_decide_eq_true h91
             refine rgp 3 (pp br or) 158 H ?_
             refine rgp 4 (pp br or) 158 H ?_
             refine rg 5 (pp br (or + 7)) 158 (xF br (or) 7 Try.underlying92 rfl rfl Try.sizeOf90 rfl) H ?_
             refine rg 6 (.slice (aa b74 o75) r.qE.length zU) 158 (xm Try.isAgg90 rfl (fun _ h => h.zh 5 rfl 7 rfl)) H ?_
             refine rgp 7 (.int .i64 k) 158 H ?_
             refine rg 8 (.int .i64 (k - 1)) 158 (y_sub k 1 rfl rfl (by omega)) H ?_
             obtain ⟨ae92Bag, ce92Bag, Fe92Bag, H⟩ := H.jQ 11 rfl (k - 1) (k - 1) (by omega) (by omega) (by omega)
             refine rg 9 (pp b74 (o75 + (k - 1 : Int).toNat * 2)) 158 (xK b74 (o75) r.qE.length zU (k - 1) Try.underlying90 ti108 rfl rfl (by omega) (by omega)) (H.sel _ (.refl _) _ (fun _ h => List.mem_cons_of_mem _ (List.mem_cons_of_mem _ (h)))) ?_
             refine rg 10 (pp b74 (o75 + (k - 1 : Int).toNat * 2 + 0)) 158 (xF b74 (o75 + (k - 1 : Int).toNat * 2) 0 Try.underlying108 rfl rfl Try.sizeOf2 rfl) (H.sel _ (.refl _) _ (fun _ h => List.mem_cons_of_mem _ (List.mem_cons_of_mem _ (h)))) ?_
             refine rgp 12 (pp b74 (o75 + (k : Int).toNat * 2)) 158 (H.sel _ (.refl _) _ (fun _ h => List.mem_cons_of_mem _ (List.mem_cons_of_mem _ (h)))) ?_
             refine rgp 13 (pp b74 (o75 + (k : Int).toNat * 2)) 158 (H.sel _ (.refl _) _ (fun _ h => List.mem_cons_of_mem _ (List.mem_cons_of_mem _ (h)))) ?_
             refine rg 14 (pp b74 (o75 + (k : Int).toNat * 2 + 0)) 158 (xF b74 (o75 + (k : Int).toNat * 2) 0 Try.underlying108 rfl rfl Try.sizeOf2 rfl) (H.sel _ (.refl _) _ (fun _ h => List.mem_cons_of_mem _ (List.mem_cons_of_mem _ (h)))) ?_
             refine rg 15 (.int .i64 ((r.qE[k]!).qy)) 158 (xm Try.isAgg2 rfl (fun _ h => h.zh 1 rfl 0 rfl)) (H.sel _ (.refl _) _ (fun _ h => List.mem_cons_of_mem _ (List.mem_cons_of_mem _ (h)))) ?_
             refine xn [11] (by kernel_rfl) (by simp) (r_opG rfl (e := 158) rfl rfl ?_ xq)
             refine qF (.int .i64 ((r.qE[k - 1]!).qy)) Try.isAgg2 rfl (H.zh 1 rfl 0 rfl) ?_
             refine ⟨H.sel _ (.refl _) _ (fun _ h => List.mem_cons_of_mem _ (List.mem_cons_of_mem _ (h))), ?_⟩
             refine rgp 16 (.bool (decide (((r.qE[k - 1]!).qy : Int) ≥ ((r.qE[k]!).qy)))) 158 (H.sel _ (.refl _) _ (fun _ h => List.mem_cons_of_mem _ (List.mem_cons_of_mem _ (h)))) ?_
             refine rtp 17 (.bool (decide (((r.qE[k - 1]!).qy : Int) ≥ ((r.qE[k]!).qy)))) (H.sel _ (.refl _) _ (fun _ h => List.mem_cons_of_mem _ (List.mem_cons_of_mem _ (h)))) ?_
             refine xM (by kernel_rfl) (t_n ?_)
             refine qX (decide (((r.qE[k - 1]!).qy : Int) ≥ ((r.qE[k]!).qy))) rfl (fun h93 => ?_) (fun h93 => ?_)
             ·skip
              replace h93 := of_decide_eq_true h93
              refine qo (qB ?_)
              refine sp (.bool false) ?_
              refine qA (t_n (xE (b_r (t_r (t_r (b_r (t_r ?_)))))))
              refine ret1 (.bool false) rfl rfl ⟨_, rfl, ?_, H.base⟩
              rw [xB (fun h => by obtain ⟨h1, h2, h3, h4, h5, h6, h7, h8, h9, h10, h11⟩ := h; first | contradiction | omega | exact h3 ⟨‹_›, ‹_›⟩ | (obtain ⟨q1, q2, q3, q4, q5⟩ := h11 k (by omega); first | contradiction | omega | (have := q5 (by omega); omega)))]
             replace h93 := of_decide_eq_false h93
             refine xy (b_n (t_n (qB ?_)))
             refine sp (.int .i64 k) ?_
             refine sw (vz k 1 rfl rfl (by omega) ?_)
             refine sp (.int .i64 (k + 1)) ?_
             refine qA ?_
             refine xH (m' := r.qE.length - (k + 1)) (by omega) ⟨_, k + 1, (by exact qj (qj (qj (rfl) rfl) rfl) rfl), ?_, ?_, rfl, H.sel _ (.refl _) _ (by simp)⟩
             · omega
             · exact i1.succ ⟨‹_›, ‹_›, ‹_›, ‹_›, fun hk => by omega⟩
            replace h86 := xh h86
            replace h86 := zt h86
            refine zS [35, 36, 37, 38, 39, 40] 6 (H) ?_
            refine rtp 41 (.bool true) H ?_
            refine xM (by kernel_rfl) (t_n ?_)
            refine qX true rfl (fun _ => ?_) (fun h => absurd h (by decide))
            refine qo (qB ?_)
            refine sp (.bool false) ?_
            refine qA (t_n (xE (t_r (b_r (t_r (t_r (b_r (t_r ?_))))))))
            refine ret1 (.bool false) rfl rfl ⟨_, rfl, ?_, H.base⟩
            rw [xB (fun h => by obtain ⟨h1, h2, h3, h4, h5, h6, h7, h8, h9, h10, h11⟩ := h; first | contradiction | omega | exact h3 ⟨‹_›, ‹_›⟩ | (obtain ⟨q1, q2, q3, q4, q5⟩ := h11 k (by omega); first | contradiction | omega | (have := q5 (by omega); omega)))]
           replace h83 := xh h83
           replace h83 := zt h83
           refine zS [26, 27, 28, 29, 30, 31, 32] 7 (H) ?_
           refine rtp 33 (.bool true) H ?_
           refine rtp 34 (.bool true) H ?_
           refine zS [35, 36, 37, 38, 39, 40] 6 (H) ?_
           refine rtp 41 (.bool true) H ?_
           refine xM (by kernel_rfl) (t_n ?_)
           refine qX true rfl (fun _ => ?_) (fun h => absurd h (by decide))
           refine qo (qB ?_)
           refine sp (.bool false) ?_
           refine qA (t_n (xE (t_r (b_r (t_r (t_r (b_r (t_r ?_))))))))
           refine ret1 (.bool false) rfl rfl ⟨_, rfl, ?_, H.base⟩
           rw [xB (fun h => by obtain ⟨h1, h2, h3, h4, h5, h6, h7, h8, h9, h10, h11⟩ := h; first | contradiction | omega | exact h3 ⟨‹_›, ‹_›⟩ | (obtain ⟨q1, q2, q3, q4, q5⟩ := h11 k (by omega); first | contradiction | omega | (have := q5 (by omega); omega)))]
          replace h80 := xh h80
          replace h80 := XB h80
          refine zS [13, 14, 15, 16, 17, 18, 19, 20, 21, 22, 23] 11 (H) ?_
          refine rtp 24 (.bool true) H ?_
          refine rtp 25 (.bool true) H ?_
          refine zS [26, 27, 28, 29, 30, 31, 32] 7 (H) ?_
          refine rtp 33 (.bool true) H ?_
          refine rtp 34 (.bool true) H ?_
          refine zS [35, 36, 37, 38, 39, 40] 6 (H) ?_
          refine rtp 41 (.bool true) H ?_
          refine xM (by kernel_rfl) (t_n ?_)
          refine qX true rfl (fun _ => ?_) (fun h => absurd h (by decide))
          refine qo (qB ?_)
          refine sp (.bool false) ?_
          refine qA (t_n (xE (t_r (b_r (t_r (t_r (b_r (t_r ?_))))))))
          refine ret1 (.bool false) rfl rfl ⟨_, rfl, ?_, H.base⟩
          rw [xB (fun h => by obtain ⟨h1, h2, h3, h4, h5, h6, h7, h8, h9, h10, h11⟩ := h; first | contradiction | omega | exact h3 ⟨‹_›, ‹_›⟩ | (obtain ⟨q1, q2, q3, q4, q5⟩ := h11 k (by omega); first | contradiction | omega | (have := q5 (by omega); omega)))]
         replace h73 := of_decide_eq_false h73
         refine ve (t_x (t_x (b_x (t_n (qo (qB ?_))))))
         refine sp (.bool true) ?_
         refine qA (t_n (xE ?_))
         refine ret1 (.bool true) rfl rfl ⟨_, rfl, ?_, H.base⟩
         obtain rfl : k = r.qE.length := by omega
         rw [yZ ⟨by assumption, by omega, by simp_all, by omega, by assumption, by assumption, by assumption, by assumption, by assumption, by assumption, i1⟩]
        replace h67 := xh h67
        replace h67 := zt h67
        refine zi [92, 93, 94, 95, 96, 97] ?_
        refine sp (.bool true) ?_
        refine qA (t_n ?_)
        refine qX true rfl (fun _ => ?_) (fun h => absurd h (by decide))
        refine qo (qB ?_)
        refine sp (.bool false) ?_
        refine qA (t_n (xE (t_r ?_)))
        refine ret1 (.bool false) rfl rfl ⟨_, rfl, ?_, H.base⟩
        rw [xB (fun h => by obtain ⟨h1, h2, h3, h4, h5, h6, h7, h8, h9, h10, h11⟩ := h; first | contradiction | omega | exact h3 ⟨‹_›, ‹_›⟩ | (obtain ⟨q1, q2, q3, q4, q5⟩ := h11 k (by omega); first | contradiction | omega | (have := q5 (by omega); omega)))]
       replace h64 := xh h64
       replace h64 := zt h64
       refine zi [83, 84, 85, 86, 87, 88, 89] ?_
       refine sps [.bool true, .bool true] ?_
       refine zi [92, 93, 94, 95, 96, 97] ?_
       refine sp (.bool true) ?_
       refine qA (t_n ?_)
       refine qX true rfl (fun _ => ?_) (fun h => absurd h (by decide))
       refine qo (qB ?_)
       refine sp (.bool false) ?_
       refine qA (t_n (xE (t_r ?_)))
       refine ret1 (.bool false) rfl rfl ⟨_, rfl, ?_, H.base⟩
       rw [xB (fun h => by obtain ⟨h1, h2, h3, h4, h5, h6, h7, h8, h9, h10, h11⟩ := h; first | contradiction | omega | exact h3 ⟨‹_›, ‹_›⟩ | (obtain ⟨q1, q2, q3, q4, q5⟩ := h11 k (by omega); first | contradiction | omega | (have := q5 (by omega); omega)))]
      replace h61 := xh h61
      replace h61 := zt h61
      refine zi [74, 75, 76, 77, 78, 79, 80] ?_
      refine sps [.bool true, .bool true] ?_
      refine zi [83, 84, 85, 86, 87, 88, 89] ?_
      refine sps [.bool true, .bool true] ?_
      refine zi [92, 93, 94, 95, 96, 97] ?_
      refine sp (.bool true) ?_
      refine qA (t_n ?_)
      refine qX true rfl (fun _ => ?_) (fun h => absurd h (by decide))
      refine qo (qB ?_)
      refine sp (.bool false) ?_
      refine qA (t_n (xE (t_r ?_)))
      refine ret1 (.bool false) rfl rfl ⟨_, rfl, ?_, H.base⟩
      rw [xB (fun h => by obtain ⟨h1, h2, h3, h4, h5, h6, h7, h8, h9, h10, h11⟩ := h; first | contradiction | omega | exact h3 ⟨‹_›, ‹_›⟩ | (obtain ⟨q1, q2, q3, q4, q5⟩ := h11 k (by omega); first | contradiction | omega | (have := q5 (by omega); omega)))]
     replace h58 := xh h58
     replace h58 := zt h58
     refine zi [65, 66, 67, 68, 69, 70, 71] ?_
     refine sps [.bool true, .bool true] ?_
     refine zi [74, 75, 76, 77, 78, 79, 80] ?_
     refine sps [.bool true, .bool true] ?_
     refine zi [83, 84, 85, 86, 87, 88, 89] ?_
     refine sps [.bool true, .bool true] ?_
     refine zi [92, 93, 94, 95, 96, 97] ?_
     refine sp (.bool true) ?_
     refine qA (t_n ?_)
     refine qX true rfl (fun _ => ?_) (fun h => absurd h (by decide))
     refine qo (qB ?_)
     refine sp (.bool false) ?_
     refine qA (t_n (xE (t_r ?_)))
     refine ret1 (.bool false) rfl rfl ⟨_, rfl, ?_, H.base⟩
     rw [xB (fun h => by obtain ⟨h1, h2, h3, h4, h5, h6, h7, h8, h9, h10, h11⟩ := h; first | contradiction | omega | exact h3 ⟨‹_›, ‹_›⟩ | (obtain ⟨q1, q2, q3, q4, q5⟩ := h11 k (by omega); first | contradiction | omega | (have := q5 (by omega); omega)))]
    replace h55 := xh h55
    replace h55 := zt h55
    refine zi [56, 57, 58, 59, 60, 61, 62] ?_
    refine sps [.bool true, .bool true] ?_
    refine zi [65, 66, 67, 68, 69, 70, 71] ?_
    refine sps [.bool true, .bool true] ?_
    refine zi [74, 75, 76, 77, 78, 79, 80] ?_
    refine sps [.bool true, .bool true] ?_
    refine zi [83, 84, 85, 86, 87, 88, 89] ?_
    refine sps [.bool true, .bool true] ?_
    refine zi [92, 93, 94, 95, 96, 97] ?_
    refine sp (.bool true) ?_
    refine qA (t_n ?_)
    refine qX true rfl (fun _ => ?_) (fun h => absurd h (by decide))
    refine qo (qB ?_)
    refine sp (.bool false) ?_
    refine qA (t_n (xE (t_r ?_)))
    refine ret1 (.bool false) rfl rfl ⟨_, rfl, ?_, H.base⟩
    rw [xB (fun h => by obtain ⟨h1, h2, h3, h4, h5, h6, h7, h8, h9, h10, h11⟩ := h; first | contradiction | omega | exact h3 ⟨‹_›, ‹_›⟩ | (obtain ⟨q1, q2, q3, q4, q5⟩ := h11 k (by omega); first | contradiction | omega | (have := q5 (by omega); omega)))]
   replace h51 := eq_of_beq h51
   refine zS [34, 35, 36, 37, 38, 39] 6 (H) ?_
   refine rtp 40 (.bool true) H ?_
   refine xM (by kernel_rfl) (t_n ?_)
   refine qX true rfl (fun _ => ?_) (fun h => absurd h (by decide))
   refine qo (qB ?_)
   refine sp (.bool false) ?_
   refine qA (t_n (xE (t_r ?_)))
   refine ret1 (.bool false) rfl rfl ⟨_, rfl, ?_, H.base⟩
   rw [xB (fun h => by obtain ⟨h1, h2, h3, h4, h5, h6, h7, h8, h9, h10, h11⟩ := h; first | contradiction | omega | exact h3 ⟨‹_›, ‹_›⟩ | (obtain ⟨q1, q2, q3, q4, q5⟩ := h11 k (by omega); first | contradiction | omega | (have := q5 (by omega); omega)))]
  replace h7 := xh h7
  replace h7 := XB h7
  refine zS [21, 22, 23, 24, 25, 26, 27, 28, 29, 30, 31] 11 (H) ?_
  refine rtp 32 (.bool true) H ?_
  refine rtp 33 (.bool true) H ?_
  refine zS [34, 35, 36, 37, 38, 39] 6 (H) ?_
  refine rtp 40 (.bool true) H ?_
  refine xM (by kernel_rfl) (t_n ?_)
  refine qX true rfl (fun _ => ?_) (fun h => absurd h (by decide))
  refine qo (qB ?_)
  refine sp (.bool false) ?_
  refine qA (t_n (xE (t_r ?_)))
  refine ret1 (.bool false) rfl rfl ⟨_, rfl, ?_, H.base⟩
  rw [xB (fun h => by obtain ⟨h1, h2, h3, h4, h5, h6, h7, h8, h9, h10, h11⟩ := h; first | contradiction | omega | exact h3 ⟨‹_›, ‹_›⟩ | (obtain ⟨q1, q2, q3, q4, q5⟩ := h11 k (by omega); first | contradiction | omega | (have := q5 (by omega); omega)))]
 replace h4 := xh h4
 replace h4 := XB h4
 refine zS [13, 14, 15, 16, 17, 18] 6 (H) ?_
 refine rtp 19 (.bool true) H ?_
 refine rtp 20 (.bool true) H ?_
 refine zS [21, 22, 23, 24, 25, 26, 27, 28, 29, 30, 31] 11 (H) ?_
 refine rtp 32 (.bool true) H ?_
 refine rtp 33 (.bool true) H ?_
 refine zS [34, 35, 36, 37, 38, 39] 6 (H) ?_
 refine rtp 40 (.bool true) H ?_
 refine xM (by kernel_rfl) (t_n ?_)
 refine qX true rfl (fun _ => ?_) (fun h => absurd h (by decide))
 refine qo (qB ?_)
 refine sp (.bool false) ?_
 refine qA (t_n (xE (t_r ?_)))
 refine ret1 (.bool false) rfl rfl ⟨_, rfl, ?_, H.base⟩
 rw [xB (fun h => by obtain ⟨h1, h2, h3, h4, h5, h6, h7, h8, h9, h10, h11⟩ := h; first | contradiction | omega | exact h3 ⟨‹_›, ‹_›⟩ | (obtain ⟨q1, q2, q3, q4, q5⟩ := h11 k (by omega); first | contradiction | omega | (have := q5 (by omega); omega)))]

theorem l02State_ok (w : World) (s : qV) (t : qQ) (bs os : Nat) (qw : Option Addr) (qm : Nat) (qM : List Nat) (qG : Option Addr) (qC : Nat) (xu : List Nat) (bt ot : Nat) (qP : Option Addr) (qJ : Nat) (xJ : List Nat) (xG : Option Addr) (xA : Nat) (zF : List Nat) (qL : Option Addr) (qK : Nat) (xI : List Nat) (hs : jd w bs os [.int .i64 s.qI, .slice qw s.qf.length qm, .slice qG s.qg.length qC]) (xx : qW.rep w qM [.slice qw s.qf.length qm] s.qf) (xN : qW.rep w xu [.slice qG s.qg.length qC] s.qg) (ht : jd w bt ot [.slice qP t.qh.length qJ, .slice xG t.qp.length xA, .slice qL t.ql.length qK]) (zA : qW.rep w xJ [.slice qP t.qh.length qJ] t.qh) (vC : qW.rep w zF [.slice xG t.qp.length xA] t.qp) (xZ : qW.rep w xI [.slice qL t.ql.length qK] t.ql) (p0 : yA s) : Calls Try.prog 76 #[pp bs os, pp bt ot] w (Ret (fun v w' => v = .bool (dec (zJ s t))) w) := by
 refine enter (n := 88) Try.func76 rfl Try.ntmps76 (Nat.le_of_ble_eq_true rfl) ?_
 have H := (((((((St.start w).arg xZ).arg vC).arg zA).argAt ht).arg xN).arg xx).argAt hs
 have vW := qN xx
 have yh := qN xN
 have QU := qN zA
 have XA := qN vC
 have Qa := qN xZ
 clear hs xx xN ht zA vC xZ
 have p1 := p0.2.1
 refine qo (qB ?_)
 refine sp (.bool false) ?_
 refine qA (t_n (qo (qo ?_)))
 refine yg rfl H fun H => ?_
 refine rtp 0 (pp bt ot) H ?_
 refine rtp 1 (pp bt ot) H ?_
 refine rt 2 (pp bt (ot + 0)) (xF bt (ot) 0 Try.underlying41 rfl rfl Try.sizeOf36 rfl) H ?_
 refine rt 3 (.slice qP t.qh.length qJ) (xm Try.isAgg36 rfl (fun _ h => h.zh 3 rfl 0 rfl)) H ?_
 refine rt 4 (.int .i64 t.qh.length) (y_len Try.underlying36 qP t.qh.length qJ rfl) H ?_
 refine rtp 5 (pp bs os) H ?_
 refine rtp 6 (pp bs os) H ?_
 refine rt 7 (pp bs (os + 1)) (xF bs (os) 1 Try.underlying30 rfl rfl Try.sizeOf22 rfl) H ?_
 refine rt 8 (.slice qw s.qf.length qm) (xm Try.isAgg22 rfl (fun _ h => h.zh 0 rfl 1 rfl)) H ?_
 refine rt 9 (.int .i64 s.qf.length) (y_len Try.underlying22 qw s.qf.length qm rfl) H ?_
 refine rtp 10 (.bool ((t.qh.length : Int) != s.qf.length)) H ?_
 refine rtp 11 (.bool ((t.qh.length : Int) != s.qf.length)) H ?_
 cases h2 : ((t.qh.length : Int) != s.qf.length)
 ·skip
  replace h2 := xP h2
  refine rgp 12 (pp bt ot) 17 H ?_
  refine rgp 13 (pp bt ot) 17 H ?_
  refine rg 14 (pp bt (ot + 1)) 17 (xF bt (ot) 1 Try.underlying41 rfl rfl Try.sizeOf37 rfl) H ?_
  refine rg 15 (.slice xG t.qp.length xA) 17 (xm Try.isAgg37 rfl (fun _ h => h.zh 3 rfl 1 rfl)) H ?_
  refine rg 16 (.int .i64 t.qp.length) 17 (y_len Try.underlying37 xG t.qp.length xA rfl) H ?_
  refine rgp 17 (pp bs os) 17 H ?_
  refine rgp 18 (pp bs os) 17 H ?_
  refine rg 19 (pp bs (os + 1)) 17 (xF bs (os) 1 Try.underlying30 rfl rfl Try.sizeOf22 rfl) H ?_
  refine rg 20 (.slice qw s.qf.length qm) 17 (xm Try.isAgg22 rfl (fun _ h => h.zh 0 rfl 1 rfl)) H ?_
  refine rg 21 (.int .i64 s.qf.length) 17 (y_len Try.underlying22 qw s.qf.length qm rfl) H ?_
  refine rgp 22 (.bool ((t.qp.length : Int) != s.qf.length)) 17 H ?_
  refine rtp 23 (.bool ((t.qp.length : Int) != s.qf.length)) H ?_
  refine rtp 24 (.bool ((t.qp.length : Int) != s.qf.length)) H ?_
  cases h3 : ((t.qp.length : Int) != s.qf.length)
  ·skip
   replace h3 := xP h3
   refine rgp 25 (pp bt ot) 30 H ?_
   refine rgp 26 (pp bt ot) 30 H ?_
   refine rg 27 (pp bt (ot + 0)) 30 (xF bt (ot) 0 Try.underlying41 rfl rfl Try.sizeOf36 rfl) H ?_
   refine rg 28 (.slice qP t.qh.length qJ) 30 (xm Try.isAgg36 rfl (fun _ h => h.zh 3 rfl 0 rfl)) H ?_
   obtain ⟨b4, o5, rfl⟩ := H.addr 4 rfl (by omega)
   refine rg 29 (pp b4 (o5 + (0 : Int).toNat * 1)) 30 (xK b4 (o5) t.qh.length qJ 0 Try.underlying36 ti4 rfl rfl (by omega) (by omega)) H ?_
   refine rg 30 (.bool (t.qh[0]!)) 30 (xm Try.isAgg4 rfl (fun _ h => h.Xd 4 rfl 0 (by omega) (by omega))) H ?_
   refine rgp 31 (.bool (!(t.qh[0]!))) 30 H ?_
   refine rtp 32 (.bool (!(t.qh[0]!))) H ?_
   refine rtp 33 (.bool (!(t.qh[0]!))) H ?_
   cases h6 : (!(t.qh[0]!))
   ·skip
    replace h6 := qY h6
    refine rgp 34 (pp bs os) 39 H ?_
    refine rgp 35 (pp bt ot) 39 H ?_
    refine rgp 36 (pp bt ot) 39 H ?_
    refine rg 37 (pp bt (ot + 2)) 39 (xF bt (ot) 2 Try.underlying41 rfl rfl Try.sizeOf22 rfl) H ?_
    refine rg 38 (.slice qL t.ql.length qK) 39 (xm Try.isAgg22 rfl (fun _ h => h.zh 3 rfl 2 rfl)) H ?_
    refine xn [39] (by kernel_rfl) (by simp) (r_opG rfl (e := 39) rfl rfl ?_ xq)
    refine xf #[pp bs os, .slice qL t.ql.length qK] rfl rfl Try.call105 (Q4 w.drew s t.ql bs os qw qm qM qG qC xu qL qK xI (qH (H.get 0 rfl) 0 3) (H.get 1 rfl).1 (H.get 2 rfl).1 (H.get 6 rfl).1) ?_
    rintro _ w7 rfl x8
    replace H := H.ext x8
    refine ⟨H, ?_⟩
    refine rgp 40 (.bool (!(dec (zZ s.qI t.ql)))) 39 H ?_
    refine rtp 41 (.bool (!(dec (zZ s.qI t.ql)))) H ?_
    refine xM (by kernel_rfl) (t_n ?_)
    refine qX (!(dec (zZ s.qI t.ql))) rfl (fun h9 => ?_) (fun h9 => ?_)
    ·skip
     replace h9 := xh h9
     replace h9 := zt h9
     refine qo (qB ?_)
     refine sp (.bool false) ?_
     refine qA (t_n (xE (t_r ?_)))
     refine ret1 (.bool false) rfl rfl ⟨_, rfl, ?_, H.base⟩
     rw [xB (fun h => by obtain ⟨h1, h2, h3, h4, h5⟩ := h; first | contradiction | omega | (simp_all; done) | (obtain ⟨q1, q2⟩ := h5 k (by omega); first | contradiction | (have := q2 (by assumption); omega)))]
    replace h9 := qY h9
    replace h9 := jZ h9
    refine xy (t_n (qo (qo (qB ?_))))
    refine sp (.int .i64 0) ?_
    refine qA (t_n (xC ?_))
    refine vw (fun m' ρ w10 => ∃ (junk : Env) (k : Nat), ρ = upd (upd (upd junk 0 (pp bs os)) 1 (pp bt ot)) 5 (.int .i64 k) ∧ (k ≤ t.qp.length) ∧ (BagsTo s t k) ∧ m' = t.qp.length - k ∧ St w w10 [] [atF bs os [.int .i64 s.qI, .slice qw s.qf.length qm, .slice qG s.qg.length qC], isF false qM (.slice qw s.qf.length qm) s.qf, isF false xu (.slice qG s.qg.length qC) s.qg, atF bt ot [.slice (aa b4 o5) t.qh.length qJ, .slice xG t.qp.length xA, .slice qL t.ql.length qK], isF false xJ (.slice (aa b4 o5) t.qh.length qJ) t.qh, isF false zF (.slice xG t.qp.length xA) t.qp, isF false xI (.slice qL t.ql.length qK) t.ql]) (t.qp.length - 0) ⟨_, 0, (by exact qj (qj (qj (rfl) rfl) rfl) rfl), (by omega), (by exact fun j hj => by omega), rfl, H⟩ ?_
    clear H
    rintro m' ρ w11 ⟨junk, k, rfl, i0, i1, rfl, H⟩
    refine qo (qo (qB ?_))
    refine sps [.int .i64 k, pp bt ot, pp bt ot] ?_
    refine sw (qO bt (ot) 1 Try.underlying41 rfl rfl Try.sizeOf37 rfl ?_)
    refine sw (qF (.slice xG t.qp.length xA) Try.isAgg37 rfl (H.zh 3 rfl 1 rfl) ?_)
    refine sw (vI Try.underlying37 xG t.qp.length xA rfl ?_)
    refine sp (.bool (decide ((k : Int) < t.qp.length))) ?_
    refine qA (t_n ?_)
    refine qX (decide ((k : Int) < t.qp.length)) rfl (fun h12 => ?_) (fun h12 => ?_)
    ·skip
     replace h12 := of_decide_eq_true h12
     refine xy (t_n (qo (xC (qo (qB ?_)))))
     refine sps [pp bs os, pp bt ot, pp bt ot] ?_
     refine sw (qO bt (ot) 1 Try.underlying41 rfl rfl Try.sizeOf37 rfl ?_)
     refine sw (qF (.slice xG t.qp.length xA) Try.isAgg37 rfl (H.zh 3 rfl 1 rfl) ?_)
     refine sp (.int .i64 k) ?_
     obtain ⟨b13, o14, rfl⟩ := H.addr 5 rfl (by omega)
     obtain ⟨ae15, ce15, Fe15, H⟩ := H.yY 5 rfl k k (by omega) (by omega) (by omega)
     refine sw (xO k Try.underlying37 ti22 rfl rfl (by omega) (by omega) ?_)
     refine sw (qF (.slice ae15 ((t.qp[k]!).length) ce15) Try.isAgg22 rfl (H.zh 1 rfl 0 rfl) ?_)
     refine sw (xf #[pp bs os, .slice ae15 ((t.qp[k]!).length) ce15] rfl rfl Try.call105 (Q4 w11 s (t.qp[k]!) bs os qw qm qM qG qC xu ae15 ce15 Fe15 (qH (H.get 2 rfl) 0 3) (H.get 3 rfl).1 (H.get 4 rfl).1 (H.get 0 rfl).1) ?_)
     rintro _ w16 rfl x17
     replace H := H.ext x17
     refine sps [.bool (!(dec (zZ s.qI (t.qp[k]!)))), .bool (!(dec (zZ s.qI (t.qp[k]!))))] ?_
     cases h18 : (!(dec (zZ s.qI (t.qp[k]!))))
     ·skip
      replace h18 := qY h18
      replace h18 := jZ h18
      refine qU 67 rfl rfl ?_
      refine sp (pp bt ot) ?_
      refine qU 67 rfl rfl ?_
      refine sp (pp bt ot) ?_
      refine qU 67 rfl rfl ?_
      refine sw (qO bt (ot) 0 Try.underlying41 rfl rfl Try.sizeOf36 rfl ?_)
      refine qU 67 rfl rfl ?_
      refine sw (qF (.slice (aa b4 o5) t.qh.length qJ) Try.isAgg36 rfl (H.zh 5 rfl 0 rfl) ?_)
      refine qU 67 rfl rfl ?_
      refine sp (.int .i64 k) ?_
      refine qU 67 rfl rfl ?_
      refine sw (xO k Try.underlying36 ti4 rfl rfl (by omega) (by omega) ?_)
      refine qU 67 rfl rfl ?_
      refine sw (qF (.bool (t.qh[k]!)) Try.isAgg4 rfl (H.Xd 6 rfl k (by omega) (by omega)) ?_)
      refine qU 67 rfl rfl ?_
      refine sp (.bool (!(t.qh[k]!))) ?_
      refine qU 67 rfl rfl ?_
      refine sp (.bool (!(t.qh[k]!))) ?_
      cases h19 : (!(t.qh[k]!))
      ·skip
       replace h19 := qY h19
       refine zi [77, 78, 79, 80, 81, 82, 83, 84, 85] ?_
       refine qU 67 rfl rfl ?_
       refine sps [.bool false, .bool false] ?_
       refine qA (t_n ?_)
       refine qX false rfl (fun h => absurd h (by decide)) (fun _ => ?_)
       refine xy (b_n (t_n (qB ?_)))
       refine sp (.int .i64 k) ?_
       refine sw (vz k 1 rfl rfl (by omega) ?_)
       refine sp (.int .i64 (k + 1)) ?_
       refine qA ?_
       refine xH (m' := t.qp.length - (k + 1)) (by omega) ⟨_, k + 1, (by exact qj (qj (qj (rfl) rfl) rfl) rfl), ?_, ?_, rfl, H.sel _ (.refl _) _ (by simp)⟩
       · omega
       · exact i1.succ ‹_› (fun hk => by first | omega | simp_all)
      replace h19 := xh h19
      refine qU 76 rfl rfl ?_
      refine sp (pp bt ot) ?_
      refine qU 76 rfl rfl ?_
      refine sp (pp bt ot) ?_
      refine qU 76 rfl rfl ?_
      refine sw (qO bt (ot) 1 Try.underlying41 rfl rfl Try.sizeOf37 rfl ?_)
      refine qU 76 rfl rfl ?_
      refine sw (qF (.slice (aa b13 o14) t.qp.length xA) Try.isAgg37 rfl (H.zh 5 rfl 1 rfl) ?_)
      refine qU 76 rfl rfl ?_
      refine sp (.int .i64 k) ?_
      refine qU 76 rfl rfl ?_
      refine sw (xO k Try.underlying37 ti22 rfl rfl (by omega) (by omega) ?_)
      refine qU 76 rfl rfl ?_
      refine sw (qF (.slice ae15 ((t.qp[k]!).length) ce15) Try.isAgg22 rfl (H.zh 1 rfl 0 rfl) ?_)
      refine qU 76 rfl rfl ?_
      refine sw (xf #[.slice ae15 ((t.qp[k]!).length) ce15] rfl rfl Try.call106 (l01Size_ok w16 (t.qp[k]!) ae15 ce15 Fe15 (H.get 0 rfl).1 (by first | assumption | exact jF (by assumption) | exact Xm (by assumption))) ?_)
      rintro _ w20 rfl x21
      replace H := H.ext x21
      refine qU 76 rfl rfl ?_
      refine sp (.bool (decide ((sumL (t.qp[k]!) : Int) > 0))) ?_
      refine qU 67 rfl rfl ?_
      refine sps [.bool (decide ((sumL (t.qp[k]!) : Int) > 0)), .bool (decide ((sumL (t.qp[k]!) : Int) > 0))] ?_
      refine qA (t_n ?_)
      refine qX (decide ((sumL (t.qp[k]!) : Int) > 0)) rfl (fun h22 => ?_) (fun h22 => ?_)
      ·skip
       replace h22 := of_decide_eq_true h22
       refine qo (qB ?_)
       refine sp (.bool false) ?_
       refine qA (t_n (xE (b_r (t_r (t_r (b_r (t_r ?_)))))))
       refine ret1 (.bool false) rfl rfl ⟨_, rfl, ?_, H.base⟩
       rw [xB (fun h => by obtain ⟨h1, h2, h3, h4, h5⟩ := h; first | contradiction | omega | (simp_all; done) | (obtain ⟨q1, q2⟩ := h5 k (by omega); first | contradiction | (have := q2 (by assumption); omega)))]
      replace h22 := of_decide_eq_false h22
      refine xy (b_n (t_n (qB ?_)))
      refine sp (.int .i64 k) ?_
      refine sw (vz k 1 rfl rfl (by omega) ?_)
      refine sp (.int .i64 (k + 1)) ?_
      refine qA ?_
      refine xH (m' := t.qp.length - (k + 1)) (by omega) ⟨_, k + 1, (by exact qj (qj (qj (rfl) rfl) rfl) rfl), ?_, ?_, rfl, H.sel _ (.refl _) _ (by simp)⟩
      · omega
      · exact i1.succ ‹_› (fun hk => by first | omega | simp_all)
     replace h18 := xh h18
     replace h18 := zt h18
     refine zi [68, 69, 70, 71, 72, 73, 74, 75, 76, 77, 78, 79, 80, 81, 82, 83, 84, 85, 86] ?_
     refine sp (.bool true) ?_
     refine qA (t_n ?_)
     refine qX true rfl (fun _ => ?_) (fun h => absurd h (by decide))
     refine qo (qB ?_)
     refine sp (.bool false) ?_
     refine qA (t_n (xE (b_r (t_r (t_r (b_r (t_r ?_)))))))
     refine ret1 (.bool false) rfl rfl ⟨_, rfl, ?_, H.base⟩
     rw [xB (fun h => by obtain ⟨h1, h2, h3, h4, h5⟩ := h; first | contradiction | omega | (simp_all; done) | (obtain ⟨q1, q2⟩ := h5 k (by omega); first | contradiction | (have := q2 (by assumption); omega)))]
    replace h12 := of_decide_eq_false h12
    refine ve (t_x (t_x (b_x (t_n (qo (qB ?_))))))
    refine sp (.bool true) ?_
    refine qA (t_n (xE ?_))
    refine ret1 (.bool true) rfl rfl ⟨_, rfl, ?_, H.base⟩
    obtain rfl : k = t.qp.length := by omega
    rw [yZ ⟨by omega, by omega, by first | assumption | simp_all, by assumption, i1⟩]
   replace h6 := xh h6
   refine zS [34, 35, 36, 37, 38, 39, 40] 7 (H) ?_
   refine rtp 41 (.bool true) H ?_
   refine xM (by kernel_rfl) (t_n ?_)
   refine qX true rfl (fun _ => ?_) (fun h => absurd h (by decide))
   refine qo (qB ?_)
   refine sp (.bool false) ?_
   refine qA (t_n (xE (t_r ?_)))
   refine ret1 (.bool false) rfl rfl ⟨_, rfl, ?_, H.base⟩
   rw [xB (fun h => by obtain ⟨h1, h2, h3, h4, h5⟩ := h; first | contradiction | omega | (simp_all; done) | (obtain ⟨q1, q2⟩ := h5 k (by omega); first | contradiction | (have := q2 (by assumption); omega)))]
  replace h3 := bne_iff_ne.1 h3
  refine zS [25, 26, 27, 28, 29, 30, 31] 7 (H) ?_
  refine rtp 32 (.bool true) H ?_
  refine rtp 33 (.bool true) H ?_
  refine zS [34, 35, 36, 37, 38, 39, 40] 7 (H) ?_
  refine rtp 41 (.bool true) H ?_
  refine xM (by kernel_rfl) (t_n ?_)
  refine qX true rfl (fun _ => ?_) (fun h => absurd h (by decide))
  refine qo (qB ?_)
  refine sp (.bool false) ?_
  refine qA (t_n (xE (t_r ?_)))
  refine ret1 (.bool false) rfl rfl ⟨_, rfl, ?_, H.base⟩
  rw [xB (fun h => by obtain ⟨h1, h2, h3, h4, h5⟩ := h; first | contradiction | omega | (simp_all; done) | (obtain ⟨q1, q2⟩ := h5 k (by omega); first | contradiction | (have := q2 (by assumption); omega)))]
 replace h2 := bne_iff_ne.1 h2
 refine zS [12, 13, 14, 15, 16, 17, 18, 19, 20, 21, 22] 11 (H) ?_
 refine rtp 23 (.bool true) H ?_
 refine rtp 24 (.bool true) H ?_
 refine zS [25, 26, 27, 28, 29, 30, 31] 7 (H) ?_
 refine rtp 32 (.bool true) H ?_
 refine rtp 33 (.bool true) H ?_
 refine zS [34, 35, 36, 37, 38, 39, 40] 7 (H) ?_
 refine rtp 41 (.bool true) H ?_
 refine xM (by kernel_rfl) (t_n ?_)
 refine qX true rfl (fun _ => ?_) (fun h => absurd h (by decide))
 refine qo (qB ?_)
 refine sp (.bool false) ?_
 refine qA (t_n (xE (t_r ?_)))
 refine ret1 (.bool false) rfl rfl ⟨_, rfl, ?_, H.base⟩
 rw [xB (fun h => by obtain ⟨h1, h2, h3, h4, h5⟩ := h; first | contradiction | omega | (simp_all; done) | (obtain ⟨q1, q2⟩ := h5 k (by omega); first | contradiction | (have := q2 (by assumption); omega)))]

theorem l02Parent_ok (w : World) (s : qV) (t : qQ) (c : Int) (bs os : Nat) (qw : Option Addr) (qm : Nat) (qM : List Nat) (qG : Option Addr) (qC : Nat) (xu : List Nat) (bt ot : Nat) (qP : Option Addr) (qJ : Nat) (xJ : List Nat) (xG : Option Addr) (xA : Nat) (zF : List Nat) (qL : Option Addr) (qK : Nat) (xI : List Nat) (hs : jd w bs os [.int .i64 s.qI, .slice qw s.qf.length qm, .slice qG s.qg.length qC]) (xx : qW.rep w qM [.slice qw s.qf.length qm] s.qf) (xN : qW.rep w xu [.slice qG s.qg.length qC] s.qg) (ht : jd w bt ot [.slice qP t.qh.length qJ, .slice xG t.qp.length xA, .slice qL t.ql.length qK]) (zA : qW.rep w xJ [.slice qP t.qh.length qJ] t.qh) (vC : qW.rep w zF [.slice xG t.qp.length xA] t.qp) (xZ : qW.rep w xI [.slice qL t.ql.length qK] t.ql) (p0 : yA s) (p1 : CellIn s c) (p2 : t.qh.length = s.qf.length) : Calls Try.prog 78 #[pp bs os, pp bt ot, .int .i64 c] w (Ret (fun v w' => v = .int .i64 (xe s t c)) w) := by
 refine enter (n := 35) Try.func78 rfl Try.ntmps78 (Nat.le_of_ble_eq_true rfl) ?_
 have H := (((((((St.start w).arg xZ).arg vC).arg zA).argAt ht).arg xN).arg xx).argAt hs
 have vW := qN xx
 have yh := qN xN
 have QU := qN zA
 have XA := qN vC
 have Qa := qN xZ
 clear hs xx xN ht zA vC xZ
 have p3 := p0.step p1.1 p1.2
 refine qo (qB ?_)
 refine sp (.int .i64 0) ?_
 refine qA (t_n (qo (qB ?_)))
 refine sps [pp bs os, pp bs os] ?_
 refine sw (qO bs (os) 1 Try.underlying30 rfl rfl Try.sizeOf22 rfl ?_)
 refine sw (qF (.slice qw s.qf.length qm) Try.isAgg22 rfl (H.zh 0 rfl 1 rfl) ?_)
 refine sp (.int .i64 c) ?_
 obtain ⟨b1, o2, rfl⟩ := H.addr 1 rfl (by omega)
 refine sw (xO c Try.underlying22 ti2 rfl rfl (by omega) (by omega) ?_)
 refine sw (qF (.int .i64 (s.qf[c.toNat]!)) Try.isAgg2 rfl (H.vX 1 rfl c (by omega) (by omega)) ?_)
 refine sp (.int .i64 (s.qf[c.toNat]!)) ?_
 refine qA (t_n (qo (xC ?_)))
 refine vw (fun m' ρ w3 => ∃ (junk : Env) (y : Int) (n : Nat), ρ = upd (upd (upd (upd junk 0 (pp bs os)) 1 (pp bt ot)) 6 (.int .i64 0)) 7 (.int .i64 y) ∧ (-1 ≤ y ∧ y ≤ (s.qf.length : Int) - 1) ∧ (y < n) ∧ (xe s t c = climb s.qf t.qh n y) ∧ m' = (y + 1).toNat ∧ St w w3 [] [atF bs os [.int .i64 s.qI, .slice (aa b1 o2) s.qf.length qm, .slice qG s.qg.length qC], isF false qM (.slice (aa b1 o2) s.qf.length qm) s.qf, isF false xu (.slice qG s.qg.length qC) s.qg, atF bt ot [.slice qP t.qh.length qJ, .slice xG t.qp.length xA, .slice qL t.ql.length qK], isF false xJ (.slice qP t.qh.length qJ) t.qh, isF false zF (.slice xG t.qp.length xA) t.qp, isF false xI (.slice qL t.ql.length qK) t.ql]) (((s.qf[c.toNat]!) + 1).toNat) ⟨_, s.qf[c.toNat]!, s.qf.length, (by exact qj (qj (qj (qj (rfl) rfl) rfl) rfl) rfl), (by omega), (by omega), (by rfl), rfl, H⟩ ?_
 clear H
 rintro m' ρ w4 ⟨junk, y, n, rfl, i0, i1, i2, rfl, H⟩
 have up := fun h => p0.step (c := y) h i0.2
 refine qo (qo (qB ?_))
 refine sps [.int .i64 y, .bool (decide ((y : Int) ≥ 0)), .bool (decide ((y : Int) ≥ 0))] ?_
 cases h5 : (decide ((y : Int) ≥ 0))
 ·skip
  replace h5 := of_decide_eq_false h5
  refine zi [18, 19, 20, 21, 22, 23, 24, 25] ?_
  refine sp (.bool false) ?_
  refine qA (t_n ?_)
  refine qX false rfl (fun h => absurd h (by decide)) (fun _ => ?_)
  refine ve (t_x (t_x (b_x (t_n (qo (qB ?_))))))
  refine sps [.int .i64 y, .int .i64 y] ?_
  refine qA (t_n (xE ?_))
  refine ret1 (.int .i64 y) rfl rfl ⟨_, rfl, ?_, H.base⟩
  rw [i2, climb_end (by first | omega | simp_all)]
 replace h5 := of_decide_eq_true h5
 refine qU 17 rfl rfl ?_
 refine sp (pp bt ot) ?_
 refine qU 17 rfl rfl ?_
 refine sp (pp bt ot) ?_
 refine qU 17 rfl rfl ?_
 refine sw (qO bt (ot) 0 Try.underlying41 rfl rfl Try.sizeOf36 rfl ?_)
 refine qU 17 rfl rfl ?_
 refine sw (qF (.slice qP t.qh.length qJ) Try.isAgg36 rfl (H.zh 3 rfl 0 rfl) ?_)
 refine qU 17 rfl rfl ?_
 refine sp (.int .i64 y) ?_
 refine qU 17 rfl rfl ?_
 obtain ⟨b6, o7, rfl⟩ := H.addr 4 rfl (by omega)
 refine sw (xO y Try.underlying36 ti4 rfl rfl (by omega) (by omega) ?_)
 refine qU 17 rfl rfl ?_
 refine sw (qF (.bool (t.qh[y.toNat]!)) Try.isAgg4 rfl (H.Xd 4 rfl y (by omega) (by omega)) ?_)
 refine qU 17 rfl rfl ?_
 refine sps [.bool (!(t.qh[y.toNat]!)), .bool (!(t.qh[y.toNat]!))] ?_
 refine qA (t_n ?_)
 refine qX (!(t.qh[y.toNat]!)) rfl (fun h8 => ?_) (fun h8 => ?_)
 ·skip
  replace h8 := xh h8
  refine xy (t_n (xC (qB ?_)))
  refine sps [pp bs os, pp bs os] ?_
  refine sw (qO bs (os) 1 Try.underlying30 rfl rfl Try.sizeOf22 rfl ?_)
  refine sw (qF (.slice (aa b1 o2) s.qf.length qm) Try.isAgg22 rfl (H.zh 0 rfl 1 rfl) ?_)
  refine sp (.int .i64 y) ?_
  refine sw (xO y Try.underlying22 ti2 rfl rfl (by omega) (by omega) ?_)
  refine sw (qF (.int .i64 (s.qf[y.toNat]!)) Try.isAgg2 rfl (H.vX 1 rfl y (by omega) (by omega)) ?_)
  refine sp (.int .i64 (s.qf[y.toNat]!)) ?_
  refine qA (b_n ?_)
  have up1 := up (by omega)
  refine xH (m' := ((s.qf[y.toNat]!) + 1).toNat) (by omega) ⟨_, (s.qf[y.toNat]!), n - 1, (by exact qj (qj (qj (qj (rfl) rfl) rfl) rfl) rfl), ?_, ?_, ?_, rfl, H⟩
  · omega
  · omega
  · exact i2.trans (climb_go (by omega) (by omega) ‹_›)
 replace h8 := qY h8
 refine ve (t_x (t_x (b_x (t_n (qo (qB ?_))))))
 refine sps [.int .i64 y, .int .i64 y] ?_
 refine qA (t_n (xE ?_))
 refine ret1 (.int .i64 y) rfl rfl ⟨_, rfl, ?_, H.base⟩
 rw [i2, climb_end (by first | omega | simp_all)]

theorem l02Ok_ok (w : World) (s : qV) (bs os : Nat) (qw : Option Addr) (qm : Nat) (qM : List Nat) (qG : Option Addr) (qC : Nat) (xu : List Nat) (hs : jd w bs os [.int .i64 s.qI, .slice qw s.qf.length qm, .slice qG s.qg.length qC]) (xx : qW.rep w qM [.slice qw s.qf.length qm] s.qf) (xN : qW.rep w xu [.slice qG s.qg.length qC] s.qg) : Calls Try.prog 65 #[pp bs os] w (Ret (fun v w' => v = .bool (dec (yP s))) w) := by
 refine enter (n := 65) Try.func65 rfl Try.ntmps65 (Nat.le_of_ble_eq_true rfl) ?_
 have H := (((St.start w).arg xN).arg xx).argAt hs
 have vW := qN xx
 have yh := qN xN
 clear hs xx xN
 have p1 := fun h : yA s => h.2.1
 refine qo (qB ?_)
 refine sp (.bool false) ?_
 refine qA (t_n (qo (qo (qB ?_))))
 refine sp (pp bs os) ?_
 refine sw (xf #[pp bs os] rfl rfl Try.call97 (l02Frame_ok w s bs os qw qm qM qG qC xu (qH (H.get 0 rfl) 0 3) (H.get 1 rfl).1 (H.get 2 rfl).1) ?_)
 rintro _ w1 rfl x2
 replace H := H.ext x2
 refine sps [.bool (!(dec (yA s))), .bool (!(dec (yA s)))] ?_
 cases h3 : (!(dec (yA s)))
 ·skip
  replace h3 := qY h3
  replace h3 := jZ h3
  refine qU 8 rfl rfl ?_
  refine sp (pp bs os) ?_
  refine qU 8 rfl rfl ?_
  refine sp (pp bs os) ?_
  refine qU 8 rfl rfl ?_
  refine sw (qO bs (os) 2 Try.underlying30 rfl rfl Try.sizeOf28 rfl ?_)
  refine qU 8 rfl rfl ?_
  refine sw (qF (.slice qG s.qg.length qC) Try.isAgg28 rfl (H.zh 0 rfl 2 rfl) ?_)
  refine qU 8 rfl rfl ?_
  refine sw (vI Try.underlying28 qG s.qg.length qC rfl ?_)
  refine qU 8 rfl rfl ?_
  refine sps [.bool (decide ((s.qg.length : Int) > 16)), .bool (decide ((s.qg.length : Int) > 16))] ?_
  refine qA (t_n ?_)
  refine qX (decide ((s.qg.length : Int) > 16)) rfl (fun h4 => ?_) (fun h4 => ?_)
  ·skip
   replace h4 := of_decide_eq_true h4
   refine qo (qB ?_)
   refine sp (.bool false) ?_
   refine qA (t_n (xE (t_r ?_)))
   refine ret1 (.bool false) rfl rfl ⟨_, rfl, ?_, H.base⟩
   rw [xB (fun h => by obtain ⟨h1, h2, h3⟩ := h; first | contradiction | omega | (obtain ⟨q1, q2⟩ := h3 k (by omega); first | contradiction | (have := Vz (k := k + 1) q; omega)))]
  replace h4 := of_decide_eq_false h4
  have p2 := p1 (by assumption)
  refine xy (t_n (qo (qB ?_)))
  refine sps [pp bs os, pp bs os] ?_
  refine sw (qO bs (os) 1 Try.underlying30 rfl rfl Try.sizeOf22 rfl ?_)
  refine sw (qF (.slice qw s.qf.length qm) Try.isAgg22 rfl (H.zh 0 rfl 1 rfl) ?_)
  refine sw (vI Try.underlying22 qw s.qf.length qm rfl ?_)
  refine sw (o_make1 H Try.underlying22 ti2 rfl s.qf.length rfl rfl (by omega) (by omega) fun b5 w6 H => ?_)
  replace H : St _ _ [.box b5 (List.replicate s.qf.length (.int .i64 0)) 2] _ := H
  refine sp (.slice (aa b5 0) s.qf.length s.qf.length) ?_
  refine qA (t_n (qo (qo (qB ?_))))
  refine sp (.int .i64 0) ?_
  refine qA (t_n (xC ?_))
  rw [ints_zero, counts_zero] at H
  refine vw (fun m' ρ w7 => ∃ (junk : Env) (k : Nat), ρ = upd (upd (upd junk 0 (pp bs os)) 3 (.slice (aa b5 0) s.qf.length s.qf.length)) 4 (.int .i64 k) ∧ (k ≤ s.qg.length) ∧ (RulesTo s k) ∧ m' = s.qg.length - k ∧ St w w7 [.box b5 ((counts s k).map (Value.int .i64)) 2] [atF bs os [.int .i64 s.qI, .slice qw s.qf.length qm, .slice qG s.qg.length qC], isF false qM (.slice qw s.qf.length qm) s.qf, isF false xu (.slice qG s.qg.length qC) s.qg]) (s.qg.length - 0) ⟨_, 0, (by exact qj (qj (qj (rfl) rfl) rfl) rfl), (by omega), (by exact fun j hj => by omega), rfl, H⟩ ?_
  clear H
  rintro m' ρ w8 ⟨junk, k, rfl, i0, i1, rfl, H⟩
  refine qo (qo (qB ?_))
  refine sps [.int .i64 k, pp bs os, pp bs os] ?_
  refine sw (qO bs (os) 2 Try.underlying30 rfl rfl Try.sizeOf28 rfl ?_)
  refine sw (qF (.slice qG s.qg.length qC) Try.isAgg28 rfl (H.zh 0 rfl 2 rfl) ?_)
  refine sw (vI Try.underlying28 qG s.qg.length qC rfl ?_)
  refine sp (.bool (decide ((k : Int) < s.qg.length))) ?_
  refine qA (t_n ?_)
  refine qX (decide ((k : Int) < s.qg.length)) rfl (fun h9 => ?_) (fun h9 => ?_)
  ·skip
   replace h9 := of_decide_eq_true h9
   refine xy (t_n (qo (xC (qo (qo (qB ?_))))))
   refine sps [pp bs os, pp bs os, pp bs os] ?_
   refine sw (qO bs (os) 2 Try.underlying30 rfl rfl Try.sizeOf28 rfl ?_)
   refine sw (qF (.slice qG s.qg.length qC) Try.isAgg28 rfl (H.zh 0 rfl 2 rfl) ?_)
   refine sp (.int .i64 k) ?_
   obtain ⟨b10, o11, rfl⟩ := H.addr 2 rfl (by omega)
   obtain ⟨ae12Need, ce12Need, Fe12Need, ae12Have, ce12Have, Fe12Have, ae12Lack, ce12Lack, Fe12Lack, ae12Here, ce12Here, Fe12Here, ae12Out, ce12Out, Fe12Out, ae12Into, ce12Into, Fe12Into, H⟩ := H.yD 2 rfl k k (by omega) (by omega) (by omega)
   refine sw (xO k Try.underlying28 ti92 rfl rfl (by omega) (by omega) ?_)
   refine sw (xf #[pp bs os, pp b10 (o11 + (k : Int).toNat * 9)] rfl rfl Try.call98 (l02Rule_ok w8 s (s.qg[k]!) bs os qw qm qM (aa b10 o11) qC xu b10 (o11 + (k : Int).toNat * 9) ae12Need ce12Need Fe12Need ae12Have ce12Have Fe12Have ae12Lack ce12Lack Fe12Lack ae12Here ce12Here Fe12Here ae12Out ce12Out Fe12Out ae12Into ce12Into Fe12Into (qH (H.get 7 rfl) 0 3) (H.get 8 rfl).1 (H.get 9 rfl).1 (qH (H.get 6 rfl) 0 9) (H.get 0 rfl).1 (H.get 1 rfl).1 (H.get 2 rfl).1 (H.get 3 rfl).1 (H.get 4 rfl).1 (H.get 5 rfl).1 (by assumption)) ?_)
   rintro _ w13 rfl x14
   replace H := H.ext x14
   refine sp (.bool (!(dec (RuleOk s (s.qg[k]!))))) ?_
   refine qA (t_n ?_)
   refine qX (!(dec (RuleOk s (s.qg[k]!)))) rfl (fun h15 => ?_) (fun h15 => ?_)
   ·skip
    replace h15 := xh h15
    replace h15 := zt h15
    refine qo (qB ?_)
    refine sp (.bool false) ?_
    refine qA (t_n (xE (t_r (b_r (t_r (t_r (b_r (t_r ?_))))))))
    refine ret1 (.bool false) rfl rfl ⟨_, rfl, ?_, H.base⟩
    rw [xB (fun h => by obtain ⟨h1, h2, h3⟩ := h; first | contradiction | omega | (obtain ⟨q1, q2⟩ := h3 k (by omega); first | contradiction | (have := Vz (k := k + 1) q; omega)))]
   replace h15 := qY h15
   replace h15 := jZ h15
   have q := (h15).1
   refine xy (t_n (qo (qB ?_)))
   refine sps [.slice (aa b5 0) s.qf.length s.qf.length, pp bs os, pp bs os] ?_
   refine sw (qO bs (os) 2 Try.underlying30 rfl rfl Try.sizeOf28 rfl ?_)
   refine sw (qF (.slice (aa b10 o11) s.qg.length qC) Try.isAgg28 rfl (H.zh 7 rfl 2 rfl) ?_)
   refine sp (.int .i64 k) ?_
   refine sw (xO k Try.underlying28 ti92 rfl rfl (by omega) (by omega) ?_)
   refine sw (qO b10 (o11 + (k : Int).toNat * 9) 0 Try.underlying92 rfl rfl Try.sizeOf2 rfl ?_)
   refine sw (qF (.int .i64 ((s.qg[k]!).qy)) Try.isAgg2 rfl (H.zh 6 rfl 0 rfl) ?_)
   refine sw (xO ((s.qg[k]!).qy) Try.underlying22 ti2 rfl rfl (by omega) (by omega) ?_)
   refine sw (qF (.int .i64 ((counts s k)[((s.qg[k]!).qy : Int).toNat]!)) Try.isAgg2 rfl (H.cell 0 rfl (ints_get (by rw [counts_len]; omega))) ?_)
   refine sw (vz ((counts s k)[((s.qg[k]!).qy : Int).toNat]!) 1 rfl rfl (by (first | omega | (rw [Vz q]; have := ofCell_bd s.qg (s.qg[k]!).qy k; omega))) ?_)
   refine sw (xO ((s.qg[k]!).qy) Try.underlying22 ti2 rfl rfl (by omega) (by omega) ?_)
   refine sw (yS H 0 rfl (.int .i64 (((counts s k)[((s.qg[k]!).qy : Int).toNat]!) + 1)) Try.sizeOf2 rfl rfl rfl (ints_lt (by rw [counts_len]; omega)) fun w16 H => ?_)
   rw [ints_set] at H
   rw [counts_succ q] at H
   replace H : St _ _ [.box b5 ((counts s (k + 1)).map (Value.int .i64)) 2] _ := H
   refine qA (t_n (qo (qB ?_)))
   refine sps [.slice (aa b5 0) s.qf.length s.qf.length, pp bs os, pp bs os] ?_
   refine sw (qO bs (os) 2 Try.underlying30 rfl rfl Try.sizeOf28 rfl ?_)
   refine sw (qF (.slice (aa b10 o11) s.qg.length qC) Try.isAgg28 rfl (H.zh 7 rfl 2 rfl) ?_)
   refine sp (.int .i64 k) ?_
   refine sw (xO k Try.underlying28 ti92 rfl rfl (by omega) (by omega) ?_)
   refine sw (qO b10 (o11 + (k : Int).toNat * 9) 0 Try.underlying92 rfl rfl Try.sizeOf2 rfl ?_)
   refine sw (qF (.int .i64 ((s.qg[k]!).qy)) Try.isAgg2 rfl (H.zh 6 rfl 0 rfl) ?_)
   refine sw (xO ((s.qg[k]!).qy) Try.underlying22 ti2 rfl rfl (by omega) (by omega) ?_)
   refine sw (qF (.int .i64 ((counts s (k + 1))[((s.qg[k]!).qy : Int).toNat]!)) Try.isAgg2 rfl (H.cell 0 rfl (ints_get (by rw [counts_len]; omega))) ?_)
   refine sp (.bool (decide (((counts s (k + 1))[((s.qg[k]!).qy : Int).toNat]! : Int) > 8))) ?_
   refine qA (t_n ?_)
   refine qX (decide (((counts s (k + 1))[((s.qg[k]!).qy : Int).toNat]! : Int) > 8)) rfl (fun h17 => ?_) (fun h17 => ?_)
   ·skip
    replace h17 := of_decide_eq_true h17
    refine qo (qB ?_)
    refine sp (.bool false) ?_
    refine qA (t_n (xE (b_r (t_r (t_r (b_r (t_r ?_)))))))
    refine ret1 (.bool false) rfl rfl ⟨_, rfl, ?_, H.base⟩
    rw [xB (fun h => by obtain ⟨h1, h2, h3⟩ := h; first | contradiction | omega | (obtain ⟨q1, q2⟩ := h3 k (by omega); first | contradiction | (have := Vz (k := k + 1) q; omega)))]
   replace h17 := of_decide_eq_false h17
   refine xy (b_n (t_n (qB ?_)))
   refine sp (.int .i64 k) ?_
   refine sw (vz k 1 rfl rfl (by (first | omega | (rw [Vz q]; have := ofCell_bd s.qg (s.qg[k]!).qy k; omega))) ?_)
   refine sp (.int .i64 (k + 1)) ?_
   refine qA ?_
   refine xH (m' := s.qg.length - (k + 1)) (by omega) ⟨_, k + 1, (by exact qj (qj (qj (rfl) rfl) rfl) rfl), ?_, ?_, rfl, H.sel _ (.refl _) _ (by simp)⟩
   · omega
   · exact i1.succ ‹_› (by have := Vz (k := k + 1) q; omega)
  replace h9 := of_decide_eq_false h9
  refine ve (t_x (t_x (b_x (t_n (qo (qB ?_))))))
  refine sp (.bool true) ?_
  refine qA (t_n (xE ?_))
  refine ret1 (.bool true) rfl rfl ⟨_, rfl, ?_, H.base⟩
  obtain rfl : k = s.qg.length := by omega
  rw [yZ ⟨by assumption, by omega, i1⟩]
 replace h3 := xh h3
 replace h3 := zt h3
 refine zi [9, 10, 11, 12, 13, 14] ?_
 refine sp (.bool true) ?_
 refine qA (t_n ?_)
 refine qX true rfl (fun _ => ?_) (fun h => absurd h (by decide))
 refine qo (qB ?_)
 refine sp (.bool false) ?_
 refine qA (t_n (xE (t_r ?_)))
 refine ret1 (.bool false) rfl rfl ⟨_, rfl, ?_, H.base⟩
 rw [xB (fun h => by obtain ⟨h1, h2, h3⟩ := h; first | contradiction | omega | (obtain ⟨q1, q2⟩ := h3 k (by omega); first | contradiction | (have := Vz (k := k + 1) q; omega)))]

end Go.Proofs.Ytkmlihdacnfhdaa
