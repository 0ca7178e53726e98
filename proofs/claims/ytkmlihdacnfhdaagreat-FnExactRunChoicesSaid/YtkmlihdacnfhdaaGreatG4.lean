/- Walks, printed by program (wip/tools/gv.py): what each function comes to, for all arguments. -/
import Derived.Test.YtkmlihdacnfhdaaGreatG3
import Derived.Test.YtkmlihdacnfhdaaGreatP1
namespace Go.Proofs.YtkmlihdacnfhdaaGreat
open Go.Proofs.YtkmlihdacnfhdaaGreat.Tot (tot)
open Go.Proofs.YtkmlihdacnfhdaaGreat.Mark (cnt mrk mkd mkd_mark cnt_mark)
open Go.RowKit
set_option linter.unusedVariables false
set_option linter.unusedSimpArgs false
set_option maxRecDepth 100000
set_option maxHeartbeats 4000000



theorem l01Bag_ok (w : World) (l : List Int) (al : Option Addr) (cl : Nat) (Fl : List Nat) (hl : qV.rep w Fl [.slice al l.length cl] l) : Calls Tryz.prog 89 #[.slice al l.length cl] w (Ret (fun v w' => v = .bool (dec (BagAny l))) w) := by
 refine enter (n := 19) Tryz.func89 rfl Tryz.ntmps89 (Nat.le_of_ble_eq_true rfl) ?_
 have H := (St.start w).arg hl
 have nhl := qN hl
 clear hl
 refine qm (qA ?_)
 refine sp (.bool false) ?_
 refine qx (t_n (qm (qm (qA ?_))))
 refine sp (.int .i64 0) ?_
 refine qx (t_n (xE ?_))
 refine zU (fun m' ρ w1 => ∃ (junk : Env) (k : Nat), ρ = upd (upd junk 0 (.slice al l.length cl)) 3 (.int .i64 k) ∧ (k ≤ l.length) ∧ (Counts l k) ∧ m' = l.length - k ∧ St w w1 [] [isF false Fl (.slice al l.length cl) l]) (l.length - 0) ⟨_, 0, (by exact qj (qj (rfl) rfl) rfl), (by omega), (by exact Counts.zero l), rfl, H⟩ ?_
 clear H
 rintro m' ρ w2 ⟨junk, k, rfl, i0, i1, rfl, H⟩
 refine qm (qm (qA ?_))
 refine sps [.int .i64 k, .slice al l.length cl] ?_
 refine sw (zX Tryz.underlying22 al l.length cl rfl ?_)
 refine sp (.bool (decide ((k : Int) < l.length))) ?_
 refine qx (t_n ?_)
 refine qW (decide ((k : Int) < l.length)) rfl (fun h3 => ?_) (fun h3 => ?_)
 ·skip
  replace h3 := of_decide_eq_true h3
  refine xk (t_n (qm (xE (qm (qA ?_)))))
  refine sps [.slice al l.length cl, .int .i64 k] ?_
  obtain ⟨b4, o5, rfl⟩ := H.addr 0 rfl (by omega)
  refine sw (xK k Tryz.underlying22 ti2 rfl rfl (by omega) (by omega) ?_)
  refine sw (qE (.int .i64 (l[k]!)) Tryz.isAgg2 rfl (H.jq 0 rfl k (by omega) (by omega)) ?_)
  refine sw (qZ #[.int .i64 (l[k]!), .int .i64 0, .int .i64 1000] rfl rfl Tryz.call44 (l00In_ok w2 (l[k]!) 0 1000) ?_)
  rintro _ w6 rfl x7
  replace H := H.ext x7
  refine sp (.bool (!(inR (l[k]!) 0 1000))) ?_
  refine qx (t_n ?_)
  refine qW (!(inR (l[k]!) 0 1000)) rfl (fun h8 => ?_) (fun h8 => ?_)
  ·skip
   replace h8 := xg h8
   replace h8 := XJ h8
   refine qm (qA ?_)
   refine sp (.bool false) ?_
   refine qx (t_n (xC (b_r (t_r (t_r (b_r (t_r ?_)))))))
   refine ret1 (.bool false) rfl rfl ⟨_, rfl, ?_, H.base⟩
   rw [xy (fun h => ‹¬ (0 ≤ l[k]! ∧ l[k]! ≤ 1000)› (h.1 k (by omega)))]
  replace h8 := qY h8
  replace h8 := Xc.1 h8
  refine xk (b_n (t_n (qA ?_)))
  refine sp (.int .i64 k) ?_
  refine sw (zZ k 1 rfl rfl (by omega) ?_)
  refine sp (.int .i64 (k + 1)) ?_
  refine qx ?_
  refine xH (m' := l.length - (k + 1)) (by omega) ⟨_, k + 1, (by exact qj (qj (rfl) rfl) rfl), ?_, ?_, rfl, H⟩
  · omega
  · exact i1.succ ‹_›
 replace h3 := of_decide_eq_false h3
 refine zK (t_x (t_x (b_x (t_n (qm (qA ?_))))))
 refine sp (.slice al l.length cl) ?_
 refine sw (zX Tryz.underlying22 al l.length cl rfl ?_)
 refine sw (qZ #[.int .i64 l.length, .int .i64 1, .int .i64 8] rfl rfl Tryz.call44 (l00In_ok w2 l.length 1 8) ?_)
 rintro _ w9 rfl x10
 replace H := H.ext x10
 refine sp (.bool (inR l.length 1 8)) ?_
 refine qx (t_n (xC ?_))
 refine ret1 (.bool (inR l.length 1 8)) rfl rfl ⟨_, rfl, ?_, H.base⟩
 obtain rfl : k = l.length := by omega
 refine congrArg Value.bool (dec_eq ?_)
 rw [Xc]
 exact ⟨fun h => ⟨i1, by omega, by omega⟩, fun h => by have := h.2; omega⟩

theorem QY (w : World) (s : qX) (b : List Int) (bs os : Nat) (qw : Option Addr) (qo : Nat) (qO : List Nat) (qF : Option Addr) (qB : Nat) (xw : List Nat) (ab : Option Addr) (cb : Nat) (Fb : List Nat) (hs : jb w bs os [.int .i64 s.qJ, .slice qw s.qf.length qo, .slice qF s.qg.length qB]) (xx : qV.rep w qO [.slice qw s.qf.length qo] s.qf) (xM : qV.rep w xw [.slice qF s.qg.length qB] s.qg) (hb : qV.rep w Fb [.slice ab b.length cb] b) : Calls Tryz.prog 136 #[pp bs os, .slice ab b.length cb] w (Ret (fun v w' => v = .bool (dec (zW s.qJ b))) w) := by
 refine enter (n := 16) Tryz.func136 rfl Tryz.ntmps136 (Nat.le_of_ble_eq_true rfl) ?_
 have H := ((((St.start w).arg hb).arg xM).arg xx).argAt hs
 have vU := qN xx
 have jW := qN xM
 have nhb := qN hb
 clear hs xx xM hb
 refine qm (qA ?_)
 refine sp (.bool false) ?_
 refine qx (t_n (qm (qA ?_)))
 refine sp (.slice ab b.length cb) ?_
 refine sw (qZ #[.slice ab b.length cb] rfl rfl Tryz.call89 (l01Bag_ok w b ab cb Fb (H.get 3 rfl).1) ?_)
 rintro _ w1 rfl x2
 replace H := H.ext x2
 refine sp (.bool (dec (BagAny b))) ?_
 cases h3 : (dec (BagAny b))
 ·skip
  replace h3 := xX h3
  refine zf [8, 9, 10, 11, 12, 13, 14] ?_
  refine sps [.bool false, .bool false] ?_
  refine qx (t_n (xC ?_))
  refine ret1 (.bool false) rfl rfl ⟨_, rfl, ?_, H.base⟩
  rw [xy (fun h => ‹¬ BagAny b› h.1)]
 replace h3 := jG h3
 refine qQ 7 rfl rfl ?_
 refine sp (.slice ab b.length cb) ?_
 refine qQ 7 rfl rfl ?_
 refine sw (zX Tryz.underlying22 ab b.length cb rfl ?_)
 refine qQ 7 rfl rfl ?_
 refine sp (pp bs os) ?_
 refine qQ 7 rfl rfl ?_
 refine sp (pp bs os) ?_
 refine qQ 7 rfl rfl ?_
 refine sw (qP bs (os) 0 Tryz.underlying36 rfl rfl Tryz.sizeOf2 rfl ?_)
 refine qQ 7 rfl rfl ?_
 refine sw (qE (.int .i64 s.qJ) Tryz.isAgg2 rfl (H.xY 0 rfl 0 rfl) ?_)
 refine qQ 7 rfl rfl ?_
 refine sps [.bool ((b.length : Int) == s.qJ), .bool ((b.length : Int) == s.qJ), .bool ((b.length : Int) == s.qJ)] ?_
 refine qx (t_n (xC ?_))
 refine ret1 (.bool ((b.length : Int) == s.qJ)) rfl rfl ⟨_, rfl, ?_, H.base⟩
 refine congrArg Value.bool (dec_eq ?_)
 rw [beq_iff_eq]
 exact ⟨fun h => ⟨‹_›, h⟩, fun h => h.2⟩

theorem l02Frame_ok (w : World) (s : qX) (bs os : Nat) (qw : Option Addr) (qo : Nat) (qO : List Nat) (qF : Option Addr) (qB : Nat) (xw : List Nat) (hs : jb w bs os [.int .i64 s.qJ, .slice qw s.qf.length qo, .slice qF s.qg.length qB]) (xx : qV.rep w qO [.slice qw s.qf.length qo] s.qf) (xM : qV.rep w xw [.slice qF s.qg.length qB] s.qg) : Calls Tryz.prog 83 #[pp bs os] w (Ret (fun v w' => v = .bool (dec (yE s))) w) := by
 refine enter (n := 48) Tryz.func83 rfl Tryz.ntmps83 (Nat.le_of_ble_eq_true rfl) ?_
 have H := (((St.start w).arg xM).arg xx).argAt hs
 have vU := qN xx
 have jW := qN xM
 clear hs xx xM
 refine qm (qA ?_)
 refine sp (.bool false) ?_
 refine qx (t_n (qm (qm (qA ?_))))
 refine sps [pp bs os, pp bs os] ?_
 refine sw (qP bs (os) 0 Tryz.underlying36 rfl rfl Tryz.sizeOf2 rfl ?_)
 refine sw (qE (.int .i64 s.qJ) Tryz.isAgg2 rfl (H.xY 0 rfl 0 rfl) ?_)
 refine sw (qZ #[.int .i64 s.qJ, .int .i64 1, .int .i64 8] rfl rfl Tryz.call44 (l00In_ok w s.qJ 1 8) ?_)
 rintro _ w1 rfl x2
 replace H := H.ext x2
 refine sps [.bool (!(inR s.qJ 1 8)), .bool (!(inR s.qJ 1 8))] ?_
 cases h3 : (!(inR s.qJ 1 8))
 ·skip
  replace h3 := qY h3
  replace h3 := Xc.1 h3
  refine qQ 10 rfl rfl ?_
  refine sp (pp bs os) ?_
  refine qQ 10 rfl rfl ?_
  refine sp (pp bs os) ?_
  refine qQ 10 rfl rfl ?_
  refine sw (qP bs (os) 1 Tryz.underlying36 rfl rfl Tryz.sizeOf22 rfl ?_)
  refine qQ 10 rfl rfl ?_
  refine sw (qE (.slice qw s.qf.length qo) Tryz.isAgg22 rfl (H.xY 0 rfl 1 rfl) ?_)
  refine qQ 10 rfl rfl ?_
  refine sw (zX Tryz.underlying22 qw s.qf.length qo rfl ?_)
  refine qQ 10 rfl rfl ?_
  refine sw (qZ #[.int .i64 s.qf.length, .int .i64 1, .int .i64 6] rfl rfl Tryz.call44 (l00In_ok w1 s.qf.length 1 6) ?_)
  rintro _ w4 rfl x5
  replace H := H.ext x5
  refine qQ 10 rfl rfl ?_
  refine sps [.bool (!(inR s.qf.length 1 6)), .bool (!(inR s.qf.length 1 6)), .bool (!(inR s.qf.length 1 6))] ?_
  cases h6 : (!(inR s.qf.length 1 6))
  ·skip
   replace h6 := qY h6
   replace h6 := Xc.1 h6
   refine qQ 19 rfl rfl ?_
   refine sp (pp bs os) ?_
   refine qQ 19 rfl rfl ?_
   refine sp (pp bs os) ?_
   refine qQ 19 rfl rfl ?_
   refine sw (qP bs (os) 1 Tryz.underlying36 rfl rfl Tryz.sizeOf22 rfl ?_)
   refine qQ 19 rfl rfl ?_
   refine sw (qE (.slice qw s.qf.length qo) Tryz.isAgg22 rfl (H.xY 0 rfl 1 rfl) ?_)
   refine qQ 19 rfl rfl ?_
   obtain ⟨b7, o8, rfl⟩ := H.addr 1 rfl (by omega)
   refine sw (xK 0 Tryz.underlying22 ti2 rfl rfl (by omega) (by omega) ?_)
   refine qQ 19 rfl rfl ?_
   refine sw (qE (.int .i64 (s.qf[0]!)) Tryz.isAgg2 rfl (H.jq 1 rfl 0 (by omega) (by omega)) ?_)
   refine qQ 19 rfl rfl ?_
   refine sps [.bool ((s.qf[0]! : Int) != (-1)), .bool ((s.qf[0]! : Int) != (-1))] ?_
   refine qx (t_n ?_)
   refine qW ((s.qf[0]! : Int) != (-1)) rfl (fun h9 => ?_) (fun h9 => ?_)
   ·skip
    replace h9 := bne_iff_ne.1 h9
    refine qm (qA ?_)
    refine sp (.bool false) ?_
    refine qx (t_n (xC (t_r ?_)))
    refine ret1 (.bool false) rfl rfl ⟨_, rfl, ?_, H.base⟩
    rw [xy (fun h => by obtain ⟨h1, h2, h3, h4⟩ := h; first | omega | (have := h4 k (by omega) (by omega); omega))]
   replace h9 := xR h9
   refine xk (t_n (qm (qm (qA ?_))))
   refine sp (.int .i64 1) ?_
   refine qx (t_n (xE ?_))
   refine zU (fun m' ρ w10 => ∃ (junk : Env) (k : Nat), ρ = upd (upd junk 0 (pp bs os)) 3 (.int .i64 k) ∧ (k ≤ s.qf.length) ∧ (1 ≤ k) ∧ (FrameTo s k) ∧ m' = s.qf.length - k ∧ St w w10 [] [atF bs os [.int .i64 s.qJ, .slice (aa b7 o8) s.qf.length qo, .slice qF s.qg.length qB], isF false qO (.slice (aa b7 o8) s.qf.length qo) s.qf, isF false xw (.slice qF s.qg.length qB) s.qg]) (s.qf.length - 1) ⟨_, 1, (by exact qj (qj (rfl) rfl) rfl), (by omega), (by omega), (by exact FrameTo.one s), rfl, H⟩ ?_
   clear H
   rintro m' ρ w11 ⟨junk, k, rfl, i0, i2, i1, rfl, H⟩
   refine qm (qm (qA ?_))
   refine sps [.int .i64 k, pp bs os, pp bs os] ?_
   refine sw (qP bs (os) 1 Tryz.underlying36 rfl rfl Tryz.sizeOf22 rfl ?_)
   refine sw (qE (.slice (aa b7 o8) s.qf.length qo) Tryz.isAgg22 rfl (H.xY 0 rfl 1 rfl) ?_)
   refine sw (zX Tryz.underlying22 (aa b7 o8) s.qf.length qo rfl ?_)
   refine sp (.bool (decide ((k : Int) < s.qf.length))) ?_
   refine qx (t_n ?_)
   refine qW (decide ((k : Int) < s.qf.length)) rfl (fun h12 => ?_) (fun h12 => ?_)
   ·skip
    replace h12 := of_decide_eq_true h12
    refine xk (t_n (qm (xE (qm (qA ?_)))))
    refine sps [pp bs os, pp bs os] ?_
    refine sw (qP bs (os) 1 Tryz.underlying36 rfl rfl Tryz.sizeOf22 rfl ?_)
    refine sw (qE (.slice (aa b7 o8) s.qf.length qo) Tryz.isAgg22 rfl (H.xY 0 rfl 1 rfl) ?_)
    refine sp (.int .i64 k) ?_
    refine sw (xK k Tryz.underlying22 ti2 rfl rfl (by omega) (by omega) ?_)
    refine sw (qE (.int .i64 (s.qf[k]!)) Tryz.isAgg2 rfl (H.jq 1 rfl k (by omega) (by omega)) ?_)
    refine sp (.int .i64 k) ?_
    refine sw (o_sub k 1 rfl rfl (by omega) ?_)
    refine sw (qZ #[.int .i64 (s.qf[k]!), .int .i64 0, .int .i64 (k - 1)] rfl rfl Tryz.call44 (l00In_ok w11 (s.qf[k]!) 0 (k - 1)) ?_)
    rintro _ w13 rfl x14
    replace H := H.ext x14
    refine sp (.bool (!(inR (s.qf[k]!) 0 (k - 1)))) ?_
    refine qx (t_n ?_)
    refine qW (!(inR (s.qf[k]!) 0 (k - 1))) rfl (fun h15 => ?_) (fun h15 => ?_)
    ·skip
     replace h15 := xg h15
     replace h15 := XJ h15
     refine qm (qA ?_)
     refine sp (.bool false) ?_
     refine qx (t_n (xC (b_r (t_r (t_r (b_r (t_r ?_)))))))
     refine ret1 (.bool false) rfl rfl ⟨_, rfl, ?_, H.base⟩
     rw [xy (fun h => by obtain ⟨h1, h2, h3, h4⟩ := h; first | omega | (have := h4 k (by omega) (by omega); omega))]
    replace h15 := qY h15
    replace h15 := Xc.1 h15
    refine xk (b_n (t_n (qA ?_)))
    refine sp (.int .i64 k) ?_
    refine sw (zZ k 1 rfl rfl (by omega) ?_)
    refine sp (.int .i64 (k + 1)) ?_
    refine qx ?_
    refine xH (m' := s.qf.length - (k + 1)) (by omega) ⟨_, k + 1, (by exact qj (qj (rfl) rfl) rfl), ?_, ?_, ?_, rfl, H⟩
    · omega
    · omega
    · exact i1.succ ‹_›
   replace h12 := of_decide_eq_false h12
   refine zK (t_x (t_x (b_x (t_n (qm (qA ?_))))))
   refine sp (.bool true) ?_
   refine qx (t_n (xC ?_))
   refine ret1 (.bool true) rfl rfl ⟨_, rfl, ?_, H.base⟩
   obtain rfl : k = s.qf.length := by omega
   rw [yP ⟨by omega, by omega, by omega, i1⟩]
  replace h6 := xg h6
  replace h6 := XJ h6
  refine zf [20, 21, 22, 23, 24, 25, 26] ?_
  refine sp (.bool true) ?_
  refine qx (t_n ?_)
  refine qW true rfl (fun _ => ?_) (fun h => absurd h (by decide))
  refine qm (qA ?_)
  refine sp (.bool false) ?_
  refine qx (t_n (xC (t_r ?_)))
  refine ret1 (.bool false) rfl rfl ⟨_, rfl, ?_, H.base⟩
  rw [xy (fun h => by obtain ⟨h1, h2, h3, h4⟩ := h; first | omega | (have := h4 k (by omega) (by omega); omega))]
 replace h3 := xg h3
 replace h3 := XJ h3
 refine zf [11, 12, 13, 14, 15, 16, 17] ?_
 refine sps [.bool true, .bool true] ?_
 refine zf [20, 21, 22, 23, 24, 25, 26] ?_
 refine sp (.bool true) ?_
 refine qx (t_n ?_)
 refine qW true rfl (fun _ => ?_) (fun h => absurd h (by decide))
 refine qm (qA ?_)
 refine sp (.bool false) ?_
 refine qx (t_n (xC (t_r ?_)))
 refine ret1 (.bool false) rfl rfl ⟨_, rfl, ?_, H.base⟩
 rw [xy (fun h => by obtain ⟨h1, h2, h3, h4⟩ := h; first | omega | (have := h4 k (by omega) (by omega); omega))]

theorem l02In_ok (w : World) (s : qX) (c : Int) (other : Int) (bs os : Nat) (qw : Option Addr) (qo : Nat) (qO : List Nat) (qF : Option Addr) (qB : Nat) (xw : List Nat) (hs : jb w bs os [.int .i64 s.qJ, .slice qw s.qf.length qo, .slice qF s.qg.length qB]) (xx : qV.rep w qO [.slice qw s.qf.length qo] s.qf) (xM : qV.rep w xw [.slice qF s.qg.length qB] s.qg) (p0 : yE s) (p1 : CellIn s c) : Calls Tryz.prog 138 #[pp bs os, .int .i64 c, .int .i64 other] w (Ret (fun v w' => v = .bool (dec (Lies s.qf other c))) w) := by
 refine enter (n := 19) Tryz.func138 rfl Tryz.ntmps138 (Nat.le_of_ble_eq_true rfl) ?_
 have H := (((St.start w).arg xM).arg xx).argAt hs
 have vU := qN xx
 have jW := qN xM
 clear hs xx xM
 refine qm (qA ?_)
 refine sp (.bool false) ?_
 refine qx (t_n (qm (xE ?_)))
 refine zU (fun m' ρ w1 => ∃ (junk : Env) (y : Int), ρ = upd (upd (upd junk 0 (pp bs os)) 1 (.int .i64 y)) 2 (.int .i64 other) ∧ (0 ≤ y ∧ y ≤ (s.qf.length : Int) - 1) ∧ (Lies s.qf other c ↔ Lies s.qf other y) ∧ m' = y.toNat ∧ St w w1 [] [atF bs os [.int .i64 s.qJ, .slice qw s.qf.length qo, .slice qF s.qg.length qB], isF false qO (.slice qw s.qf.length qo) s.qf, isF false xw (.slice qF s.qg.length qB) s.qg]) (c.toNat) ⟨_, c, (by exact qj (qj (qj (rfl) rfl) rfl) rfl), (by exact p1), (by exact Iff.rfl), rfl, H⟩ ?_
 clear H
 rintro m' ρ w2 ⟨junk, y, rfl, i0, i1, rfl, H⟩
 have up := fun h => p0.up (c := y) h i0.2
 refine qm (qm (qA ?_))
 refine sps [.int .i64 y, .bool (decide ((y : Int) > 0))] ?_
 refine qx (t_n ?_)
 refine qW (decide ((y : Int) > 0)) rfl (fun h3 => ?_) (fun h3 => ?_)
 ·skip
  replace h3 := of_decide_eq_true h3
  refine xk (t_n (xE (qm (qA ?_))))
  refine sps [pp bs os, pp bs os] ?_
  refine sw (qP bs (os) 1 Tryz.underlying36 rfl rfl Tryz.sizeOf22 rfl ?_)
  refine sw (qE (.slice qw s.qf.length qo) Tryz.isAgg22 rfl (H.xY 0 rfl 1 rfl) ?_)
  refine sp (.int .i64 y) ?_
  obtain ⟨b4, o5, rfl⟩ := H.addr 1 rfl (by omega)
  refine sw (xK y Tryz.underlying22 ti2 rfl rfl (by omega) (by omega) ?_)
  refine sw (qE (.int .i64 (s.qf[y.toNat]!)) Tryz.isAgg2 rfl (H.jq 1 rfl y (by omega) (by omega)) ?_)
  refine sp (.int .i64 (s.qf[y.toNat]!)) ?_
  refine qx (t_n (qm (qA ?_)))
  refine sps [.int .i64 (s.qf[y.toNat]!), .int .i64 other, .bool ((s.qf[y.toNat]! : Int) == other)] ?_
  refine qx (t_n ?_)
  refine qW ((s.qf[y.toNat]! : Int) == other) rfl (fun h6 => ?_) (fun h6 => ?_)
  ·skip
   replace h6 := eq_of_beq h6
   refine qm (qA ?_)
   refine sp (.bool true) ?_
   refine qx (t_n (xC (b_r (t_r (b_r (t_r ?_))))))
   refine ret1 (.bool true) rfl rfl ⟨_, rfl, ?_, H.base⟩
   rw [yP (i1.2 (.here (by omega) ‹_›))]
  replace h6 := ne_of_beq_false h6
  refine xk (b_n ?_)
  have up1 := up (by omega)
  refine xH (m' := (s.qf[y.toNat]!).toNat) (by omega) ⟨_, (s.qf[y.toNat]!), (by exact qj (qj (qj (rfl) rfl) rfl) rfl), ?_, ?_, rfl, H⟩
  · have := up (by omega); omega
  · exact i1.trans (lies_iff.trans ⟨fun h => h.2.resolve_left ‹_›, fun h => ⟨by omega, .inr h⟩⟩)
 replace h3 := of_decide_eq_false h3
 refine zK (t_x (t_x (b_x (t_n (qm (qA ?_))))))
 refine sp (.bool false) ?_
 refine qx (t_n (xC ?_))
 refine ret1 (.bool false) rfl rfl ⟨_, rfl, ?_, H.base⟩
 rw [xy (fun h => by have := (lies_iff.1 (i1.1 h)).1; omega)]

theorem l02Rule_ok (w : World) (s : qX) (r : QG) (bs os : Nat) (qw : Option Addr) (qo : Nat) (qO : List Nat) (qF : Option Addr) (qB : Nat) (xw : List Nat) (br or : Nat) (vN : Option Addr) (vK : Nat) (QZ : List Nat) (jC : Option Addr) (jB : Nat) (Xz : List Nat) (vZ : Option Addr) (vY : Nat) (Xg : List Nat) (jP : Option Addr) (jO : Nat) (XM : List Nat) (Qy : Option Addr) (Qx : Nat) (FrOut : List Nat) (vw : Option Addr) (zN : Nat) (FrInto : List Nat) (hs : jb w bs os [.int .i64 s.qJ, .slice qw s.qf.length qo, .slice qF s.qg.length qB]) (xx : qV.rep w qO [.slice qw s.qf.length qo] s.qf) (xM : qV.rep w xw [.slice qF s.qg.length qB] s.qg) (hr : jb w br or [.int .i64 r.qy, .int .i64 r.zh, .slice vN r.qR.length vK, .slice jC r.xh.length jB, .slice vZ r.xm.length vY, .slice jP r.xB.length jO, .slice Qy r.zk.length Qx, .slice vw r.qC.length zN, .bool r.xQ]) (hrNeed : qV.rep w QZ [.slice vN r.qR.length vK] r.qR) (hrHave : qV.rep w Xz [.slice jC r.xh.length jB] r.xh) (hrLack : qV.rep w Xg [.slice vZ r.xm.length vY] r.xm) (hrHere : qV.rep w XM [.slice jP r.xB.length jO] r.xB) (hrOut : qV.rep w FrOut [.slice Qy r.zk.length Qx] r.zk) (hrInto : qV.rep w FrInto [.slice vw r.qC.length zN] r.qC) (p0 : yE s) : Calls Tryz.prog 84 #[pp bs os, pp br or] w (Ret (fun v w' => v = .bool (dec (RuleOk s r))) w) := by
 refine enter (n := 174) Tryz.func84 rfl Tryz.ntmps84 (Nat.le_of_ble_eq_true rfl) ?_
 have H := ((((((((((St.start w).arg hrInto).arg hrOut).arg hrHere).arg hrLack).arg hrHave).arg hrNeed).argAt hr).arg xM).arg xx).argAt hs
 have vU := qN xx
 have jW := qN xM
 have nhrNeed := qN hrNeed
 have nhrHave := qN hrHave
 have nhrLack := qN hrLack
 have nhrHere := qN hrHere
 have nhrOut := qN hrOut
 have nhrInto := qN hrInto
 clear hs xx xM hr hrNeed hrHave hrLack hrHere hrOut hrInto
 refine qm (qA ?_)
 refine sp (.bool false) ?_
 refine qx (t_n (qm (qm ?_)))
 refine yw rfl H fun H => ?_
 refine rtp 0 (pp br or) H ?_
 refine rtp 1 (pp br or) H ?_
 refine rt 2 (pp br (or + 0)) (xG br (or) 0 Tryz.underlying110 rfl rfl Tryz.sizeOf2 rfl) H ?_
 refine rt 3 (.int .i64 r.qy) (xA Tryz.isAgg2 rfl (fun _ h => h.xY 3 rfl 0 rfl)) H ?_
 refine rtp 4 (pp bs os) H ?_
 refine rtp 5 (pp bs os) H ?_
 refine rt 6 (pp bs (os + 1)) (xG bs (os) 1 Tryz.underlying36 rfl rfl Tryz.sizeOf22 rfl) H ?_
 refine rt 7 (.slice qw s.qf.length qo) (xA Tryz.isAgg22 rfl (fun _ h => h.xY 0 rfl 1 rfl)) H ?_
 refine rt 8 (.int .i64 s.qf.length) (y_len Tryz.underlying22 qw s.qf.length qo rfl) H ?_
 refine rt 9 (.int .i64 (s.qf.length - 1)) (y_sub s.qf.length 1 rfl rfl (by omega)) H ?_
 refine xq [10] (by kernel_rfl) (by simp) (xZ rfl ?_ xu)
 refine qZ #[.int .i64 r.qy, .int .i64 0, .int .i64 (s.qf.length - 1)] rfl rfl Tryz.call44 (l00In_ok w.drew r.qy 0 (s.qf.length - 1)) ?_
 rintro _ w2 rfl x3
 replace H := H.ext x3
 refine ⟨H, ?_⟩
 refine rtp 11 (.bool (!(inR r.qy 0 (s.qf.length - 1)))) H ?_
 refine rtp 12 (.bool (!(inR r.qy 0 (s.qf.length - 1)))) H ?_
 cases h4 : (!(inR r.qy 0 (s.qf.length - 1)))
 ·skip
  replace h4 := qY h4
  replace h4 := Xc.1 h4
  refine rgp 13 (pp br or) 19 H ?_
  refine rgp 14 (pp br or) 19 H ?_
  refine rg 15 (pp br (or + 1)) 19 (xG br (or) 1 Tryz.underlying110 rfl rfl Tryz.sizeOf2 rfl) H ?_
  refine rg 16 (.int .i64 r.zh) 19 (xA Tryz.isAgg2 rfl (fun _ h => h.xY 3 rfl 1 rfl)) H ?_
  refine xq [17] (by kernel_rfl) (by simp) (Xp rfl (e := 19) rfl rfl ?_ xu)
  refine qZ #[.int .i64 r.zh, .int .i64 0, .int .i64 9] rfl rfl Tryz.call44 (l00In_ok w2 r.zh 0 9) ?_
  rintro _ w5 rfl x6
  replace H := H.ext x6
  refine ⟨H, ?_⟩
  refine rgp 18 (.bool (!(inR r.zh 0 9))) 19 H ?_
  refine rtp 19 (.bool (!(inR r.zh 0 9))) H ?_
  refine rtp 20 (.bool (!(inR r.zh 0 9))) H ?_
  cases h7 : (!(inR r.zh 0 9))
  ·skip
   replace h7 := qY h7
   replace h7 := Xc.1 h7
   refine rgp 21 (pp br or) 27 H ?_
   refine rgp 22 (pp br or) 27 H ?_
   refine rg 23 (pp br (or + 8)) 27 (xG br (or) 8 Tryz.underlying110 rfl rfl Tryz.sizeOf4 rfl) H ?_
   refine rg 24 (.bool r.xQ) 27 (xA Tryz.isAgg4 rfl (fun _ h => h.xY 3 rfl 8 rfl)) H ?_
   refine rgp 25 (.bool r.xQ) 27 H ?_
   cases h8 : (r.xQ)
   ·skip
    rw [h8] at H
    refine zT [26, 27, 28, 29, 30] 5 (H) ?_
    refine rgp 31 (.bool false) 27 H ?_
    refine rtp 32 (.bool false) H ?_
    refine rtp 33 (.bool false) H ?_
    refine rgp 34 (pp br or) 40 H ?_
    refine rgp 35 (pp br or) 40 H ?_
    refine rg 36 (pp br (or + 7)) 40 (xG br (or) 7 Tryz.underlying110 rfl rfl Tryz.sizeOf108 rfl) H ?_
    refine rg 37 (.slice vw r.qC.length zN) 40 (xA Tryz.isAgg108 rfl (fun _ h => h.xY 3 rfl 7 rfl)) H ?_
    refine rg 38 (.int .i64 r.qC.length) 40 (y_len Tryz.underlying108 vw r.qC.length zN rfl) H ?_
    refine rgp 39 (.bool (decide ((r.qC.length : Int) > 3))) 40 H ?_
    refine rtp 40 (.bool (decide ((r.qC.length : Int) > 3))) H ?_
    refine xN (by kernel_rfl) (t_n ?_)
    refine qW (decide ((r.qC.length : Int) > 3)) rfl (fun h9 => ?_) (fun h9 => ?_)
    ·skip
     replace h9 := of_decide_eq_true h9
     refine qm (qA ?_)
     refine sp (.bool false) ?_
     refine qx (t_n (xC (t_r ?_)))
     refine ret1 (.bool false) rfl rfl ⟨_, rfl, ?_, H.base⟩
     rw [xy (fun h => by obtain ⟨h1, h2, h3, h4, h5, h6, h7, h8, h9, h10, h11⟩ := h; first | contradiction | omega | exact h3 ⟨‹_›, ‹_›⟩ | (obtain ⟨q1, q2, q3, q4, q5⟩ := h11 k (by omega); first | contradiction | omega | (have := q5 (by omega); omega)))]
    replace h9 := of_decide_eq_false h9
    refine xk (t_n (qm (qm (qA ?_))))
    refine sps [pp bs os, pp br or, pp br or] ?_
    refine sw (qP br (or) 2 Tryz.underlying110 rfl rfl Tryz.sizeOf22 rfl ?_)
    refine sw (qE (.slice vN r.qR.length vK) Tryz.isAgg22 rfl (H.xY 3 rfl 2 rfl) ?_)
    refine sw (qZ #[pp bs os, .slice vN r.qR.length vK] rfl rfl Tryz.call136 (QY w5 s r.qR bs os qw qo qO qF qB xw vN vK QZ (qH (H.get 0 rfl) 0 3) (H.get 1 rfl).1 (H.get 2 rfl).1 (H.get 4 rfl).1) ?_)
    rintro _ w10 rfl x11
    replace H := H.ext x11
    refine sps [.bool (!(dec (zW s.qJ r.qR))), .bool (!(dec (zW s.qJ r.qR)))] ?_
    cases h12 : (!(dec (zW s.qJ r.qR)))
    ·skip
     replace h12 := qY h12
     replace h12 := jG h12
     refine qQ 55 rfl rfl ?_
     refine sp (pp bs os) ?_
     refine qQ 55 rfl rfl ?_
     refine sp (pp br or) ?_
     refine qQ 55 rfl rfl ?_
     refine sp (pp br or) ?_
     refine qQ 55 rfl rfl ?_
     refine sw (qP br (or) 3 Tryz.underlying110 rfl rfl Tryz.sizeOf22 rfl ?_)
     refine qQ 55 rfl rfl ?_
     refine sw (qE (.slice jC r.xh.length jB) Tryz.isAgg22 rfl (H.xY 3 rfl 3 rfl) ?_)
     refine qQ 55 rfl rfl ?_
     refine sw (qZ #[pp bs os, .slice jC r.xh.length jB] rfl rfl Tryz.call136 (QY w10 s r.xh bs os qw qo qO qF qB xw jC jB Xz (qH (H.get 0 rfl) 0 3) (H.get 1 rfl).1 (H.get 2 rfl).1 (H.get 5 rfl).1) ?_)
     rintro _ w13 rfl x14
     replace H := H.ext x14
     refine qQ 55 rfl rfl ?_
     refine sps [.bool (!(dec (zW s.qJ r.xh))), .bool (!(dec (zW s.qJ r.xh))), .bool (!(dec (zW s.qJ r.xh)))] ?_
     cases h15 : (!(dec (zW s.qJ r.xh)))
     ·skip
      replace h15 := qY h15
      replace h15 := jG h15
      refine qQ 64 rfl rfl ?_
      refine sp (pp bs os) ?_
      refine qQ 64 rfl rfl ?_
      refine sp (pp br or) ?_
      refine qQ 64 rfl rfl ?_
      refine sp (pp br or) ?_
      refine qQ 64 rfl rfl ?_
      refine sw (qP br (or) 4 Tryz.underlying110 rfl rfl Tryz.sizeOf22 rfl ?_)
      refine qQ 64 rfl rfl ?_
      refine sw (qE (.slice vZ r.xm.length vY) Tryz.isAgg22 rfl (H.xY 3 rfl 4 rfl) ?_)
      refine qQ 64 rfl rfl ?_
      refine sw (qZ #[pp bs os, .slice vZ r.xm.length vY] rfl rfl Tryz.call136 (QY w13 s r.xm bs os qw qo qO qF qB xw vZ vY Xg (qH (H.get 0 rfl) 0 3) (H.get 1 rfl).1 (H.get 2 rfl).1 (H.get 6 rfl).1) ?_)
      rintro _ w16 rfl x17
      replace H := H.ext x17
      refine qQ 64 rfl rfl ?_
      refine sps [.bool (!(dec (zW s.qJ r.xm))), .bool (!(dec (zW s.qJ r.xm))), .bool (!(dec (zW s.qJ r.xm)))] ?_
      cases h18 : (!(dec (zW s.qJ r.xm)))
      ·skip
       replace h18 := qY h18
       replace h18 := jG h18
       refine qQ 73 rfl rfl ?_
       refine sp (pp bs os) ?_
       refine qQ 73 rfl rfl ?_
       refine sp (pp br or) ?_
       refine qQ 73 rfl rfl ?_
       refine sp (pp br or) ?_
       refine qQ 73 rfl rfl ?_
       refine sw (qP br (or) 5 Tryz.underlying110 rfl rfl Tryz.sizeOf22 rfl ?_)
       refine qQ 73 rfl rfl ?_
       refine sw (qE (.slice jP r.xB.length jO) Tryz.isAgg22 rfl (H.xY 3 rfl 5 rfl) ?_)
       refine qQ 73 rfl rfl ?_
       refine sw (qZ #[pp bs os, .slice jP r.xB.length jO] rfl rfl Tryz.call136 (QY w16 s r.xB bs os qw qo qO qF qB xw jP jO XM (qH (H.get 0 rfl) 0 3) (H.get 1 rfl).1 (H.get 2 rfl).1 (H.get 7 rfl).1) ?_)
       rintro _ w19 rfl x20
       replace H := H.ext x20
       refine qQ 73 rfl rfl ?_
       refine sps [.bool (!(dec (zW s.qJ r.xB))), .bool (!(dec (zW s.qJ r.xB))), .bool (!(dec (zW s.qJ r.xB)))] ?_
       cases h21 : (!(dec (zW s.qJ r.xB)))
       ·skip
        replace h21 := qY h21
        replace h21 := jG h21
        refine qQ 82 rfl rfl ?_
        refine sp (pp bs os) ?_
        refine qQ 82 rfl rfl ?_
        refine sp (pp br or) ?_
        refine qQ 82 rfl rfl ?_
        refine sp (pp br or) ?_
        refine qQ 82 rfl rfl ?_
        refine sw (qP br (or) 6 Tryz.underlying110 rfl rfl Tryz.sizeOf22 rfl ?_)
        refine qQ 82 rfl rfl ?_
        refine sw (qE (.slice Qy r.zk.length Qx) Tryz.isAgg22 rfl (H.xY 3 rfl 6 rfl) ?_)
        refine qQ 82 rfl rfl ?_
        refine sw (qZ #[pp bs os, .slice Qy r.zk.length Qx] rfl rfl Tryz.call136 (QY w19 s r.zk bs os qw qo qO qF qB xw Qy Qx FrOut (qH (H.get 0 rfl) 0 3) (H.get 1 rfl).1 (H.get 2 rfl).1 (H.get 8 rfl).1) ?_)
        rintro _ w22 rfl x23
        replace H := H.ext x23
        refine qQ 82 rfl rfl ?_
        refine sps [.bool (!(dec (zW s.qJ r.zk))), .bool (!(dec (zW s.qJ r.zk))), .bool (!(dec (zW s.qJ r.zk)))] ?_
        cases h24 : (!(dec (zW s.qJ r.zk)))
        ·skip
         replace h24 := qY h24
         replace h24 := jG h24
         refine qQ 91 rfl rfl ?_
         refine sp (pp br or) ?_
         refine qQ 91 rfl rfl ?_
         refine sp (pp br or) ?_
         refine qQ 91 rfl rfl ?_
         refine sw (qP br (or) 2 Tryz.underlying110 rfl rfl Tryz.sizeOf22 rfl ?_)
         refine qQ 91 rfl rfl ?_
         refine sw (qE (.slice vN r.qR.length vK) Tryz.isAgg22 rfl (H.xY 3 rfl 2 rfl) ?_)
         refine qQ 91 rfl rfl ?_
         refine sw (qZ #[.slice vN r.qR.length vK] rfl rfl Tryz.call137 (l01Size_ok w22 r.qR vN vK QZ (H.get 4 rfl).1 (by first | assumption | exact jK (by assumption) | exact Xf (by assumption))) ?_)
         rintro _ w25 rfl x26
         replace H := H.ext x26
         refine qQ 91 rfl rfl ?_
         refine sps [.bool ((sumL r.qR : Int) == 0), .bool ((sumL r.qR : Int) == 0)] ?_
         refine qx (t_n ?_)
         refine qW ((sumL r.qR : Int) == 0) rfl (fun h27 => ?_) (fun h27 => ?_)
         ·skip
          replace h27 := eq_of_beq h27
          refine qm (qA ?_)
          refine sp (.bool false) ?_
          refine qx (t_n (xC (t_r ?_)))
          refine ret1 (.bool false) rfl rfl ⟨_, rfl, ?_, H.base⟩
          rw [xy (fun h => by obtain ⟨h1, h2, h3, h4, h5, h6, h7, h8, h9, h10, h11⟩ := h; first | contradiction | omega | exact h3 ⟨‹_›, ‹_›⟩ | (obtain ⟨q1, q2, q3, q4, q5⟩ := h11 k (by omega); first | contradiction | omega | (have := q5 (by omega); omega)))]
         replace h27 := ne_of_beq_false h27
         refine xk (t_n (qm (qm (qA ?_))))
         refine sp (.int .i64 0) ?_
         refine qx (t_n (xE ?_))
         refine zU (fun m' ρ w28 => ∃ (junk : Env) (k : Nat), ρ = upd (upd (upd junk 0 (pp bs os)) 1 (pp br or)) 5 (.int .i64 k) ∧ (k ≤ r.qC.length) ∧ (IntosTo s r k) ∧ m' = r.qC.length - k ∧ St w w28 [] [atF bs os [.int .i64 s.qJ, .slice qw s.qf.length qo, .slice qF s.qg.length qB], isF false qO (.slice qw s.qf.length qo) s.qf, isF false xw (.slice qF s.qg.length qB) s.qg, atF br or [.int .i64 r.qy, .int .i64 r.zh, .slice vN r.qR.length vK, .slice jC r.xh.length jB, .slice vZ r.xm.length vY, .slice jP r.xB.length jO, .slice Qy r.zk.length Qx, .slice vw r.qC.length zN, .bool false], isF false QZ (.slice vN r.qR.length vK) r.qR, isF false Xz (.slice jC r.xh.length jB) r.xh, isF false Xg (.slice vZ r.xm.length vY) r.xm, isF false XM (.slice jP r.xB.length jO) r.xB, isF false FrOut (.slice Qy r.zk.length Qx) r.zk, isF false FrInto (.slice vw r.qC.length zN) r.qC]) (r.qC.length - 0) ⟨_, 0, (by exact qj (qj (qj (rfl) rfl) rfl) rfl), (by omega), (by exact fun j hj => by omega), rfl, H⟩ ?_
         clear H
         rintro m' ρ w29 ⟨junk, k, rfl, i0, i1, rfl, H⟩
         refine qm (qm (qA ?_))
         refine sps [.int .i64 k, pp br or, pp br or] ?_
         refine sw (qP br (or) 7 Tryz.underlying110 rfl rfl Tryz.sizeOf108 rfl ?_)
         refine sw (qE (.slice vw r.qC.length zN) Tryz.isAgg108 rfl (H.xY 3 rfl 7 rfl) ?_)
         refine sw (zX Tryz.underlying108 vw r.qC.length zN rfl ?_)
         refine sp (.bool (decide ((k : Int) < r.qC.length))) ?_
         refine qx (t_n ?_)
         refine qW (decide ((k : Int) < r.qC.length)) rfl (fun h30 => ?_) (fun h30 => ?_)
         ·skip
          replace h30 := of_decide_eq_true h30
          refine xk (t_n (qm (xE (qm (qA ?_)))))
          refine sps [pp br or, pp br or] ?_
          refine sw (qP br (or) 7 Tryz.underlying110 rfl rfl Tryz.sizeOf108 rfl ?_)
          refine sw (qE (.slice vw r.qC.length zN) Tryz.isAgg108 rfl (H.xY 3 rfl 7 rfl) ?_)
          refine sp (.int .i64 k) ?_
          obtain ⟨b31, o32, rfl⟩ := H.addr 9 rfl (by omega)
          obtain ⟨Vt, Vs, Fe33Bag, H⟩ := H.jT 9 rfl k k (by omega) (by omega) (by omega)
          refine sw (xK k Tryz.underlying108 ti115 rfl rfl (by omega) (by omega) ?_)
          refine sp (pp b31 (o32 + (k : Int).toNat * 2)) ?_
          refine qx (t_n (qm (qm ?_)))
          refine yw rfl H fun H => ?_
          refine rtp 0 (pp b31 (o32 + (k : Int).toNat * 2)) H ?_
          refine rtp 1 (pp b31 (o32 + (k : Int).toNat * 2)) H ?_
          refine rt 2 (pp b31 (o32 + (k : Int).toNat * 2 + 0)) (xG b31 (o32 + (k : Int).toNat * 2) 0 Tryz.underlying115 rfl rfl Tryz.sizeOf2 rfl) H ?_
          refine rt 3 (.int .i64 ((r.qC[k]!).qy)) (xA Tryz.isAgg2 rfl (fun _ h => h.xY 1 rfl 0 rfl)) H ?_
          refine rtp 4 (pp bs os) H ?_
          refine rtp 5 (pp bs os) H ?_
          refine rt 6 (pp bs (os + 1)) (xG bs (os) 1 Tryz.underlying36 rfl rfl Tryz.sizeOf22 rfl) H ?_
          refine rt 7 (.slice qw s.qf.length qo) (xA Tryz.isAgg22 rfl (fun _ h => h.xY 2 rfl 1 rfl)) H ?_
          refine rt 8 (.int .i64 s.qf.length) (y_len Tryz.underlying22 qw s.qf.length qo rfl) H ?_
          refine rt 9 (.int .i64 (s.qf.length - 1)) (y_sub s.qf.length 1 rfl rfl (by omega)) H ?_
          refine xq [10] (by kernel_rfl) (by simp) (xZ rfl ?_ xu)
          refine qZ #[.int .i64 ((r.qC[k]!).qy), .int .i64 0, .int .i64 (s.qf.length - 1)] rfl rfl Tryz.call44 (l00In_ok w29.drew ((r.qC[k]!).qy) 0 (s.qf.length - 1)) ?_
          rintro _ w35 rfl x36
          replace H := H.ext x36
          refine ⟨H, ?_⟩
          refine rtp 11 (.bool (!(inR ((r.qC[k]!).qy) 0 (s.qf.length - 1)))) H ?_
          refine rtp 12 (.bool (!(inR ((r.qC[k]!).qy) 0 (s.qf.length - 1)))) H ?_
          cases h37 : (!(inR ((r.qC[k]!).qy) 0 (s.qf.length - 1)))
          ·skip
           replace h37 := qY h37
           replace h37 := Xc.1 h37
           refine rgp 13 (pp bs os) 126 H ?_
           refine rgp 14 (pp b31 (o32 + (k : Int).toNat * 2)) 126 H ?_
           refine rgp 15 (pp b31 (o32 + (k : Int).toNat * 2)) 126 H ?_
           refine rg 16 (pp b31 (o32 + (k : Int).toNat * 2 + 0)) 126 (xG b31 (o32 + (k : Int).toNat * 2) 0 Tryz.underlying115 rfl rfl Tryz.sizeOf2 rfl) H ?_
           refine rg 17 (.int .i64 ((r.qC[k]!).qy)) 126 (xA Tryz.isAgg2 rfl (fun _ h => h.xY 1 rfl 0 rfl)) H ?_
           refine rgp 18 (pp br or) 126 H ?_
           refine rgp 19 (pp br or) 126 H ?_
           refine rg 20 (pp br (or + 0)) 126 (xG br (or) 0 Tryz.underlying110 rfl rfl Tryz.sizeOf2 rfl) H ?_
           refine rg 21 (.int .i64 r.qy) 126 (xA Tryz.isAgg2 rfl (fun _ h => h.xY 5 rfl 0 rfl)) H ?_
           refine xq [22] (by kernel_rfl) (by simp) (Xp rfl (e := 126) rfl rfl ?_ xu)
           refine qZ #[pp bs os, .int .i64 ((r.qC[k]!).qy), .int .i64 r.qy] rfl rfl Tryz.call138 (l02In_ok w35 s ((r.qC[k]!).qy) r.qy bs os qw qo qO qF qB xw (qH (H.get 2 rfl) 0 3) (H.get 3 rfl).1 (H.get 4 rfl).1 (by assumption) (by assumption)) ?_
           rintro _ w38 rfl x39
           replace H := H.ext x39
           refine ⟨H, ?_⟩
           refine rgp 23 (.bool (!(dec (Lies s.qf r.qy ((r.qC[k]!).qy))))) 126 H ?_
           refine rtp 24 (.bool (!(dec (Lies s.qf r.qy ((r.qC[k]!).qy))))) H ?_
           refine rtp 25 (.bool (!(dec (Lies s.qf r.qy ((r.qC[k]!).qy))))) H ?_
           cases h40 : (!(dec (Lies s.qf r.qy ((r.qC[k]!).qy))))
           ·skip
            replace h40 := qY h40
            replace h40 := jG h40
            refine rgp 26 (pp bs os) 139 H ?_
            refine rgp 27 (pp b31 (o32 + (k : Int).toNat * 2)) 139 H ?_
            refine rgp 28 (pp b31 (o32 + (k : Int).toNat * 2)) 139 H ?_
            refine rg 29 (pp b31 (o32 + (k : Int).toNat * 2 + 1)) 139 (xG b31 (o32 + (k : Int).toNat * 2) 1 Tryz.underlying115 rfl rfl Tryz.sizeOf22 rfl) H ?_
            refine rg 30 (.slice Vt (((r.qC[k]!).vH).length) Vs) 139 (xA Tryz.isAgg22 rfl (fun _ h => h.xY 1 rfl 1 rfl)) H ?_
            refine xq [31] (by kernel_rfl) (by simp) (Xp rfl (e := 139) rfl rfl ?_ xu)
            refine qZ #[pp bs os, .slice Vt (((r.qC[k]!).vH).length) Vs] rfl rfl Tryz.call136 (QY w38 s ((r.qC[k]!).vH) bs os qw qo qO qF qB xw Vt Vs Fe33Bag (qH (H.get 2 rfl) 0 3) (H.get 3 rfl).1 (H.get 4 rfl).1 (H.get 0 rfl).1) ?_
            rintro _ w41 rfl x42
            replace H := H.ext x42
            refine ⟨H, ?_⟩
            refine rgp 32 (.bool (!(dec (zW s.qJ ((r.qC[k]!).vH))))) 139 H ?_
            refine rtp 33 (.bool (!(dec (zW s.qJ ((r.qC[k]!).vH))))) H ?_
            refine rtp 34 (.bool (!(dec (zW s.qJ ((r.qC[k]!).vH))))) H ?_
            cases h43 : (!(dec (zW s.qJ ((r.qC[k]!).vH))))
            ·skip
             replace h43 := qY h43
             replace h43 := jG h43
             refine rgp 35 (pp b31 (o32 + (k : Int).toNat * 2)) 148 H ?_
             refine rgp 36 (pp b31 (o32 + (k : Int).toNat * 2)) 148 H ?_
             refine rg 37 (pp b31 (o32 + (k : Int).toNat * 2 + 1)) 148 (xG b31 (o32 + (k : Int).toNat * 2) 1 Tryz.underlying115 rfl rfl Tryz.sizeOf22 rfl) H ?_
             refine rg 38 (.slice Vt (((r.qC[k]!).vH).length) Vs) 148 (xA Tryz.isAgg22 rfl (fun _ h => h.xY 1 rfl 1 rfl)) H ?_
             refine xq [39] (by kernel_rfl) (by simp) (Xp rfl (e := 148) rfl rfl ?_ xu)
             refine qZ #[.slice Vt (((r.qC[k]!).vH).length) Vs] rfl rfl Tryz.call137 (l01Size_ok w41 ((r.qC[k]!).vH) Vt Vs Fe33Bag (H.get 0 rfl).1 (by first | assumption | exact jK (by assumption) | exact Xf (by assumption))) ?_
             rintro _ w44 rfl x45
             replace H := H.ext x45
             refine ⟨H, ?_⟩
             refine rgp 40 (.bool ((sumL ((r.qC[k]!).vH) : Int) == 0)) 148 H ?_
             refine rtp 41 (.bool ((sumL ((r.qC[k]!).vH) : Int) == 0)) H ?_
             refine xN (by kernel_rfl) (t_n ?_)
             refine qW ((sumL ((r.qC[k]!).vH) : Int) == 0) rfl (fun h46 => ?_) (fun h46 => ?_)
             ·skip
              replace h46 := eq_of_beq h46
              refine qm (qA ?_)
              refine sp (.bool false) ?_
              refine qx (t_n (xC (t_r (b_r (t_r (t_r (b_r (t_r ?_))))))))
              refine ret1 (.bool false) rfl rfl ⟨_, rfl, ?_, H.base⟩
              rw [xy (fun h => by obtain ⟨h1, h2, h3, h4, h5, h6, h7, h8, h9, h10, h11⟩ := h; first | contradiction | omega | exact h3 ⟨‹_›, ‹_›⟩ | (obtain ⟨q1, q2, q3, q4, q5⟩ := h11 k (by omega); first | contradiction | omega | (have := q5 (by omega); omega)))]
             replace h46 := ne_of_beq_false h46
             refine xk (t_n (qm ?_))
             refine yw rfl H fun H => ?_
             refine rtp 0 (.int .i64 k) H ?_
             refine rtp 1 (.bool (decide ((k : Int) > 0))) H ?_
             refine rtp 2 (.bool (decide ((k : Int) > 0))) H ?_
             cases h48 : (decide ((k : Int) > 0))
             ·skip
              replace h48 := of_decide_eq_false h48
              refine zT [3, 4, 5, 6, 7, 8, 9, 10, 11, 12, 13, 14, 15, 16] 14 (H) ?_
              refine rtp 17 (.bool false) H ?_
              refine xN (by kernel_rfl) (t_n ?_)
              refine qW false rfl (fun h => absurd h (by decide)) (fun _ => ?_)
              refine xk (b_n (t_n (qA ?_)))
              refine sp (.int .i64 k) ?_
              refine sw (zZ k 1 rfl rfl (by omega) ?_)
              refine sp (.int .i64 (k + 1)) ?_
              refine qx ?_
              refine xH (m' := r.qC.length - (k + 1)) (by omega) ⟨_, k + 1, (by exact qj (qj (qj (rfl) rfl) rfl) rfl), ?_, ?_, rfl, H.sel _ (.refl _) _ (by simp)⟩
              · omega
              · exact i1.succ ⟨‹_›, ‹_›, ‹_›, ‹_›, fun hk => by omega⟩
             replace h48 := of_decide_eq_true h48
             refine rgp 3 (pp br or) 158 H ?_
             refine rgp 4 (pp br or) 158 H ?_
             refine rg 5 (pp br (or + 7)) 158 (xG br (or) 7 Tryz.underlying110 rfl rfl Tryz.sizeOf108 rfl) H ?_
             refine rg 6 (.slice (aa b31 o32) r.qC.length zN) 158 (xA Tryz.isAgg108 rfl (fun _ h => h.xY 5 rfl 7 rfl)) H ?_
             refine rgp 7 (.int .i64 k) 158 H ?_
             refine rg 8 (.int .i64 (k - 1)) 158 (y_sub k 1 rfl rfl (by omega)) H ?_
             obtain ⟨ae49Bag, ce49Bag, Fe49Bag, H⟩ := H.jT 11 rfl (k - 1) (k - 1) (by omega) (by omega) (by omega)
             refine rg 9 (pp b31 (o32 + (k - 1 : Int).toNat * 2)) 158 (xO b31 (o32) r.qC.length zN (k - 1) Tryz.underlying108 ti115 rfl rfl (by omega) (by omega)) (H.sel _ (.refl _) _ (fun _ h => List.mem_cons_of_mem _ (List.mem_cons_of_mem _ (h)))) ?_
             refine rg 10 (pp b31 (o32 + (k - 1 : Int).toNat * 2 + 0)) 158 (xG b31 (o32 + (k - 1 : Int).toNat * 2) 0 Tryz.underlying115 rfl rfl Tryz.sizeOf2 rfl) (H.sel _ (.refl _) _ (fun _ h => List.mem_cons_of_mem _ (List.mem_cons_of_mem _ (h)))) ?_
             refine rgp 12 (pp b31 (o32 + (k : Int).toNat * 2)) 158 (H.sel _ (.refl _) _ (fun _ h => List.mem_cons_of_mem _ (List.mem_cons_of_mem _ (h)))) ?_
             refine rgp 13 (pp b31 (o32 + (k : Int).toNat * 2)) 158 (H.sel _ (.refl _) _ (fun _ h => List.mem_cons_of_mem _ (List.mem_cons_of_mem _ (h)))) ?_
             refine rg 14 (pp b31 (o32 + (k : Int).toNat * 2 + 0)) 158 (xG b31 (o32 + (k : Int).toNat * 2) 0 Tryz.underlying115 rfl rfl Tryz.sizeOf2 rfl) (H.sel _ (.refl _) _ (fun _ h => List.mem_cons_of_mem _ (List.mem_cons_of_mem _ (h)))) ?_
             refine rg 15 (.int .i64 ((r.qC[k]!).qy)) 158 (xA Tryz.isAgg2 rfl (fun _ h => h.xY 1 rfl 0 rfl)) (H.sel _ (.refl _) _ (fun _ h => List.mem_cons_of_mem _ (List.mem_cons_of_mem _ (h)))) ?_
             refine xq [11] (by kernel_rfl) (by simp) (Xp rfl (e := 158) rfl rfl ?_ xu)
             refine qE (.int .i64 ((r.qC[k - 1]!).qy)) Tryz.isAgg2 rfl (H.xY 1 rfl 0 rfl) ?_
             refine ⟨H.sel _ (.refl _) _ (fun _ h => List.mem_cons_of_mem _ (List.mem_cons_of_mem _ (h))), ?_⟩
             refine rgp 16 (.bool (decide (((r.qC[k - 1]!).qy : Int) ≥ ((r.qC[k]!).qy)))) 158 (H.sel _ (.refl _) _ (fun _ h => List.mem_cons_of_mem _ (List.mem_cons_of_mem _ (h)))) ?_
             refine rtp 17 (.bool (decide (((r.qC[k - 1]!).qy : Int) ≥ ((r.qC[k]!).qy)))) (H.sel _ (.refl _) _ (fun _ h => List.mem_cons_of_mem _ (List.mem_cons_of_mem _ (h)))) ?_
             refine xN (by kernel_rfl) (t_n ?_)
             refine qW (decide (((r.qC[k - 1]!).qy : Int) ≥ ((r.qC[k]!).qy))) rfl (fun h50 => ?_) (fun h50 => ?_)
             ·skip
              replace h50 := of_decide_eq_true h50
              refine qm (qA ?_)
              refine sp (.bool false) ?_
              refine qx (t_n (xC (b_r (t_r (t_r (b_r (t_r ?_)))))))
              refine ret1 (.bool false) rfl rfl ⟨_, rfl, ?_, H.base⟩
              rw [xy (fun h => by obtain ⟨h1, h2, h3, h4, h5, h6, h7, h8, h9, h10, h11⟩ := h; first | contradiction | omega | exact h3 ⟨‹_›, ‹_›⟩ | (obtain ⟨q1, q2, q3, q4, q5⟩ := h11 k (by omega); first | contradiction | omega | (have := q5 (by omega); omega)))]
             replace h50 := of_decide_eq_false h50
             refine xk (b_n (t_n (qA ?_)))
             refine sp (.int .i64 k) ?_
             refine sw (zZ k 1 rfl rfl (by omega) ?_)
             refine sp (.int .i64 (k + 1)) ?_
             refine qx ?_
             refine xH (m' := r.qC.length - (k + 1)) (by omega) ⟨_, k + 1, (by exact qj (qj (qj (rfl) rfl) rfl) rfl), ?_, ?_, rfl, H.sel _ (.refl _) _ (by simp)⟩
             · omega
             · exact i1.succ ⟨‹_›, ‹_›, ‹_›, ‹_›, fun hk => by omega⟩
            replace h43 := xg h43
            replace h43 := xX h43
            refine zT [35, 36, 37, 38, 39, 40] 6 (H) ?_
            refine rtp 41 (.bool true) H ?_
            refine xN (by kernel_rfl) (t_n ?_)
            refine qW true rfl (fun _ => ?_) (fun h => absurd h (by decide))
            refine qm (qA ?_)
            refine sp (.bool false) ?_
            refine qx (t_n (xC (t_r (b_r (t_r (t_r (b_r (t_r ?_))))))))
            refine ret1 (.bool false) rfl rfl ⟨_, rfl, ?_, H.base⟩
            rw [xy (fun h => by obtain ⟨h1, h2, h3, h4, h5, h6, h7, h8, h9, h10, h11⟩ := h; first | contradiction | omega | exact h3 ⟨‹_›, ‹_›⟩ | (obtain ⟨q1, q2, q3, q4, q5⟩ := h11 k (by omega); first | contradiction | omega | (have := q5 (by omega); omega)))]
           replace h40 := xg h40
           replace h40 := xX h40
           refine zT [26, 27, 28, 29, 30, 31, 32] 7 (H) ?_
           refine rtp 33 (.bool true) H ?_
           refine rtp 34 (.bool true) H ?_
           refine zT [35, 36, 37, 38, 39, 40] 6 (H) ?_
           refine rtp 41 (.bool true) H ?_
           refine xN (by kernel_rfl) (t_n ?_)
           refine qW true rfl (fun _ => ?_) (fun h => absurd h (by decide))
           refine qm (qA ?_)
           refine sp (.bool false) ?_
           refine qx (t_n (xC (t_r (b_r (t_r (t_r (b_r (t_r ?_))))))))
           refine ret1 (.bool false) rfl rfl ⟨_, rfl, ?_, H.base⟩
           rw [xy (fun h => by obtain ⟨h1, h2, h3, h4, h5, h6, h7, h8, h9, h10, h11⟩ := h; first | contradiction | omega | exact h3 ⟨‹_›, ‹_›⟩ | (obtain ⟨q1, q2, q3, q4, q5⟩ := h11 k (by omega); first | contradiction | omega | (have := q5 (by omega); omega)))]
          replace h37 := xg h37
          replace h37 := XJ h37
          refine zT [13, 14, 15, 16, 17, 18, 19, 20, 21, 22, 23] 11 (H) ?_
          refine rtp 24 (.bool true) H ?_
          refine rtp 25 (.bool true) H ?_
          refine zT [26, 27, 28, 29, 30, 31, 32] 7 (H) ?_
          refine rtp 33 (.bool true) H ?_
          refine rtp 34 (.bool true) H ?_
          refine zT [35, 36, 37, 38, 39, 40] 6 (H) ?_
          refine rtp 41 (.bool true) H ?_
          refine xN (by kernel_rfl) (t_n ?_)
          refine qW true rfl (fun _ => ?_) (fun h => absurd h (by decide))
          refine qm (qA ?_)
          refine sp (.bool false) ?_
          refine qx (t_n (xC (t_r (b_r (t_r (t_r (b_r (t_r ?_))))))))
          refine ret1 (.bool false) rfl rfl ⟨_, rfl, ?_, H.base⟩
          rw [xy (fun h => by obtain ⟨h1, h2, h3, h4, h5, h6, h7, h8, h9, h10, h11⟩ := h; first | contradiction | omega | exact h3 ⟨‹_›, ‹_›⟩ | (obtain ⟨q1, q2, q3, q4, q5⟩ := h11 k (by omega); first | contradiction | omega | (have := q5 (by omega); omega)))]
         replace h30 := of_decide_eq_false h30
         refine zK (t_x (t_x (b_x (t_n (qm (qA ?_))))))
         refine sp (.bool true) ?_
         refine qx (t_n (xC ?_))
         refine ret1 (.bool true) rfl rfl ⟨_, rfl, ?_, H.base⟩
         obtain rfl : k = r.qC.length := by omega
         rw [yP ⟨by assumption, by omega, by simp_all, by omega, by assumption, by assumption, by assumption, by assumption, by assumption, by assumption, i1⟩]
        replace h24 := xg h24
        replace h24 := xX h24
        refine zf [92, 93, 94, 95, 96, 97] ?_
        refine sp (.bool true) ?_
        refine qx (t_n ?_)
        refine qW true rfl (fun _ => ?_) (fun h => absurd h (by decide))
        refine qm (qA ?_)
        refine sp (.bool false) ?_
        refine qx (t_n (xC (t_r ?_)))
        refine ret1 (.bool false) rfl rfl ⟨_, rfl, ?_, H.base⟩
        rw [xy (fun h => by obtain ⟨h1, h2, h3, h4, h5, h6, h7, h8, h9, h10, h11⟩ := h; first | contradiction | omega | exact h3 ⟨‹_›, ‹_›⟩ | (obtain ⟨q1, q2, q3, q4, q5⟩ := h11 k (by omega); first | contradiction | omega | (have := q5 (by omega); omega)))]
       replace h21 := xg h21
       replace h21 := xX h21
       refine zf [83, 84, 85, 86, 87, 88, 89] ?_
       refine sps [.bool true, .bool true] ?_
       refine zf [92, 93, 94, 95, 96, 97] ?_
       refine sp (.bool true) ?_
       refine qx (t_n ?_)
       refine qW true rfl (fun _ => ?_) (fun h => absurd h (by decide))
       refine qm (qA ?_)
       refine sp (.bool false) ?_
       refine qx (t_n (xC (t_r ?_)))
       refine ret1 (.bool false) rfl rfl ⟨_, rfl, ?_, H.base⟩
       rw [xy (fun h => by obtain ⟨h1, h2, h3, h4, h5, h6, h7, h8, h9, h10, h11⟩ := h; first | contradiction | omega | exact h3 ⟨‹_›, ‹_›⟩ | (obtain ⟨q1, q2, q3, q4, q5⟩ := h11 k (by omega); first | contradiction | omega | (have := q5 (by omega); omega)))]
      replace h18 := xg h18
      replace h18 := xX h18
      refine zf [74, 75, 76, 77, 78, 79, 80] ?_
      refine sps [.bool true, .bool true] ?_
      refine zf [83, 84, 85, 86, 87, 88, 89] ?_
      refine sps [.bool true, .bool true] ?_
      refine zf [92, 93, 94, 95, 96, 97] ?_
      refine sp (.bool true) ?_
      refine qx (t_n ?_)
      refine qW true rfl (fun _ => ?_) (fun h => absurd h (by decide))
      refine qm (qA ?_)
      refine sp (.bool false) ?_
      refine qx (t_n (xC (t_r ?_)))
      refine ret1 (.bool false) rfl rfl ⟨_, rfl, ?_, H.base⟩
      rw [xy (fun h => by obtain ⟨h1, h2, h3, h4, h5, h6, h7, h8, h9, h10, h11⟩ := h; first | contradiction | omega | exact h3 ⟨‹_›, ‹_›⟩ | (obtain ⟨q1, q2, q3, q4, q5⟩ := h11 k (by omega); first | contradiction | omega | (have := q5 (by omega); omega)))]
     replace h15 := xg h15
     replace h15 := xX h15
     refine zf [65, 66, 67, 68, 69, 70, 71] ?_
     refine sps [.bool true, .bool true] ?_
     refine zf [74, 75, 76, 77, 78, 79, 80] ?_
     refine sps [.bool true, .bool true] ?_
     refine zf [83, 84, 85, 86, 87, 88, 89] ?_
     refine sps [.bool true, .bool true] ?_
     refine zf [92, 93, 94, 95, 96, 97] ?_
     refine sp (.bool true) ?_
     refine qx (t_n ?_)
     refine qW true rfl (fun _ => ?_) (fun h => absurd h (by decide))
     refine qm (qA ?_)
     refine sp (.bool false) ?_
     refine qx (t_n (xC (t_r ?_)))
     refine ret1 (.bool false) rfl rfl ⟨_, rfl, ?_, H.base⟩
     rw [xy (fun h => by obtain ⟨h1, h2, h3, h4, h5, h6, h7, h8, h9, h10, h11⟩ := h; first | contradiction | omega | exact h3 ⟨‹_›, ‹_›⟩ | (obtain ⟨q1, q2, q3, q4, q5⟩ := h11 k (by omega); first | contradiction | omega | (have := q5 (by omega); omega)))]
    replace h12 := xg h12
    replace h12 := xX h12
    refine zf [56, 57, 58, 59, 60, 61, 62] ?_
    refine sps [.bool true, .bool true] ?_
    refine zf [65, 66, 67, 68, 69, 70, 71] ?_
    refine sps [.bool true, .bool true] ?_
    refine zf [74, 75, 76, 77, 78, 79, 80] ?_
    refine sps [.bool true, .bool true] ?_
    refine zf [83, 84, 85, 86, 87, 88, 89] ?_
    refine sps [.bool true, .bool true] ?_
    refine zf [92, 93, 94, 95, 96, 97] ?_
    refine sp (.bool true) ?_
    refine qx (t_n ?_)
    refine qW true rfl (fun _ => ?_) (fun h => absurd h (by decide))
    refine qm (qA ?_)
    refine sp (.bool false) ?_
    refine qx (t_n (xC (t_r ?_)))
    refine ret1 (.bool false) rfl rfl ⟨_, rfl, ?_, H.base⟩
    rw [xy (fun h => by obtain ⟨h1, h2, h3, h4, h5, h6, h7, h8, h9, h10, h11⟩ := h; first | contradiction | omega | exact h3 ⟨‹_›, ‹_›⟩ | (obtain ⟨q1, q2, q3, q4, q5⟩ := h11 k (by omega); first | contradiction | omega | (have := q5 (by omega); omega)))]
   rw [h8] at H
   refine rgp 26 (pp br or) 32 H ?_
   refine rgp 27 (pp br or) 32 H ?_
   refine rg 28 (pp br (or + 0)) 32 (xG br (or) 0 Tryz.underlying110 rfl rfl Tryz.sizeOf2 rfl) H ?_
   refine rg 29 (.int .i64 r.qy) 32 (xA Tryz.isAgg2 rfl (fun _ h => h.xY 3 rfl 0 rfl)) H ?_
   refine rgp 30 (.bool ((r.qy : Int) == 0)) 32 H ?_
   refine rgp 31 (.bool ((r.qy : Int) == 0)) 27 H ?_
   refine rtp 32 (.bool ((r.qy : Int) == 0)) H ?_
   refine rtp 33 (.bool ((r.qy : Int) == 0)) H ?_
   cases h51 : ((r.qy : Int) == 0)
   ·skip
    replace h51 := ne_of_beq_false h51
    refine rgp 34 (pp br or) 40 H ?_
    refine rgp 35 (pp br or) 40 H ?_
    refine rg 36 (pp br (or + 7)) 40 (xG br (or) 7 Tryz.underlying110 rfl rfl Tryz.sizeOf108 rfl) H ?_
    refine rg 37 (.slice vw r.qC.length zN) 40 (xA Tryz.isAgg108 rfl (fun _ h => h.xY 3 rfl 7 rfl)) H ?_
    refine rg 38 (.int .i64 r.qC.length) 40 (y_len Tryz.underlying108 vw r.qC.length zN rfl) H ?_
    refine rgp 39 (.bool (decide ((r.qC.length : Int) > 3))) 40 H ?_
    refine rtp 40 (.bool (decide ((r.qC.length : Int) > 3))) H ?_
    refine xN (by kernel_rfl) (t_n ?_)
    refine qW (decide ((r.qC.length : Int) > 3)) rfl (fun h52 => ?_) (fun h52 => ?_)
    ·skip
     replace h52 := of_decide_eq_true h52
     refine qm (qA ?_)
     refine sp (.bool false) ?_
     refine qx (t_n (xC (t_r ?_)))
     refine ret1 (.bool false) rfl rfl ⟨_, rfl, ?_, H.base⟩
     rw [xy (fun h => by obtain ⟨h1, h2, h3, h4, h5, h6, h7, h8, h9, h10, h11⟩ := h; first | contradiction | omega | exact h3 ⟨‹_›, ‹_›⟩ | (obtain ⟨q1, q2, q3, q4, q5⟩ := h11 k (by omega); first | contradiction | omega | (have := q5 (by omega); omega)))]
    replace h52 := of_decide_eq_false h52
    refine xk (t_n (qm (qm (qA ?_))))
    refine sps [pp bs os, pp br or, pp br or] ?_
    refine sw (qP br (or) 2 Tryz.underlying110 rfl rfl Tryz.sizeOf22 rfl ?_)
    refine sw (qE (.slice vN r.qR.length vK) Tryz.isAgg22 rfl (H.xY 3 rfl 2 rfl) ?_)
    refine sw (qZ #[pp bs os, .slice vN r.qR.length vK] rfl rfl Tryz.call136 (QY w5 s r.qR bs os qw qo qO qF qB xw vN vK QZ (qH (H.get 0 rfl) 0 3) (H.get 1 rfl).1 (H.get 2 rfl).1 (H.get 4 rfl).1) ?_)
    rintro _ w53 rfl x54
    replace H := H.ext x54
    refine sps [.bool (!(dec (zW s.qJ r.qR))), .bool (!(dec (zW s.qJ r.qR)))] ?_
    cases h55 : (!(dec (zW s.qJ r.qR)))
    ·skip
     replace h55 := qY h55
     replace h55 := jG h55
     refine qQ 55 rfl rfl ?_
     refine sp (pp bs os) ?_
     refine qQ 55 rfl rfl ?_
     refine sp (pp br or) ?_
     refine qQ 55 rfl rfl ?_
     refine sp (pp br or) ?_
     refine qQ 55 rfl rfl ?_
     refine sw (qP br (or) 3 Tryz.underlying110 rfl rfl Tryz.sizeOf22 rfl ?_)
     refine qQ 55 rfl rfl ?_
     refine sw (qE (.slice jC r.xh.length jB) Tryz.isAgg22 rfl (H.xY 3 rfl 3 rfl) ?_)
     refine qQ 55 rfl rfl ?_
     refine sw (qZ #[pp bs os, .slice jC r.xh.length jB] rfl rfl Tryz.call136 (QY w53 s r.xh bs os qw qo qO qF qB xw jC jB Xz (qH (H.get 0 rfl) 0 3) (H.get 1 rfl).1 (H.get 2 rfl).1 (H.get 5 rfl).1) ?_)
     rintro _ w56 rfl x57
     replace H := H.ext x57
     refine qQ 55 rfl rfl ?_
     refine sps [.bool (!(dec (zW s.qJ r.xh))), .bool (!(dec (zW s.qJ r.xh))), .bool (!(dec (zW s.qJ r.xh)))] ?_
     cases h58 : (!(dec (zW s.qJ r.xh)))
     ·skip
      replace h58 := qY h58
      replace h58 := jG h58
      refine qQ 64 rfl rfl ?_
      refine sp (pp bs os) ?_
      refine qQ 64 rfl rfl ?_
      refine sp (pp br or) ?_
      refine qQ 64 rfl rfl ?_
      refine sp (pp br or) ?_
      refine qQ 64 rfl rfl ?_
      refine sw (qP br (or) 4 Tryz.underlying110 rfl rfl Tryz.sizeOf22 rfl ?_)
      refine qQ 64 rfl rfl ?_
      refine sw (qE (.slice vZ r.xm.length vY) Tryz.isAgg22 rfl (H.xY 3 rfl 4 rfl) ?_)
      refine qQ 64 rfl rfl ?_
      refine sw (qZ #[pp bs os, .slice vZ r.xm.length vY] rfl rfl Tryz.call136 (QY w56 s r.xm bs os qw qo qO qF qB xw vZ vY Xg (qH (H.get 0 rfl) 0 3) (H.get 1 rfl).1 (H.get 2 rfl).1 (H.get 6 rfl).1) ?_)
      rintro _ w59 rfl x60
      replace H := H.ext x60
      refine qQ 64 rfl rfl ?_
      refine sps [.bool (!(dec (zW s.qJ r.xm))), .bool (!(dec (zW s.qJ r.xm))), .bool (!(dec (zW s.qJ r.xm)))] ?_
      cases h61 : (!(dec (zW s.qJ r.xm)))
      ·skip
       replace h61 := qY h61
       replace h61 := jG h61
       refine qQ 73 rfl rfl ?_
       refine sp (pp bs os) ?_
       refine qQ 73 rfl rfl ?_
       refine sp (pp br or) ?_
       refine qQ 73 rfl rfl ?_
       refine sp (pp br or) ?_
       refine qQ 73 rfl rfl ?_
       refine sw (qP br (or) 5 Tryz.underlying110 rfl rfl Tryz.sizeOf22 rfl ?_)
       refine qQ 73 rfl rfl ?_
       refine sw (qE (.slice jP r.xB.length jO) Tryz.isAgg22 rfl (H.xY 3 rfl 5 rfl) ?_)
       refine qQ 73 rfl rfl ?_
       refine sw (qZ #[pp bs os, .slice jP r.xB.length jO] rfl rfl Tryz.call136 (QY w59 s r.xB bs os qw qo qO qF qB xw jP jO XM (qH (H.get 0 rfl) 0 3) (H.get 1 rfl).1 (H.get 2 rfl).1 (H.get 7 rfl).1) ?_)
       rintro _ w62 rfl x63
       replace H := H.ext x63
       refine qQ 73 rfl rfl ?_
       refine sps [.bool (!(dec (zW s.qJ r.xB))), .bool (!(dec (zW s.qJ r.xB))), .bool (!(dec (zW s.qJ r.xB)))] ?_
       cases h64 : (!(dec (zW s.qJ r.xB)))
       ·skip
        replace h64 := qY h64
        replace h64 := jG h64
        refine qQ 82 rfl rfl ?_
        refine sp (pp bs os) ?_
        refine qQ 82 rfl rfl ?_
        refine sp (pp br or) ?_
        refine qQ 82 rfl rfl ?_
        refine sp (pp br or) ?_
        refine qQ 82 rfl rfl ?_
        refine sw (qP br (or) 6 Tryz.underlying110 rfl rfl Tryz.sizeOf22 rfl ?_)
        refine qQ 82 rfl rfl ?_
        refine sw (qE (.slice Qy r.zk.length Qx) Tryz.isAgg22 rfl (H.xY 3 rfl 6 rfl) ?_)
        refine qQ 82 rfl rfl ?_
        refine sw (qZ #[pp bs os, .slice Qy r.zk.length Qx] rfl rfl Tryz.call136 (QY w62 s r.zk bs os qw qo qO qF qB xw Qy Qx FrOut (qH (H.get 0 rfl) 0 3) (H.get 1 rfl).1 (H.get 2 rfl).1 (H.get 8 rfl).1) ?_)
        rintro _ w65 rfl x66
        replace H := H.ext x66
        refine qQ 82 rfl rfl ?_
        refine sps [.bool (!(dec (zW s.qJ r.zk))), .bool (!(dec (zW s.qJ r.zk))), .bool (!(dec (zW s.qJ r.zk)))] ?_
        cases h67 : (!(dec (zW s.qJ r.zk)))
        ·skip
         replace h67 := qY h67
         replace h67 := jG h67
         refine qQ 91 rfl rfl ?_
         refine sp (pp br or) ?_
         refine qQ 91 rfl rfl ?_
         refine sp (pp br or) ?_
         refine qQ 91 rfl rfl ?_
         refine sw (qP br (or) 2 Tryz.underlying110 rfl rfl Tryz.sizeOf22 rfl ?_)
         refine qQ 91 rfl rfl ?_
         refine sw (qE (.slice vN r.qR.length vK) Tryz.isAgg22 rfl (H.xY 3 rfl 2 rfl) ?_)
         refine qQ 91 rfl rfl ?_
         refine sw (qZ #[.slice vN r.qR.length vK] rfl rfl Tryz.call137 (l01Size_ok w65 r.qR vN vK QZ (H.get 4 rfl).1 (by first | assumption | exact jK (by assumption) | exact Xf (by assumption))) ?_)
         rintro _ w68 rfl x69
         replace H := H.ext x69
         refine qQ 91 rfl rfl ?_
         refine sps [.bool ((sumL r.qR : Int) == 0), .bool ((sumL r.qR : Int) == 0)] ?_
         refine qx (t_n ?_)
         refine qW ((sumL r.qR : Int) == 0) rfl (fun h70 => ?_) (fun h70 => ?_)
         ·skip
          replace h70 := eq_of_beq h70
          refine qm (qA ?_)
          refine sp (.bool false) ?_
          refine qx (t_n (xC (t_r ?_)))
          refine ret1 (.bool false) rfl rfl ⟨_, rfl, ?_, H.base⟩
          rw [xy (fun h => by obtain ⟨h1, h2, h3, h4, h5, h6, h7, h8, h9, h10, h11⟩ := h; first | contradiction | omega | exact h3 ⟨‹_›, ‹_›⟩ | (obtain ⟨q1, q2, q3, q4, q5⟩ := h11 k (by omega); first | contradiction | omega | (have := q5 (by omega); omega)))]
         replace h70 := ne_of_beq_false h70
         refine xk (t_n (qm (qm (qA ?_))))
         refine sp (.int .i64 0) ?_
         refine qx (t_n (xE ?_))
         refine zU (fun m' ρ w71 => ∃ (junk : Env) (k : Nat), ρ = upd (upd (upd junk 0 (pp bs os)) 1 (pp br or)) 5 (.int .i64 k) ∧ (k ≤ r.qC.length) ∧ (IntosTo s r k) ∧ m' = r.qC.length - k ∧ St w w71 [] [atF bs os [.int .i64 s.qJ, .slice qw s.qf.length qo, .slice qF s.qg.length qB], isF false qO (.slice qw s.qf.length qo) s.qf, isF false xw (.slice qF s.qg.length qB) s.qg, atF br or [.int .i64 r.qy, .int .i64 r.zh, .slice vN r.qR.length vK, .slice jC r.xh.length jB, .slice vZ r.xm.length vY, .slice jP r.xB.length jO, .slice Qy r.zk.length Qx, .slice vw r.qC.length zN, .bool true], isF false QZ (.slice vN r.qR.length vK) r.qR, isF false Xz (.slice jC r.xh.length jB) r.xh, isF false Xg (.slice vZ r.xm.length vY) r.xm, isF false XM (.slice jP r.xB.length jO) r.xB, isF false FrOut (.slice Qy r.zk.length Qx) r.zk, isF false FrInto (.slice vw r.qC.length zN) r.qC]) (r.qC.length - 0) ⟨_, 0, (by exact qj (qj (qj (rfl) rfl) rfl) rfl), (by omega), (by exact fun j hj => by omega), rfl, H⟩ ?_
         clear H
         rintro m' ρ w72 ⟨junk, k, rfl, i0, i1, rfl, H⟩
         refine qm (qm (qA ?_))
         refine sps [.int .i64 k, pp br or, pp br or] ?_
         refine sw (qP br (or) 7 Tryz.underlying110 rfl rfl Tryz.sizeOf108 rfl ?_)
         refine sw (qE (.slice vw r.qC.length zN) Tryz.isAgg108 rfl (H.xY 3 rfl 7 rfl) ?_)
         refine sw (zX Tryz.underlying108 vw r.qC.length zN rfl ?_)
         refine sp (.bool (decide ((k : Int) < r.qC.length))) ?_
         refine qx (t_n ?_)
         refine qW (decide ((k : Int) < r.qC.length)) rfl (fun h73 => ?_) (fun h73 => ?_)
         ·skip
          replace h73 := of_decide_eq_true h73
          refine xk (t_n (qm (xE (qm (qA ?_)))))
          refine sps [pp br or, pp br or] ?_
          refine sw (qP br (or) 7 Tryz.underlying110 rfl rfl Tryz.sizeOf108 rfl ?_)
          refine sw (qE (.slice vw r.qC.length zN) Tryz.isAgg108 rfl (H.xY 3 rfl 7 rfl) ?_)
          refine sp (.int .i64 k) ?_
          obtain ⟨b74, o75, rfl⟩ := H.addr 9 rfl (by omega)
          obtain ⟨ae76Bag, ce76Bag, Fe76Bag, H⟩ := H.jT 9 rfl k k (by omega) (by omega) (by omega)
          refine sw (xK k Tryz.underlying108 ti115 rfl rfl (by omega) (by omega) ?_)
          refine sp (pp b74 (o75 + (k : Int).toNat * 2)) ?_
          refine qx (t_n (qm (qm ?_)))
          refine yw rfl H fun H => ?_
          refine rtp 0 (pp b74 (o75 + (k : Int).toNat * 2)) H ?_
          refine rtp 1 (pp b74 (o75 + (k : Int).toNat * 2)) H ?_
          refine rt 2 (pp b74 (o75 + (k : Int).toNat * 2 + 0)) (xG b74 (o75 + (k : Int).toNat * 2) 0 Tryz.underlying115 rfl rfl Tryz.sizeOf2 rfl) H ?_
          refine rt 3 (.int .i64 ((r.qC[k]!).qy)) (xA Tryz.isAgg2 rfl (fun _ h => h.xY 1 rfl 0 rfl)) H ?_
          refine rtp 4 (pp bs os) H ?_
          refine rtp 5 (pp bs os) H ?_
          refine rt 6 (pp bs (os + 1)) (xG bs (os) 1 Tryz.underlying36 rfl rfl Tryz.sizeOf22 rfl) H ?_
          refine rt 7 (.slice qw s.qf.length qo) (xA Tryz.isAgg22 rfl (fun _ h => h.xY 2 rfl 1 rfl)) H ?_
          refine rt 8 (.int .i64 s.qf.length) (y_len Tryz.underlying22 qw s.qf.length qo rfl) H ?_
          refine rt 9 (.int .i64 (s.qf.length - 1)) (y_sub s.qf.length 1 rfl rfl (by omega)) H ?_
          refine xq [10] (by kernel_rfl) (by simp) (xZ rfl ?_ xu)
          refine qZ #[.int .i64 ((r.qC[k]!).qy), .int .i64 0, .int .i64 (s.qf.length - 1)] rfl rfl Tryz.call44 (l00In_ok w72.drew ((r.qC[k]!).qy) 0 (s.qf.length - 1)) ?_
          rintro _ w78 rfl x79
          replace H := H.ext x79
          refine ⟨H, ?_⟩
          refine rtp 11 (.bool (!(inR ((r.qC[k]!).qy) 0 (s.qf.length - 1)))) H ?_
          refine rtp 12 (.bool (!(inR ((r.qC[k]!).qy) 0 (s.qf.length - 1)))) H ?_
          cases h80 : (!(inR ((r.qC[k]!).qy) 0 (s.qf.length - 1)))
          ·skip
           replace h80 := qY h80
           replace h80 := Xc.1 h80
           refine rgp 13 (pp bs os) 126 H ?_
           refine rgp 14 (pp b74 (o75 + (k : Int).toNat * 2)) 126 H ?_
           refine rgp 15 (pp b74 (o75 + (k : Int).toNat * 2)) 126 H ?_
           refine rg 16 (pp b74 (o75 + (k : Int).toNat * 2 + 0)) 126 (xG b74 (o75 + (k : Int).toNat * 2) 0 Tryz.underlying115 rfl rfl Tryz.sizeOf2 rfl) H ?_
           refine rg 17 (.int .i64 ((r.qC[k]!).qy)) 126 (xA Tryz.isAgg2 rfl (fun _ h => h.xY 1 rfl 0 rfl)) H ?_
           refine rgp 18 (pp br or) 126 H ?_
           refine rgp 19 (pp br or) 126 H ?_
           refine rg 20 (pp br (or + 0)) 126 (xG br (or) 0 Tryz.underlying110 rfl rfl Tryz.sizeOf2 rfl) H ?_
           refine rg 21 (.int .i64 r.qy) 126 (xA Tryz.isAgg2 rfl (fun _ h => h.xY 5 rfl 0 rfl)) H ?_
           refine xq [22] (by kernel_rfl) (by simp) (Xp rfl (e := 126) rfl rfl ?_ xu)
           refine qZ #[pp bs os, .int .i64 ((r.qC[k]!).qy), .int .i64 r.qy] rfl rfl Tryz.call138 (l02In_ok w78 s ((r.qC[k]!).qy) r.qy bs os qw qo qO qF qB xw (qH (H.get 2 rfl) 0 3) (H.get 3 rfl).1 (H.get 4 rfl).1 (by assumption) (by assumption)) ?_
           rintro _ w81 rfl x82
           replace H := H.ext x82
           refine ⟨H, ?_⟩
           refine rgp 23 (.bool (!(dec (Lies s.qf r.qy ((r.qC[k]!).qy))))) 126 H ?_
           refine rtp 24 (.bool (!(dec (Lies s.qf r.qy ((r.qC[k]!).qy))))) H ?_
           refine rtp 25 (.bool (!(dec (Lies s.qf r.qy ((r.qC[k]!).qy))))) H ?_
           cases h83 : (!(dec (Lies s.qf r.qy ((r.qC[k]!).qy))))
           ·skip
            replace h83 := qY h83
            replace h83 := jG h83
            refine rgp 26 (pp bs os) 139 H ?_
            refine rgp 27 (pp b74 (o75 + (k : Int).toNat * 2)) 139 H ?_
            refine rgp 28 (pp b74 (o75 + (k : Int).toNat * 2)) 139 H ?_
            refine rg 29 (pp b74 (o75 + (k : Int).toNat * 2 + 1)) 139 (xG b74 (o75 + (k : Int).toNat * 2) 1 Tryz.underlying115 rfl rfl Tryz.sizeOf22 rfl) H ?_
            refine rg 30 (.slice ae76Bag (((r.qC[k]!).vH).length) ce76Bag) 139 (xA Tryz.isAgg22 rfl (fun _ h => h.xY 1 rfl 1 rfl)) H ?_
            refine xq [31] (by kernel_rfl) (by simp) (Xp rfl (e := 139) rfl rfl ?_ xu)
            refine qZ #[pp bs os, .slice ae76Bag (((r.qC[k]!).vH).length) ce76Bag] rfl rfl Tryz.call136 (QY w81 s ((r.qC[k]!).vH) bs os qw qo qO qF qB xw ae76Bag ce76Bag Fe76Bag (qH (H.get 2 rfl) 0 3) (H.get 3 rfl).1 (H.get 4 rfl).1 (H.get 0 rfl).1) ?_
            rintro _ w84 rfl x85
            replace H := H.ext x85
            refine ⟨H, ?_⟩
            refine rgp 32 (.bool (!(dec (zW s.qJ ((r.qC[k]!).vH))))) 139 H ?_
            refine rtp 33 (.bool (!(dec (zW s.qJ ((r.qC[k]!).vH))))) H ?_
            refine rtp 34 (.bool (!(dec (zW s.qJ ((r.qC[k]!).vH))))) H ?_
            cases h86 : (!(dec (zW s.qJ ((r.qC[k]!).vH))))
            ·skip
             replace h86 := qY h86
             replace h86 := jG h86
             refine rgp 35 (pp b74 (o75 + (k : Int).toNat * 2)) 148 H ?_
             refine rgp 36 (pp b74 (o75 + (k : Int).toNat * 2)) 148 H ?_
             refine rg 37 (pp b74 (o75 + (k : Int).toNat * 2 + 1)) 148 (xG b74 (o75 + (k : Int).toNat * 2) 1 Tryz.underlying115 rfl rfl Tryz.sizeOf22 rfl) H ?_
             refine rg 38 (.slice ae76Bag (((r.qC[k]!).vH).length) ce76Bag) 148 (xA Tryz.isAgg22 rfl (fun _ h => h.xY 1 rfl 1 rfl)) H ?_
             refine xq [39] (by kernel_rfl) (by simp) (Xp rfl (e := 148) rfl rfl ?_ xu)
             refine qZ #[.slice ae76Bag (((r.qC[k]!).vH).length) ce76Bag] rfl rfl Tryz.call137 (l01Size_ok w84 ((r.qC[k]!).vH) ae76Bag ce76Bag Fe76Bag (H.get 0 rfl).1 (by first | assumption | exact jK (by assumption) | exact Xf (by assumption))) ?_
             rintro _ w87 rfl x88
             replace H := H.ext x88
             refine ⟨H, ?_⟩
             refine rgp 40 (.bool ((sumL ((r.qC[k]!).vH) : Int) == 0)) 148 H ?_
             refine rtp 41 (.bool ((sumL ((r.qC[k]!).vH) : Int) == 0)) H ?_
             refine xN (by kernel_rfl) (t_n ?_)
             refine qW ((sumL ((r.qC[k]!).vH) : Int) == 0) rfl (fun h89 => ?_) (fun h89 => ?_)
             ·skip
              replace h89 := eq_of_beq h89
              refine qm (qA ?_)
              refine sp (.bool false) ?_
              refine qx (t_n (xC (t_r (b_r (t_r (t_r (b_r (t_r ?_))))))))
              refine ret1 (.bool false) rfl rfl ⟨_, rfl, ?_, H.base⟩
              rw [xy (fun h => by obtain ⟨h1, h2, h3, h4, h5, h6, h7, h8, h9, h10, h11⟩ := h; first | contradiction | omega | exact h3 ⟨‹_›, ‹_›⟩ | (obtain ⟨q1, q2, q3, q4, q5⟩ := h11 k (by omega); first | contradiction | omega | (have := q5 (by omega); omega)))]
             replace h89 := ne_of_beq_false h89
             refine xk (t_n (qm ?_))
             refine yw rfl H fun H => ?_
             refine rtp 0 (.int .i64 k) H ?_
             refine rtp 1 (.bool (decide ((k : Int) > 0))) H ?_
             refine rtp 2 (.bool (decide ((k : Int) > 0))) H ?_
             cases h91 : (decide ((k : Int) > 0))
             ·skip
              replace h91 := of_decide_eq_false h91
              refine zT [3, 4, 5, 6, 7, 8, 9, 10, 11, 12, 13, 14, 15, 16] 14 (H) ?_
              refine rtp 17 (.bool false) H ?_
              refine xN (by kernel_rfl) (t_n ?_)
              refine qW false rfl (fun h => absurd h (by decide)) (fun _ => ?_)
              refine xk (b_n (t_n (qA ?_)))
              refine sp (.int .i64 k) ?_
              refine sw (zZ k 1 rfl rfl (by omega) ?_)
              refine sp (.int .i64 (k + 1)) ?_
              refine qx ?_
              refine xH (m' := r.qC.length - (k + 1)) (by omega) ⟨_, k + 1, (by exact qj (qj (qj (rfl) rfl) rfl) rfl), ?_, ?_, rfl, H.sel _ (.refl _) _ (by simp)⟩
              · omega
              · exact i1.succ ⟨‹_›, ‹_›, ‹_›, ‹_›, fun hk => by omega⟩
             replace h91 := of_decide_eq_true h91
             refine rgp 3 (pp br or) 158 H ?_
             refine rgp 4 (pp br or) 158 H ?_
             refine rg 5 (pp br (or + 7)) 158 (xG br (or) 7 Tryz.underlying110 rfl rfl Tryz.sizeOf108 rfl) H ?_
             refine rg 6 (.slice (aa b74 o75) r.qC.length zN) 158 (xA Tryz.isAgg108 rfl (fun _ h => h.xY 5 rfl 7 rfl)) H ?_
             refine rgp 7 (.int .i64 k) 158 H ?_
             refine rg 8 (.int .i64 (k - 1)) 158 (y_sub k 1 rfl rfl (by omega)) H ?_
             obtain ⟨ae92Bag, ce92Bag, Fe92Bag, H⟩ := H.jT 11 rfl (k - 1) (k - 1) (by omega) (by omega) (by omega)
             refine rg 9 (pp b74 (o75 + (k - 1 : Int).toNat * 2)) 158 (xO b74 (o75) r.qC.length zN (k - 1) Tryz.underlying108 ti115 rfl rfl (by omega) (by omega)) (H.sel _ (.refl _) _ (fun _ h => List.mem_cons_of_mem _ (List.mem_cons_of_mem _ (h)))) ?_
             refine rg 10 (pp b74 (o75 + (k - 1 : Int).toNat * 2 + 0)) 158 (xG b74 (o75 + (k - 1 : Int).toNat * 2) 0 Tryz.underlying115 rfl rfl Tryz.sizeOf2 rfl) (H.sel _ (.refl _) _ (fun _ h => List.mem_cons_of_mem _ (List.mem_cons_of_mem _ (h)))) ?_
             refine rgp 12 (pp b74 (o75 + (k : Int).toNat * 2)) 158 (H.sel _ (.refl _) _ (fun _ h => List.mem_cons_of_mem _ (List.mem_cons_of_mem _ (h)))) ?_
             refine rgp 13 (pp b74 (o75 + (k : Int).toNat * 2)) 158 (H.sel _ (.refl _) _ (fun _ h => List.mem_cons_of_mem _ (List.mem_cons_of_mem _ (h)))) ?_
             refine rg 14 (pp b74 (o75 + (k : Int).toNat * 2 + 0)) 158 (xG b74 (o75 + (k : Int).toNat * 2) 0 Tryz.underlying115 rfl rfl Tryz.sizeOf2 rfl) (H.sel _ (.refl _) _ (fun _ h => List.mem_cons_of_mem _ (List.mem_cons_of_mem _ (h)))) ?_
             refine rg 15 (.int .i64 ((r.qC[k]!).qy)) 158 (xA Tryz.isAgg2 rfl (fun _ h => h.xY 1 rfl 0 rfl)) (H.sel _ (.refl _) _ (fun _ h => List.mem_cons_of_mem _ (List.mem_cons_of_mem _ (h)))) ?_
             refine xq [11] (by kernel_rfl) (by simp) (Xp rfl (e := 158) rfl rfl ?_ xu)
             refine qE (.int .i64 ((r.qC[k - 1]!).qy)) Tryz.isAgg2 rfl (H.xY 1 rfl 0 rfl) ?_
             refine ⟨H.sel _ (.refl _) _ (fun _ h => List.mem_cons_of_mem _ (List.mem_cons_of_mem _ (h))), ?_⟩
             refine rgp 16 (.bool (decide (((r.qC[k - 1]!).qy : Int) ≥ ((r.qC[k]!).qy)))) 158 (H.sel _ (.refl _) _ (fun _ h => List.mem_cons_of_mem _ (List.mem_cons_of_mem _ (h)))) ?_
             refine rtp 17 (.bool (decide (((r.qC[k - 1]!).qy : Int) ≥ ((r.qC[k]!).qy)))) (H.sel _ (.refl _) _ (fun _ h => List.mem_cons_of_mem _ (List.mem_cons_of_mem _ (h)))) ?_
             refine xN (by kernel_rfl) (t_n ?_)
             refine qW (decide (((r.qC[k - 1]!).qy : Int) ≥ ((r.qC[k]!).qy))) rfl (fun h93 => ?_) (fun h93 => ?_)
             ·skip
              replace h93 := of_decide_eq_true h93
              refine qm (qA ?_)
              refine sp (.bool false) ?_
              refine qx (t_n (xC (b_r (t_r (t_r (b_r (t_r ?_)))))))
              refine ret1 (.bool false) rfl rfl ⟨_, rfl, ?_, H.base⟩
              rw [xy (fun h => by obtain ⟨h1, h2, h3, h4, h5, h6, h7, h8, h9, h10, h11⟩ := h; first | contradiction | omega | exact h3 ⟨‹_›, ‹_›⟩ | (obtain ⟨q1, q2, q3, q4, q5⟩ := h11 k (by omega); first | contradiction | omega | (have := q5 (by omega); omega)))]
             replace h93 := of_decide_eq_false h93
             refine xk (b_n (t_n (qA ?_)))
             refine sp (.int .i64 k) ?_
             refine sw (zZ k 1 rfl rfl (by omega) ?_)
             refine sp (.int .i64 (k + 1)) ?_
             refine qx ?_
             refine xH (m' := r.qC.length - (k + 1)) (by omega) ⟨_, k + 1, (by exact qj (qj (qj (rfl) rfl) rfl) rfl), ?_, ?_, rfl, H.sel _ (.refl _) _ (by simp)⟩
             · omega
             · exact i1.succ ⟨‹_›, ‹_›, ‹_›, ‹_›, fun hk => by omega⟩
            replace h86 := xg h86
            replace h86 := xX h86
            refine zT [35, 36, 37, 38, 39, 40] 6 (H) ?_
            refine rtp 41 (.bool true) H ?_
            refine xN (by kernel_rfl) (t_n ?_)
            refine qW true rfl (fun _ => ?_) (fun h => absurd h (by decide))
            refine qm (qA ?_)
            refine sp (.bool false) ?_
            refine qx (t_n (xC (t_r (b_r (t_r (t_r (b_r (t_r ?_))))))))
            refine ret1 (.bool false) rfl rfl ⟨_, rfl, ?_, H.base⟩
            rw [xy (fun h => by obtain ⟨h1, h2, h3, h4, h5, h6, h7, h8, h9, h10, h11⟩ := h; first | contradiction | omega | exact h3 ⟨‹_›, ‹_›⟩ | (obtain ⟨q1, q2, q3, q4, q5⟩ := h11 k (by omega); first | contradiction | omega | (have := q5 (by omega); omega)))]
           replace h83 := xg h83
           replace h83 := xX h83
           refine zT [26, 27, 28, 29, 30, 31, 32] 7 (H) ?_
           refine rtp 33 (.bool true) H ?_
           refine rtp 34 (.bool true) H ?_
           refine zT [35, 36, 37, 38, 39, 40] 6 (H) ?_
           refine rtp 41 (.bool true) H ?_
           refine xN (by kernel_rfl) (t_n ?_)
           refine qW true rfl (fun _ => ?_) (fun h => absurd h (by decide))
           refine qm (qA ?_)
           refine sp (.bool false) ?_
           refine qx (t_n (xC (t_r (b_r (t_r (t_r (b_r (t_r ?_))))))))
           refine ret1 (.bool false) rfl rfl ⟨_, rfl, ?_, H.base⟩
           rw [xy (fun h => by obtain ⟨h1, h2, h3, h4, h5, h6, h7, h8, h9, h10, h11⟩ := h; first | contradiction | omega | exact h3 ⟨‹_›, ‹_›⟩ | (obtain ⟨q1, q2, q3, q4, q5⟩ := h11 k (by omega); first | contradiction | omega | (have := q5 (by omega); omega)))]
          replace h80 := xg h80
          replace h80 := XJ h80
          refine zT [13, 14, 15, 16, 17, 18, 19, 20, 21, 22, 23] 11 (H) ?_
          refine rtp 24 (.bool true) H ?_
          refine rtp 25 (.bool true) H ?_
          refine zT [26, 27, 28, 29, 30, 31, 32] 7 (H) ?_
          refine rtp 33 (.bool true) H ?_
          refine rtp 34 (.bool true) H ?_
          refine zT [35, 36, 37, 38, 39, 40] 6 (H) ?_
          refine rtp 41 (.bool true) H ?_
          refine xN (by kernel_rfl) (t_n ?_)
          refine qW true rfl (fun _ => ?_) (fun h => absurd h (by decide))
          refine qm (qA ?_)
          refine sp (.bool false) ?_
          refine qx (t_n (xC (t_r (b_r (t_r (t_r (b_r (t_r ?_))))))))
          refine ret1 (.bool false) rfl rfl ⟨_, rfl, ?_, H.base⟩
          rw [xy (fun h => by obtain ⟨h1, h2, h3, h4, h5, h6, h7, h8, h9, h10, h11⟩ := h; first | contradiction | omega | exact h3 ⟨‹_›, ‹_›⟩ | (obtain ⟨q1, q2, q3, q4, q5⟩ := h11 k (by omega); first | contradiction | omega | (have := q5 (by omega); omega)))]
         replace h73 := of_decide_eq_false h73
         refine zK (t_x (t_x (b_x (t_n (qm (qA ?_))))))
         refine sp (.bool true) ?_
         refine qx (t_n (xC ?_))
         refine ret1 (.bool true) rfl rfl ⟨_, rfl, ?_, H.base⟩
         obtain rfl : k = r.qC.length := by omega
         rw [yP ⟨by assumption, by omega, by simp_all, by omega, by assumption, by assumption, by assumption, by assumption, by assumption, by assumption, i1⟩]
        replace h67 := xg h67
        replace h67 := xX h67
        refine zf [92, 93, 94, 95, 96, 97] ?_
        refine sp (.bool true) ?_
        refine qx (t_n ?_)
        refine qW true rfl (fun _ => ?_) (fun h => absurd h (by decide))
        refine qm (qA ?_)
        refine sp (.bool false) ?_
        refine qx (t_n (xC (t_r ?_)))
        refine ret1 (.bool false) rfl rfl ⟨_, rfl, ?_, H.base⟩
        rw [xy (fun h => by obtain ⟨h1, h2, h3, h4, h5, h6, h7, h8, h9, h10, h11⟩ := h; first | contradiction | omega | exact h3 ⟨‹_›, ‹_›⟩ | (obtain ⟨q1, q2, q3, q4, q5⟩ := h11 k (by omega); first | contradiction | omega | (have := q5 (by omega); omega)))]
       replace h64 := xg h64
       replace h64 := xX h64
       refine zf [83, 84, 85, 86, 87, 88, 89] ?_
       refine sps [.bool true, .bool true] ?_
       refine zf [92, 93, 94, 95, 96, 97] ?_
       refine sp (.bool true) ?_
       refine qx (t_n ?_)
       refine qW true rfl (fun _ => ?_) (fun h => absurd h (by decide))
       refine qm (qA ?_)
       refine sp (.bool false) ?_
       refine qx (t_n (xC (t_r ?_)))
       refine ret1 (.bool false) rfl rfl ⟨_, rfl, ?_, H.base⟩
       rw [xy (fun h => by obtain ⟨h1, h2, h3, h4, h5, h6, h7, h8, h9, h10, h11⟩ := h; first | contradiction | omega | exact h3 ⟨‹_›, ‹_›⟩ | (obtain ⟨q1, q2, q3, q4, q5⟩ := h11 k (by omega); first | contradiction | omega | (have := q5 (by omega); omega)))]
      replace h61 := xg h61
      replace h61 := xX h61
      refine zf [74, 75, 76, 77, 78, 79, 80] ?_
      refine sps [.bool true, .bool true] ?_
      refine zf [83, 84, 85, 86, 87, 88, 89] ?_
      refine sps [.bool true, .bool true] ?_
      refine zf [92, 93, 94, 95, 96, 97] ?_
      refine sp (.bool true) ?_
      refine qx (t_n ?_)
      refine qW true rfl (fun _ => ?_) (fun h => absurd h (by decide))
      refine qm (qA ?_)
      refine sp (.bool false) ?_
      refine qx (t_n (xC (t_r ?_)))
      refine ret1 (.bool false) rfl rfl ⟨_, rfl, ?_, H.base⟩
      rw [xy (fun h => by obtain ⟨h1, h2, h3, h4, h5, h6, h7, h8, h9, h10, h11⟩ := h; first | contradiction | omega | exact h3 ⟨‹_›, ‹_›⟩ | (obtain ⟨q1, q2, q3, q4, q5⟩ := h11 k (by omega); first | contradiction | omega | (have := q5 (by omega); omega)))]
     replace h58 := xg h58
     replace h58 := xX h58
     refine zf [65, 66, 67, 68, 69, 70, 71] ?_
     refine sps [.bool true, .bool true] ?_
     refine zf [74, 75, 76, 77, 78, 79, 80] ?_
     refine sps [.bool true, .bool true] ?_
     refine zf [83, 84, 85, 86, 87, 88, 89] ?_
     refine sps [.bool true, .bool true] ?_
     refine zf [92, 93, 94, 95, 96, 97] ?_
     refine sp (.bool true) ?_
     refine qx (t_n ?_)
     refine qW true rfl (fun _ => ?_) (fun h => absurd h (by decide))
     refine qm (qA ?_)
     refine sp (.bool false) ?_
     refine qx (t_n (xC (t_r ?_)))
     refine ret1 (.bool false) rfl rfl ⟨_, rfl, ?_, H.base⟩
     rw [xy (fun h => by obtain ⟨h1, h2, h3, h4, h5, h6, h7, h8, h9, h10, h11⟩ := h; first | contradiction | omega | exact h3 ⟨‹_›, ‹_›⟩ | (obtain ⟨q1, q2, q3, q4, q5⟩ := h11 k (by omega); first | contradiction | omega | (have := q5 (by omega); omega)))]
    replace h55 := xg h55
    replace h55 := xX h55
    refine zf [56, 57, 58, 59, 60, 61, 62] ?_
    refine sps [.bool true, .bool true] ?_
    refine zf [65, 66, 67, 68, 69, 70, 71] ?_
    refine sps [.bool true, .bool true] ?_
    refine zf [74, 75, 76, 77, 78, 79, 80] ?_
    refine sps [.bool true, .bool true] ?_
    refine zf [83, 84, 85, 86, 87, 88, 89] ?_
    refine sps [.bool true, .bool true] ?_
    refine zf [92, 93, 94, 95, 96, 97] ?_
    refine sp (.bool true) ?_
    refine qx (t_n ?_)
    refine qW true rfl (fun _ => ?_) (fun h => absurd h (by decide))
    refine qm (qA ?_)
    refine sp (.bool false) ?_
    refine qx (t_n (xC (t_r ?_)))
    refine ret1 (.bool false) rfl rfl ⟨_, rfl, ?_, H.base⟩
    rw [xy (fun h => by obtain ⟨h1, h2, h3, h4, h5, h6, h7, h8, h9, h10, h11⟩ := h; first | contradiction | omega | exact h3 ⟨‹_›, ‹_›⟩ | (obtain ⟨q1, q2, q3, q4, q5⟩ := h11 k (by omega); first | contradiction | omega | (have := q5 (by omega); omega)))]
   replace h51 := eq_of_beq h51
   refine zT [34, 35, 36, 37, 38, 39] 6 (H) ?_
   refine rtp 40 (.bool true) H ?_
   refine xN (by kernel_rfl) (t_n ?_)
   refine qW true rfl (fun _ => ?_) (fun h => absurd h (by decide))
   refine qm (qA ?_)
   refine sp (.bool false) ?_
   refine qx (t_n (xC (t_r ?_)))
   refine ret1 (.bool false) rfl rfl ⟨_, rfl, ?_, H.base⟩
   rw [xy (fun h => by obtain ⟨h1, h2, h3, h4, h5, h6, h7, h8, h9, h10, h11⟩ := h; first | contradiction | omega | exact h3 ⟨‹_›, ‹_›⟩ | (obtain ⟨q1, q2, q3, q4, q5⟩ := h11 k (by omega); first | contradiction | omega | (have := q5 (by omega); omega)))]
  replace h7 := xg h7
  replace h7 := XJ h7
  refine zT [21, 22, 23, 24, 25, 26, 27, 28, 29, 30, 31] 11 (H) ?_
  refine rtp 32 (.bool true) H ?_
  refine rtp 33 (.bool true) H ?_
  refine zT [34, 35, 36, 37, 38, 39] 6 (H) ?_
  refine rtp 40 (.bool true) H ?_
  refine xN (by kernel_rfl) (t_n ?_)
  refine qW true rfl (fun _ => ?_) (fun h => absurd h (by decide))
  refine qm (qA ?_)
  refine sp (.bool false) ?_
  refine qx (t_n (xC (t_r ?_)))
  refine ret1 (.bool false) rfl rfl ⟨_, rfl, ?_, H.base⟩
  rw [xy (fun h => by obtain ⟨h1, h2, h3, h4, h5, h6, h7, h8, h9, h10, h11⟩ := h; first | contradiction | omega | exact h3 ⟨‹_›, ‹_›⟩ | (obtain ⟨q1, q2, q3, q4, q5⟩ := h11 k (by omega); first | contradiction | omega | (have := q5 (by omega); omega)))]
 replace h4 := xg h4
 replace h4 := XJ h4
 refine zT [13, 14, 15, 16, 17, 18] 6 (H) ?_
 refine rtp 19 (.bool true) H ?_
 refine rtp 20 (.bool true) H ?_
 refine zT [21, 22, 23, 24, 25, 26, 27, 28, 29, 30, 31] 11 (H) ?_
 refine rtp 32 (.bool true) H ?_
 refine rtp 33 (.bool true) H ?_
 refine zT [34, 35, 36, 37, 38, 39] 6 (H) ?_
 refine rtp 40 (.bool true) H ?_
 refine xN (by kernel_rfl) (t_n ?_)
 refine qW true rfl (fun _ => ?_) (fun h => absurd h (by decide))
 refine qm (qA ?_)
 refine sp (.bool false) ?_
 refine qx (t_n (xC (t_r ?_)))
 refine ret1 (.bool false) rfl rfl ⟨_, rfl, ?_, H.base⟩
 rw [xy (fun h => by obtain ⟨h1, h2, h3, h4, h5, h6, h7, h8, h9, h10, h11⟩ := h; first | contradiction | omega | exact h3 ⟨‹_›, ‹_›⟩ | (obtain ⟨q1, q2, q3, q4, q5⟩ := h11 k (by omega); first | contradiction | omega | (have := q5 (by omega); omega)))]

theorem l02State_ok (w : World) (s : qX) (t : qU) (bs os : Nat) (qw : Option Addr) (qo : Nat) (qO : List Nat) (qF : Option Addr) (qB : Nat) (xw : List Nat) (bt ot : Nat) (qM : Option Addr) (qI : Nat) (xJ : List Nat) (xF : Option Addr) (xn : Nat) (zq : List Nat) (qL : Option Addr) (qK : Nat) (xI : List Nat) (hs : jb w bs os [.int .i64 s.qJ, .slice qw s.qf.length qo, .slice qF s.qg.length qB]) (xx : qV.rep w qO [.slice qw s.qf.length qo] s.qf) (xM : qV.rep w xw [.slice qF s.qg.length qB] s.qg) (ht : jb w bt ot [.slice qM t.qh.length qI, .slice xF t.qp.length xn, .slice qL t.ql.length qK]) (zo : qV.rep w xJ [.slice qM t.qh.length qI] t.qh) (zY : qV.rep w zq [.slice xF t.qp.length xn] t.qp) (xW : qV.rep w xI [.slice qL t.ql.length qK] t.ql) (p0 : yE s) : Calls Tryz.prog 85 #[pp bs os, pp bt ot] w (Ret (fun v w' => v = .bool (dec (zu s t))) w) := by
 refine enter (n := 88) Tryz.func85 rfl Tryz.ntmps85 (Nat.le_of_ble_eq_true rfl) ?_
 have H := (((((((St.start w).arg xW).arg zY).arg zo).argAt ht).arg xM).arg xx).argAt hs
 have vU := qN xx
 have jW := qN xM
 have QB := qN zo
 have Xn := qN zY
 have yT := qN xW
 clear hs xx xM ht zo zY xW
 have p1 := p0.2.1
 refine qm (qA ?_)
 refine sp (.bool false) ?_
 refine qx (t_n (qm (qm ?_)))
 refine yw rfl H fun H => ?_
 refine rtp 0 (pp bt ot) H ?_
 refine rtp 1 (pp bt ot) H ?_
 refine rt 2 (pp bt (ot + 0)) (xG bt (ot) 0 Tryz.underlying38 rfl rfl Tryz.sizeOf26 rfl) H ?_
 refine rt 3 (.slice qM t.qh.length qI) (xA Tryz.isAgg26 rfl (fun _ h => h.xY 3 rfl 0 rfl)) H ?_
 refine rt 4 (.int .i64 t.qh.length) (y_len Tryz.underlying26 qM t.qh.length qI rfl) H ?_
 refine rtp 5 (pp bs os) H ?_
 refine rtp 6 (pp bs os) H ?_
 refine rt 7 (pp bs (os + 1)) (xG bs (os) 1 Tryz.underlying36 rfl rfl Tryz.sizeOf22 rfl) H ?_
 refine rt 8 (.slice qw s.qf.length qo) (xA Tryz.isAgg22 rfl (fun _ h => h.xY 0 rfl 1 rfl)) H ?_
 refine rt 9 (.int .i64 s.qf.length) (y_len Tryz.underlying22 qw s.qf.length qo rfl) H ?_
 refine rtp 10 (.bool ((t.qh.length : Int) != s.qf.length)) H ?_
 refine rtp 11 (.bool ((t.qh.length : Int) != s.qf.length)) H ?_
 cases h2 : ((t.qh.length : Int) != s.qf.length)
 ·skip
  replace h2 := xR h2
  refine rgp 12 (pp bt ot) 17 H ?_
  refine rgp 13 (pp bt ot) 17 H ?_
  refine rg 14 (pp bt (ot + 1)) 17 (xG bt (ot) 1 Tryz.underlying38 rfl rfl Tryz.sizeOf27 rfl) H ?_
  refine rg 15 (.slice xF t.qp.length xn) 17 (xA Tryz.isAgg27 rfl (fun _ h => h.xY 3 rfl 1 rfl)) H ?_
  refine rg 16 (.int .i64 t.qp.length) 17 (y_len Tryz.underlying27 xF t.qp.length xn rfl) H ?_
  refine rgp 17 (pp bs os) 17 H ?_
  refine rgp 18 (pp bs os) 17 H ?_
  refine rg 19 (pp bs (os + 1)) 17 (xG bs (os) 1 Tryz.underlying36 rfl rfl Tryz.sizeOf22 rfl) H ?_
  refine rg 20 (.slice qw s.qf.length qo) 17 (xA Tryz.isAgg22 rfl (fun _ h => h.xY 0 rfl 1 rfl)) H ?_
  refine rg 21 (.int .i64 s.qf.length) 17 (y_len Tryz.underlying22 qw s.qf.length qo rfl) H ?_
  refine rgp 22 (.bool ((t.qp.length : Int) != s.qf.length)) 17 H ?_
  refine rtp 23 (.bool ((t.qp.length : Int) != s.qf.length)) H ?_
  refine rtp 24 (.bool ((t.qp.length : Int) != s.qf.length)) H ?_
  cases h3 : ((t.qp.length : Int) != s.qf.length)
  ·skip
   replace h3 := xR h3
   refine rgp 25 (pp bt ot) 30 H ?_
   refine rgp 26 (pp bt ot) 30 H ?_
   refine rg 27 (pp bt (ot + 0)) 30 (xG bt (ot) 0 Tryz.underlying38 rfl rfl Tryz.sizeOf26 rfl) H ?_
   refine rg 28 (.slice qM t.qh.length qI) 30 (xA Tryz.isAgg26 rfl (fun _ h => h.xY 3 rfl 0 rfl)) H ?_
   obtain ⟨b4, o5, rfl⟩ := H.addr 4 rfl (by omega)
   refine rg 29 (pp b4 (o5 + (0 : Int).toNat * 1)) 30 (xO b4 (o5) t.qh.length qI 0 Tryz.underlying26 ti4 rfl rfl (by omega) (by omega)) H ?_
   refine rg 30 (.bool (t.qh[0]!)) 30 (xA Tryz.isAgg4 rfl (fun _ h => h.Q7 4 rfl 0 (by omega) (by omega))) H ?_
   refine rgp 31 (.bool (!(t.qh[0]!))) 30 H ?_
   refine rtp 32 (.bool (!(t.qh[0]!))) H ?_
   refine rtp 33 (.bool (!(t.qh[0]!))) H ?_
   cases h6 : (!(t.qh[0]!))
   ·skip
    replace h6 := qY h6
    refine rgp 34 (pp bs os) 39 H ?_
    refine rgp 35 (pp bt ot) 39 H ?_
    refine rgp 36 (pp bt ot) 39 H ?_
    refine rg 37 (pp bt (ot + 2)) 39 (xG bt (ot) 2 Tryz.underlying38 rfl rfl Tryz.sizeOf22 rfl) H ?_
    refine rg 38 (.slice qL t.ql.length qK) 39 (xA Tryz.isAgg22 rfl (fun _ h => h.xY 3 rfl 2 rfl)) H ?_
    refine xq [39] (by kernel_rfl) (by simp) (Xp rfl (e := 39) rfl rfl ?_ xu)
    refine qZ #[pp bs os, .slice qL t.ql.length qK] rfl rfl Tryz.call136 (QY w.drew s t.ql bs os qw qo qO qF qB xw qL qK xI (qH (H.get 0 rfl) 0 3) (H.get 1 rfl).1 (H.get 2 rfl).1 (H.get 6 rfl).1) ?_
    rintro _ w7 rfl x8
    replace H := H.ext x8
    refine ⟨H, ?_⟩
    refine rgp 40 (.bool (!(dec (zW s.qJ t.ql)))) 39 H ?_
    refine rtp 41 (.bool (!(dec (zW s.qJ t.ql)))) H ?_
    refine xN (by kernel_rfl) (t_n ?_)
    refine qW (!(dec (zW s.qJ t.ql))) rfl (fun h9 => ?_) (fun h9 => ?_)
    ·skip
     replace h9 := xg h9
     replace h9 := xX h9
     refine qm (qA ?_)
     refine sp (.bool false) ?_
     refine qx (t_n (xC (t_r ?_)))
     refine ret1 (.bool false) rfl rfl ⟨_, rfl, ?_, H.base⟩
     rw [xy (fun h => by obtain ⟨h1, h2, h3, h4, h5⟩ := h; first | contradiction | omega | (simp_all; done) | (obtain ⟨q1, q2⟩ := h5 k (by omega); first | contradiction | (have := q2 (by assumption); omega)))]
    replace h9 := qY h9
    replace h9 := jG h9
    refine xk (t_n (qm (qm (qA ?_))))
    refine sp (.int .i64 0) ?_
    refine qx (t_n (xE ?_))
    refine zU (fun m' ρ w10 => ∃ (junk : Env) (k : Nat), ρ = upd (upd (upd junk 0 (pp bs os)) 1 (pp bt ot)) 5 (.int .i64 k) ∧ (k ≤ t.qp.length) ∧ (BagsTo s t k) ∧ m' = t.qp.length - k ∧ St w w10 [] [atF bs os [.int .i64 s.qJ, .slice qw s.qf.length qo, .slice qF s.qg.length qB], isF false qO (.slice qw s.qf.length qo) s.qf, isF false xw (.slice qF s.qg.length qB) s.qg, atF bt ot [.slice (aa b4 o5) t.qh.length qI, .slice xF t.qp.length xn, .slice qL t.ql.length qK], isF false xJ (.slice (aa b4 o5) t.qh.length qI) t.qh, isF false zq (.slice xF t.qp.length xn) t.qp, isF false xI (.slice qL t.ql.length qK) t.ql]) (t.qp.length - 0) ⟨_, 0, (by exact qj (qj (qj (rfl) rfl) rfl) rfl), (by omega), (by exact fun j hj => by omega), rfl, H⟩ ?_
    clear H
    rintro m' ρ w11 ⟨junk, k, rfl, i0, i1, rfl, H⟩
    refine qm (qm (qA ?_))
    refine sps [.int .i64 k, pp bt ot, pp bt ot] ?_
    refine sw (qP bt (ot) 1 Tryz.underlying38 rfl rfl Tryz.sizeOf27 rfl ?_)
    refine sw (qE (.slice xF t.qp.length xn) Tryz.isAgg27 rfl (H.xY 3 rfl 1 rfl) ?_)
    refine sw (zX Tryz.underlying27 xF t.qp.length xn rfl ?_)
    refine sp (.bool (decide ((k : Int) < t.qp.length))) ?_
    refine qx (t_n ?_)
    refine qW (decide ((k : Int) < t.qp.length)) rfl (fun h12 => ?_) (fun h12 => ?_)
    ·skip
     replace h12 := of_decide_eq_true h12
     refine xk (t_n (qm (xE (qm (qA ?_)))))
     refine sps [pp bs os, pp bt ot, pp bt ot] ?_
     refine sw (qP bt (ot) 1 Tryz.underlying38 rfl rfl Tryz.sizeOf27 rfl ?_)
     refine sw (qE (.slice xF t.qp.length xn) Tryz.isAgg27 rfl (H.xY 3 rfl 1 rfl) ?_)
     refine sp (.int .i64 k) ?_
     obtain ⟨b13, o14, rfl⟩ := H.addr 5 rfl (by omega)
     obtain ⟨ae15, ce15, Fe15, H⟩ := H.yH 5 rfl k k (by omega) (by omega) (by omega)
     refine sw (xK k Tryz.underlying27 ti22 rfl rfl (by omega) (by omega) ?_)
     refine sw (qE (.slice ae15 ((t.qp[k]!).length) ce15) Tryz.isAgg22 rfl (H.xY 1 rfl 0 rfl) ?_)
     refine sw (qZ #[pp bs os, .slice ae15 ((t.qp[k]!).length) ce15] rfl rfl Tryz.call136 (QY w11 s (t.qp[k]!) bs os qw qo qO qF qB xw ae15 ce15 Fe15 (qH (H.get 2 rfl) 0 3) (H.get 3 rfl).1 (H.get 4 rfl).1 (H.get 0 rfl).1) ?_)
     rintro _ w16 rfl x17
     replace H := H.ext x17
     refine sps [.bool (!(dec (zW s.qJ (t.qp[k]!)))), .bool (!(dec (zW s.qJ (t.qp[k]!))))] ?_
     cases h18 : (!(dec (zW s.qJ (t.qp[k]!))))
     ·skip
      replace h18 := qY h18
      replace h18 := jG h18
      refine qQ 67 rfl rfl ?_
      refine sp (pp bt ot) ?_
      refine qQ 67 rfl rfl ?_
      refine sp (pp bt ot) ?_
      refine qQ 67 rfl rfl ?_
      refine sw (qP bt (ot) 0 Tryz.underlying38 rfl rfl Tryz.sizeOf26 rfl ?_)
      refine qQ 67 rfl rfl ?_
      refine sw (qE (.slice (aa b4 o5) t.qh.length qI) Tryz.isAgg26 rfl (H.xY 5 rfl 0 rfl) ?_)
      refine qQ 67 rfl rfl ?_
      refine sp (.int .i64 k) ?_
      refine qQ 67 rfl rfl ?_
      refine sw (xK k Tryz.underlying26 ti4 rfl rfl (by omega) (by omega) ?_)
      refine qQ 67 rfl rfl ?_
      refine sw (qE (.bool (t.qh[k]!)) Tryz.isAgg4 rfl (H.Q7 6 rfl k (by omega) (by omega)) ?_)
      refine qQ 67 rfl rfl ?_
      refine sp (.bool (!(t.qh[k]!))) ?_
      refine qQ 67 rfl rfl ?_
      refine sp (.bool (!(t.qh[k]!))) ?_
      cases h19 : (!(t.qh[k]!))
      ·skip
       replace h19 := qY h19
       refine zf [77, 78, 79, 80, 81, 82, 83, 84, 85] ?_
       refine qQ 67 rfl rfl ?_
       refine sps [.bool false, .bool false] ?_
       refine qx (t_n ?_)
       refine qW false rfl (fun h => absurd h (by decide)) (fun _ => ?_)
       refine xk (b_n (t_n (qA ?_)))
       refine sp (.int .i64 k) ?_
       refine sw (zZ k 1 rfl rfl (by omega) ?_)
       refine sp (.int .i64 (k + 1)) ?_
       refine qx ?_
       refine xH (m' := t.qp.length - (k + 1)) (by omega) ⟨_, k + 1, (by exact qj (qj (qj (rfl) rfl) rfl) rfl), ?_, ?_, rfl, H.sel _ (.refl _) _ (by simp)⟩
       · omega
       · exact i1.succ ‹_› (fun hk => by first | omega | simp_all)
      replace h19 := xg h19
      refine qQ 76 rfl rfl ?_
      refine sp (pp bt ot) ?_
      refine qQ 76 rfl rfl ?_
      refine sp (pp bt ot) ?_
      refine qQ 76 rfl rfl ?_
      refine sw (qP bt (ot) 1 Tryz.underlying38 rfl rfl Tryz.sizeOf27 rfl ?_)
      refine qQ 76 rfl rfl ?_
      refine sw (qE (.slice (aa b13 o14) t.qp.length xn) Tryz.isAgg27 rfl (H.xY 5 rfl 1 rfl) ?_)
      refine qQ 76 rfl rfl ?_
      refine sp (.int .i64 k) ?_
      refine qQ 76 rfl rfl ?_
      refine sw (xK k Tryz.underlying27 ti22 rfl rfl (by omega) (by omega) ?_)
      refine qQ 76 rfl rfl ?_
      refine sw (qE (.slice ae15 ((t.qp[k]!).length) ce15) Tryz.isAgg22 rfl (H.xY 1 rfl 0 rfl) ?_)
      refine qQ 76 rfl rfl ?_
      refine sw (qZ #[.slice ae15 ((t.qp[k]!).length) ce15] rfl rfl Tryz.call137 (l01Size_ok w16 (t.qp[k]!) ae15 ce15 Fe15 (H.get 0 rfl).1 (by first | assumption | exact jK (by assumption) | exact Xf (by assumption))) ?_)
      rintro _ w20 rfl x21
      replace H := H.ext x21
      refine qQ 76 rfl rfl ?_
      refine sp (.bool (decide ((sumL (t.qp[k]!) : Int) > 0))) ?_
      refine qQ 67 rfl rfl ?_
      refine sps [.bool (decide ((sumL (t.qp[k]!) : Int) > 0)), .bool (decide ((sumL (t.qp[k]!) : Int) > 0))] ?_
      refine qx (t_n ?_)
      refine qW (decide ((sumL (t.qp[k]!) : Int) > 0)) rfl (fun h22 => ?_) (fun h22 => ?_)
      ·skip
       replace h22 := of_decide_eq_true h22
       refine qm (qA ?_)
       refine sp (.bool false) ?_
       refine qx (t_n (xC (b_r (t_r (t_r (b_r (t_r ?_)))))))
       refine ret1 (.bool false) rfl rfl ⟨_, rfl, ?_, H.base⟩
       rw [xy (fun h => by obtain ⟨h1, h2, h3, h4, h5⟩ := h; first | contradiction | omega | (simp_all; done) | (obtain ⟨q1, q2⟩ := h5 k (by omega); first | contradiction | (have := q2 (by assumption); omega)))]
      replace h22 := of_decide_eq_false h22
      refine xk (b_n (t_n (qA ?_)))
      refine sp (.int .i64 k) ?_
      refine sw (zZ k 1 rfl rfl (by omega) ?_)
      refine sp (.int .i64 (k + 1)) ?_
      refine qx ?_
      refine xH (m' := t.qp.length - (k + 1)) (by omega) ⟨_, k + 1, (by exact qj (qj (qj (rfl) rfl) rfl) rfl), ?_, ?_, rfl, H.sel _ (.refl _) _ (by simp)⟩
      · omega
      · exact i1.succ ‹_› (fun hk => by first | omega | simp_all)
     replace h18 := xg h18
     replace h18 := xX h18
     refine zf [68, 69, 70, 71, 72, 73, 74, 75, 76, 77, 78, 79, 80, 81, 82, 83, 84, 85, 86] ?_
     refine sp (.bool true) ?_
     refine qx (t_n ?_)
     refine qW true rfl (fun _ => ?_) (fun h => absurd h (by decide))
     refine qm (qA ?_)
     refine sp (.bool false) ?_
     refine qx (t_n (xC (b_r (t_r (t_r (b_r (t_r ?_)))))))
     refine ret1 (.bool false) rfl rfl ⟨_, rfl, ?_, H.base⟩
     rw [xy (fun h => by obtain ⟨h1, h2, h3, h4, h5⟩ := h; first | contradiction | omega | (simp_all; done) | (obtain ⟨q1, q2⟩ := h5 k (by omega); first | contradiction | (have := q2 (by assumption); omega)))]
    replace h12 := of_decide_eq_false h12
    refine zK (t_x (t_x (b_x (t_n (qm (qA ?_))))))
    refine sp (.bool true) ?_
    refine qx (t_n (xC ?_))
    refine ret1 (.bool true) rfl rfl ⟨_, rfl, ?_, H.base⟩
    obtain rfl : k = t.qp.length := by omega
    rw [yP ⟨by omega, by omega, by first | assumption | simp_all, by assumption, i1⟩]
   replace h6 := xg h6
   refine zT [34, 35, 36, 37, 38, 39, 40] 7 (H) ?_
   refine rtp 41 (.bool true) H ?_
   refine xN (by kernel_rfl) (t_n ?_)
   refine qW true rfl (fun _ => ?_) (fun h => absurd h (by decide))
   refine qm (qA ?_)
   refine sp (.bool false) ?_
   refine qx (t_n (xC (t_r ?_)))
   refine ret1 (.bool false) rfl rfl ⟨_, rfl, ?_, H.base⟩
   rw [xy (fun h => by obtain ⟨h1, h2, h3, h4, h5⟩ := h; first | contradiction | omega | (simp_all; done) | (obtain ⟨q1, q2⟩ := h5 k (by omega); first | contradiction | (have := q2 (by assumption); omega)))]
  replace h3 := bne_iff_ne.1 h3
  refine zT [25, 26, 27, 28, 29, 30, 31] 7 (H) ?_
  refine rtp 32 (.bool true) H ?_
  refine rtp 33 (.bool true) H ?_
  refine zT [34, 35, 36, 37, 38, 39, 40] 7 (H) ?_
  refine rtp 41 (.bool true) H ?_
  refine xN (by kernel_rfl) (t_n ?_)
  refine qW true rfl (fun _ => ?_) (fun h => absurd h (by decide))
  refine qm (qA ?_)
  refine sp (.bool false) ?_
  refine qx (t_n (xC (t_r ?_)))
  refine ret1 (.bool false) rfl rfl ⟨_, rfl, ?_, H.base⟩
  rw [xy (fun h => by obtain ⟨h1, h2, h3, h4, h5⟩ := h; first | contradiction | omega | (simp_all; done) | (obtain ⟨q1, q2⟩ := h5 k (by omega); first | contradiction | (have := q2 (by assumption); omega)))]
 replace h2 := bne_iff_ne.1 h2
 refine zT [12, 13, 14, 15, 16, 17, 18, 19, 20, 21, 22] 11 (H) ?_
 refine rtp 23 (.bool true) H ?_
 refine rtp 24 (.bool true) H ?_
 refine zT [25, 26, 27, 28, 29, 30, 31] 7 (H) ?_
 refine rtp 32 (.bool true) H ?_
 refine rtp 33 (.bool true) H ?_
 refine zT [34, 35, 36, 37, 38, 39, 40] 7 (H) ?_
 refine rtp 41 (.bool true) H ?_
 refine xN (by kernel_rfl) (t_n ?_)
 refine qW true rfl (fun _ => ?_) (fun h => absurd h (by decide))
 refine qm (qA ?_)
 refine sp (.bool false) ?_
 refine qx (t_n (xC (t_r ?_)))
 refine ret1 (.bool false) rfl rfl ⟨_, rfl, ?_, H.base⟩
 rw [xy (fun h => by obtain ⟨h1, h2, h3, h4, h5⟩ := h; first | contradiction | omega | (simp_all; done) | (obtain ⟨q1, q2⟩ := h5 k (by omega); first | contradiction | (have := q2 (by assumption); omega)))]

theorem l02Parent_ok (w : World) (s : qX) (t : qU) (c : Int) (bs os : Nat) (qw : Option Addr) (qo : Nat) (qO : List Nat) (qF : Option Addr) (qB : Nat) (xw : List Nat) (bt ot : Nat) (qM : Option Addr) (qI : Nat) (xJ : List Nat) (xF : Option Addr) (xn : Nat) (zq : List Nat) (qL : Option Addr) (qK : Nat) (xI : List Nat) (hs : jb w bs os [.int .i64 s.qJ, .slice qw s.qf.length qo, .slice qF s.qg.length qB]) (xx : qV.rep w qO [.slice qw s.qf.length qo] s.qf) (xM : qV.rep w xw [.slice qF s.qg.length qB] s.qg) (ht : jb w bt ot [.slice qM t.qh.length qI, .slice xF t.qp.length xn, .slice qL t.ql.length qK]) (zo : qV.rep w xJ [.slice qM t.qh.length qI] t.qh) (zY : qV.rep w zq [.slice xF t.qp.length xn] t.qp) (xW : qV.rep w xI [.slice qL t.ql.length qK] t.ql) (p0 : yE s) (p1 : CellIn s c) (p2 : t.qh.length = s.qf.length) : Calls Tryz.prog 107 #[pp bs os, pp bt ot, .int .i64 c] w (Ret (fun v w' => v = .int .i64 (xf s t c)) w) := by
 refine enter (n := 35) Tryz.func107 rfl Tryz.ntmps107 (Nat.le_of_ble_eq_true rfl) ?_
 have H := (((((((St.start w).arg xW).arg zY).arg zo).argAt ht).arg xM).arg xx).argAt hs
 have vU := qN xx
 have jW := qN xM
 have QB := qN zo
 have Xn := qN zY
 have yT := qN xW
 clear hs xx xM ht zo zY xW
 have p3 := p0.step p1.1 p1.2
 refine qm (qA ?_)
 refine sp (.int .i64 0) ?_
 refine qx (t_n (qm (qA ?_)))
 refine sps [pp bs os, pp bs os] ?_
 refine sw (qP bs (os) 1 Tryz.underlying36 rfl rfl Tryz.sizeOf22 rfl ?_)
 refine sw (qE (.slice qw s.qf.length qo) Tryz.isAgg22 rfl (H.xY 0 rfl 1 rfl) ?_)
 refine sp (.int .i64 c) ?_
 obtain ⟨b1, o2, rfl⟩ := H.addr 1 rfl (by omega)
 refine sw (xK c Tryz.underlying22 ti2 rfl rfl (by omega) (by omega) ?_)
 refine sw (qE (.int .i64 (s.qf[c.toNat]!)) Tryz.isAgg2 rfl (H.jq 1 rfl c (by omega) (by omega)) ?_)
 refine sp (.int .i64 (s.qf[c.toNat]!)) ?_
 refine qx (t_n (qm (xE ?_)))
 refine zU (fun m' ρ w3 => ∃ (junk : Env) (y : Int) (n : Nat), ρ = upd (upd (upd (upd junk 0 (pp bs os)) 1 (pp bt ot)) 6 (.int .i64 0)) 7 (.int .i64 y) ∧ (-1 ≤ y ∧ y ≤ (s.qf.length : Int) - 1) ∧ (y < n) ∧ (xf s t c = climb s.qf t.qh n y) ∧ m' = (y + 1).toNat ∧ St w w3 [] [atF bs os [.int .i64 s.qJ, .slice (aa b1 o2) s.qf.length qo, .slice qF s.qg.length qB], isF false qO (.slice (aa b1 o2) s.qf.length qo) s.qf, isF false xw (.slice qF s.qg.length qB) s.qg, atF bt ot [.slice qM t.qh.length qI, .slice xF t.qp.length xn, .slice qL t.ql.length qK], isF false xJ (.slice qM t.qh.length qI) t.qh, isF false zq (.slice xF t.qp.length xn) t.qp, isF false xI (.slice qL t.ql.length qK) t.ql]) (((s.qf[c.toNat]!) + 1).toNat) ⟨_, s.qf[c.toNat]!, s.qf.length, (by exact qj (qj (qj (qj (rfl) rfl) rfl) rfl) rfl), (by omega), (by omega), (by rfl), rfl, H⟩ ?_
 clear H
 rintro m' ρ w4 ⟨junk, y, n, rfl, i0, i1, i2, rfl, H⟩
 have up := fun h => p0.step (c := y) h i0.2
 refine qm (qm (qA ?_))
 refine sps [.int .i64 y, .bool (decide ((y : Int) ≥ 0)), .bool (decide ((y : Int) ≥ 0))] ?_
 cases h5 : (decide ((y : Int) ≥ 0))
 ·skip
  replace h5 := of_decide_eq_false h5
  refine zf [18, 19, 20, 21, 22, 23, 24, 25] ?_
  refine sp (.bool false) ?_
  refine qx (t_n ?_)
  refine qW false rfl (fun h => absurd h (by decide)) (fun _ => ?_)
  refine zK (t_x (t_x (b_x (t_n (qm (qA ?_))))))
  refine sps [.int .i64 y, .int .i64 y] ?_
  refine qx (t_n (xC ?_))
  refine ret1 (.int .i64 y) rfl rfl ⟨_, rfl, ?_, H.base⟩
  rw [i2, climb_end (by first | omega | simp_all)]
 replace h5 := of_decide_eq_true h5
 refine qQ 17 rfl rfl ?_
 refine sp (pp bt ot) ?_
 refine qQ 17 rfl rfl ?_
 refine sp (pp bt ot) ?_
 refine qQ 17 rfl rfl ?_
 refine sw (qP bt (ot) 0 Tryz.underlying38 rfl rfl Tryz.sizeOf26 rfl ?_)
 refine qQ 17 rfl rfl ?_
 refine sw (qE (.slice qM t.qh.length qI) Tryz.isAgg26 rfl (H.xY 3 rfl 0 rfl) ?_)
 refine qQ 17 rfl rfl ?_
 refine sp (.int .i64 y) ?_
 refine qQ 17 rfl rfl ?_
 obtain ⟨b6, o7, rfl⟩ := H.addr 4 rfl (by omega)
 refine sw (xK y Tryz.underlying26 ti4 rfl rfl (by omega) (by omega) ?_)
 refine qQ 17 rfl rfl ?_
 refine sw (qE (.bool (t.qh[y.toNat]!)) Tryz.isAgg4 rfl (H.Q7 4 rfl y (by omega) (by omega)) ?_)
 refine qQ 17 rfl rfl ?_
 refine sps [.bool (!(t.qh[y.toNat]!)), .bool (!(t.qh[y.toNat]!))] ?_
 refine qx (t_n ?_)
 refine qW (!(t.qh[y.toNat]!)) rfl (fun h8 => ?_) (fun h8 => ?_)
 ·skip
  replace h8 := xg h8
  refine xk (t_n (xE (qA ?_)))
  refine sps [pp bs os, pp bs os] ?_
  refine sw (qP bs (os) 1 Tryz.underlying36 rfl rfl Tryz.sizeOf22 rfl ?_)
  refine sw (qE (.slice (aa b1 o2) s.qf.length qo) Tryz.isAgg22 rfl (H.xY 0 rfl 1 rfl) ?_)
  refine sp (.int .i64 y) ?_
  refine sw (xK y Tryz.underlying22 ti2 rfl rfl (by omega) (by omega) ?_)
  refine sw (qE (.int .i64 (s.qf[y.toNat]!)) Tryz.isAgg2 rfl (H.jq 1 rfl y (by omega) (by omega)) ?_)
  refine sp (.int .i64 (s.qf[y.toNat]!)) ?_
  refine qx (b_n ?_)
  have up1 := up (by omega)
  refine xH (m' := ((s.qf[y.toNat]!) + 1).toNat) (by omega) ⟨_, (s.qf[y.toNat]!), n - 1, (by exact qj (qj (qj (qj (rfl) rfl) rfl) rfl) rfl), ?_, ?_, ?_, rfl, H⟩
  · omega
  · omega
  · exact i2.trans (climb_go (by omega) (by omega) ‹_›)
 replace h8 := qY h8
 refine zK (t_x (t_x (b_x (t_n (qm (qA ?_))))))
 refine sps [.int .i64 y, .int .i64 y] ?_
 refine qx (t_n (xC ?_))
 refine ret1 (.int .i64 y) rfl rfl ⟨_, rfl, ?_, H.base⟩
 rw [i2, climb_end (by first | omega | simp_all)]

theorem l02Ok_ok (w : World) (s : qX) (bs os : Nat) (qw : Option Addr) (qo : Nat) (qO : List Nat) (qF : Option Addr) (qB : Nat) (xw : List Nat) (hs : jb w bs os [.int .i64 s.qJ, .slice qw s.qf.length qo, .slice qF s.qg.length qB]) (xx : qV.rep w qO [.slice qw s.qf.length qo] s.qf) (xM : qV.rep w xw [.slice qF s.qg.length qB] s.qg) : Calls Tryz.prog 41 #[pp bs os] w (Ret (fun v w' => v = .bool (dec (yI s))) w) := by
 refine enter (n := 65) Tryz.func41 rfl Tryz.ntmps41 (Nat.le_of_ble_eq_true rfl) ?_
 have H := (((St.start w).arg xM).arg xx).argAt hs
 have vU := qN xx
 have jW := qN xM
 clear hs xx xM
 have p1 := fun h : yE s => h.2.1
 refine qm (qA ?_)
 refine sp (.bool false) ?_
 refine qx (t_n (qm (qm (qA ?_))))
 refine sp (pp bs os) ?_
 refine sw (qZ #[pp bs os] rfl rfl Tryz.call83 (l02Frame_ok w s bs os qw qo qO qF qB xw (qH (H.get 0 rfl) 0 3) (H.get 1 rfl).1 (H.get 2 rfl).1) ?_)
 rintro _ w1 rfl x2
 replace H := H.ext x2
 refine sps [.bool (!(dec (yE s))), .bool (!(dec (yE s)))] ?_
 cases h3 : (!(dec (yE s)))
 ·skip
  replace h3 := qY h3
  replace h3 := jG h3
  refine qQ 8 rfl rfl ?_
  refine sp (pp bs os) ?_
  refine qQ 8 rfl rfl ?_
  refine sp (pp bs os) ?_
  refine qQ 8 rfl rfl ?_
  refine sw (qP bs (os) 2 Tryz.underlying36 rfl rfl Tryz.sizeOf34 rfl ?_)
  refine qQ 8 rfl rfl ?_
  refine sw (qE (.slice qF s.qg.length qB) Tryz.isAgg34 rfl (H.xY 0 rfl 2 rfl) ?_)
  refine qQ 8 rfl rfl ?_
  refine sw (zX Tryz.underlying34 qF s.qg.length qB rfl ?_)
  refine qQ 8 rfl rfl ?_
  refine sps [.bool (decide ((s.qg.length : Int) > 16)), .bool (decide ((s.qg.length : Int) > 16))] ?_
  refine qx (t_n ?_)
  refine qW (decide ((s.qg.length : Int) > 16)) rfl (fun h4 => ?_) (fun h4 => ?_)
  ·skip
   replace h4 := of_decide_eq_true h4
   refine qm (qA ?_)
   refine sp (.bool false) ?_
   refine qx (t_n (xC (t_r ?_)))
   refine ret1 (.bool false) rfl rfl ⟨_, rfl, ?_, H.base⟩
   rw [xy (fun h => by obtain ⟨h1, h2, h3⟩ := h; first | contradiction | omega | (obtain ⟨q1, q2⟩ := h3 k (by omega); first | contradiction | (have := VA (k := k + 1) q; omega)))]
  replace h4 := of_decide_eq_false h4
  have p2 := p1 (by assumption)
  refine xk (t_n (qm (qA ?_)))
  refine sps [pp bs os, pp bs os] ?_
  refine sw (qP bs (os) 1 Tryz.underlying36 rfl rfl Tryz.sizeOf22 rfl ?_)
  refine sw (qE (.slice qw s.qf.length qo) Tryz.isAgg22 rfl (H.xY 0 rfl 1 rfl) ?_)
  refine sw (zX Tryz.underlying22 qw s.qf.length qo rfl ?_)
  refine sw (o_make1 H Tryz.underlying22 ti2 rfl s.qf.length rfl rfl (by omega) (by omega) fun b5 w6 H => ?_)
  replace H : St _ _ [.box b5 (List.replicate s.qf.length (.int .i64 0)) 2] _ := H
  refine sp (.slice (aa b5 0) s.qf.length s.qf.length) ?_
  refine qx (t_n (qm (qm (qA ?_))))
  refine sp (.int .i64 0) ?_
  refine qx (t_n (xE ?_))
  rw [ints_zero, counts_zero] at H
  refine zU (fun m' ρ w7 => ∃ (junk : Env) (k : Nat), ρ = upd (upd (upd junk 0 (pp bs os)) 3 (.slice (aa b5 0) s.qf.length s.qf.length)) 4 (.int .i64 k) ∧ (k ≤ s.qg.length) ∧ (RulesTo s k) ∧ m' = s.qg.length - k ∧ St w w7 [.box b5 ((counts s k).map (Value.int .i64)) 2] [atF bs os [.int .i64 s.qJ, .slice qw s.qf.length qo, .slice qF s.qg.length qB], isF false qO (.slice qw s.qf.length qo) s.qf, isF false xw (.slice qF s.qg.length qB) s.qg]) (s.qg.length - 0) ⟨_, 0, (by exact qj (qj (qj (rfl) rfl) rfl) rfl), (by omega), (by exact fun j hj => by omega), rfl, H⟩ ?_
  clear H
  rintro m' ρ w8 ⟨junk, k, rfl, i0, i1, rfl, H⟩
  refine qm (qm (qA ?_))
  refine sps [.int .i64 k, pp bs os, pp bs os] ?_
  refine sw (qP bs (os) 2 Tryz.underlying36 rfl rfl Tryz.sizeOf34 rfl ?_)
  refine sw (qE (.slice qF s.qg.length qB) Tryz.isAgg34 rfl (H.xY 0 rfl 2 rfl) ?_)
  refine sw (zX Tryz.underlying34 qF s.qg.length qB rfl ?_)
  refine sp (.bool (decide ((k : Int) < s.qg.length))) ?_
  refine qx (t_n ?_)
  refine qW (decide ((k : Int) < s.qg.length)) rfl (fun h9 => ?_) (fun h9 => ?_)
  ·skip
   replace h9 := of_decide_eq_true h9
   refine xk (t_n (qm (xE (qm (qm (qA ?_))))))
   refine sps [pp bs os, pp bs os, pp bs os] ?_
   refine sw (qP bs (os) 2 Tryz.underlying36 rfl rfl Tryz.sizeOf34 rfl ?_)
   refine sw (qE (.slice qF s.qg.length qB) Tryz.isAgg34 rfl (H.xY 0 rfl 2 rfl) ?_)
   refine sp (.int .i64 k) ?_
   obtain ⟨b10, o11, rfl⟩ := H.addr 2 rfl (by omega)
   obtain ⟨ae12Need, ce12Need, Fe12Need, ae12Have, ce12Have, Fe12Have, ae12Lack, ce12Lack, Fe12Lack, ae12Here, ce12Here, Fe12Here, ae12Out, ce12Out, Fe12Out, ae12Into, ce12Into, Fe12Into, H⟩ := H.yB 2 rfl k k (by omega) (by omega) (by omega)
   refine sw (xK k Tryz.underlying34 ti110 rfl rfl (by omega) (by omega) ?_)
   refine sw (qZ #[pp bs os, pp b10 (o11 + (k : Int).toNat * 9)] rfl rfl Tryz.call84 (l02Rule_ok w8 s (s.qg[k]!) bs os qw qo qO (aa b10 o11) qB xw b10 (o11 + (k : Int).toNat * 9) ae12Need ce12Need Fe12Need ae12Have ce12Have Fe12Have ae12Lack ce12Lack Fe12Lack ae12Here ce12Here Fe12Here ae12Out ce12Out Fe12Out ae12Into ce12Into Fe12Into (qH (H.get 7 rfl) 0 3) (H.get 8 rfl).1 (H.get 9 rfl).1 (qH (H.get 6 rfl) 0 9) (H.get 0 rfl).1 (H.get 1 rfl).1 (H.get 2 rfl).1 (H.get 3 rfl).1 (H.get 4 rfl).1 (H.get 5 rfl).1 (by assumption)) ?_)
   rintro _ w13 rfl x14
   replace H := H.ext x14
   refine sp (.bool (!(dec (RuleOk s (s.qg[k]!))))) ?_
   refine qx (t_n ?_)
   refine qW (!(dec (RuleOk s (s.qg[k]!)))) rfl (fun h15 => ?_) (fun h15 => ?_)
   ·skip
    replace h15 := xg h15
    replace h15 := xX h15
    refine qm (qA ?_)
    refine sp (.bool false) ?_
    refine qx (t_n (xC (t_r (b_r (t_r (t_r (b_r (t_r ?_))))))))
    refine ret1 (.bool false) rfl rfl ⟨_, rfl, ?_, H.base⟩
    rw [xy (fun h => by obtain ⟨h1, h2, h3⟩ := h; first | contradiction | omega | (obtain ⟨q1, q2⟩ := h3 k (by omega); first | contradiction | (have := VA (k := k + 1) q; omega)))]
   replace h15 := qY h15
   replace h15 := jG h15
   have q := (h15).1
   refine xk (t_n (qm (qA ?_)))
   refine sps [.slice (aa b5 0) s.qf.length s.qf.length, pp bs os, pp bs os] ?_
   refine sw (qP bs (os) 2 Tryz.underlying36 rfl rfl Tryz.sizeOf34 rfl ?_)
   refine sw (qE (.slice (aa b10 o11) s.qg.length qB) Tryz.isAgg34 rfl (H.xY 7 rfl 2 rfl) ?_)
   refine sp (.int .i64 k) ?_
   refine sw (xK k Tryz.underlying34 ti110 rfl rfl (by omega) (by omega) ?_)
   refine sw (qP b10 (o11 + (k : Int).toNat * 9) 0 Tryz.underlying110 rfl rfl Tryz.sizeOf2 rfl ?_)
   refine sw (qE (.int .i64 ((s.qg[k]!).qy)) Tryz.isAgg2 rfl (H.xY 6 rfl 0 rfl) ?_)
   refine sw (xK ((s.qg[k]!).qy) Tryz.underlying22 ti2 rfl rfl (by omega) (by omega) ?_)
   refine sw (qE (.int .i64 ((counts s k)[((s.qg[k]!).qy : Int).toNat]!)) Tryz.isAgg2 rfl (H.cell 0 rfl (ints_get (by rw [counts_len]; omega))) ?_)
   refine sw (zZ ((counts s k)[((s.qg[k]!).qy : Int).toNat]!) 1 rfl rfl (by (first | omega | (rw [VA q]; have := ofCell_bd s.qg (s.qg[k]!).qy k; omega))) ?_)
   refine sw (xK ((s.qg[k]!).qy) Tryz.underlying22 ti2 rfl rfl (by omega) (by omega) ?_)
   refine sw (yR H 0 rfl (.int .i64 (((counts s k)[((s.qg[k]!).qy : Int).toNat]!) + 1)) Tryz.sizeOf2 rfl rfl rfl (ints_lt (by rw [counts_len]; omega)) fun w16 H => ?_)
   rw [ints_set] at H
   rw [counts_succ q] at H
   replace H : St _ _ [.box b5 ((counts s (k + 1)).map (Value.int .i64)) 2] _ := H
   refine qx (t_n (qm (qA ?_)))
   refine sps [.slice (aa b5 0) s.qf.length s.qf.length, pp bs os, pp bs os] ?_
   refine sw (qP bs (os) 2 Tryz.underlying36 rfl rfl Tryz.sizeOf34 rfl ?_)
   refine sw (qE (.slice (aa b10 o11) s.qg.length qB) Tryz.isAgg34 rfl (H.xY 7 rfl 2 rfl) ?_)
   refine sp (.int .i64 k) ?_
   refine sw (xK k Tryz.underlying34 ti110 rfl rfl (by omega) (by omega) ?_)
   refine sw (qP b10 (o11 + (k : Int).toNat * 9) 0 Tryz.underlying110 rfl rfl Tryz.sizeOf2 rfl ?_)
   refine sw (qE (.int .i64 ((s.qg[k]!).qy)) Tryz.isAgg2 rfl (H.xY 6 rfl 0 rfl) ?_)
   refine sw (xK ((s.qg[k]!).qy) Tryz.underlying22 ti2 rfl rfl (by omega) (by omega) ?_)
   refine sw (qE (.int .i64 ((counts s (k + 1))[((s.qg[k]!).qy : Int).toNat]!)) Tryz.isAgg2 rfl (H.cell 0 rfl (ints_get (by rw [counts_len]; omega))) ?_)
   refine sp (.bool (decide (((counts s (k + 1))[((s.qg[k]!).qy : Int).toNat]! : Int) > 8))) ?_
   refine qx (t_n ?_)
   refine qW (decide (((counts s (k + 1))[((s.qg[k]!).qy : Int).toNat]! : Int) > 8)) rfl (fun h17 => ?_) (fun h17 => ?_)
   ·skip
    replace h17 := of_decide_eq_true h17
    refine qm (qA ?_)
    refine sp (.bool false) ?_
    refine qx (t_n (xC (b_r (t_r (t_r (b_r (t_r ?_)))))))
    refine ret1 (.bool false) rfl rfl ⟨_, rfl, ?_, H.base⟩
    rw [xy (fun h => by obtain ⟨h1, h2, h3⟩ := h; first | contradiction | omega | (obtain ⟨q1, q2⟩ := h3 k (by omega); first | contradiction | (have := VA (k := k + 1) q; omega)))]
   replace h17 := of_decide_eq_false h17
   refine xk (b_n (t_n (qA ?_)))
   refine sp (.int .i64 k) ?_
   refine sw (zZ k 1 rfl rfl (by (first | omega | (rw [VA q]; have := ofCell_bd s.qg (s.qg[k]!).qy k; omega))) ?_)
   refine sp (.int .i64 (k + 1)) ?_
   refine qx ?_
   refine xH (m' := s.qg.length - (k + 1)) (by omega) ⟨_, k + 1, (by exact qj (qj (qj (rfl) rfl) rfl) rfl), ?_, ?_, rfl, H.sel _ (.refl _) _ (by simp)⟩
   · omega
   · exact i1.succ ‹_› (by have := VA (k := k + 1) q; omega)
  replace h9 := of_decide_eq_false h9
  refine zK (t_x (t_x (b_x (t_n (qm (qA ?_))))))
  refine sp (.bool true) ?_
  refine qx (t_n (xC ?_))
  refine ret1 (.bool true) rfl rfl ⟨_, rfl, ?_, H.base⟩
  obtain rfl : k = s.qg.length := by omega
  rw [yP ⟨by assumption, by omega, i1⟩]
 replace h3 := xg h3
 replace h3 := xX h3
 refine zf [9, 10, 11, 12, 13, 14] ?_
 refine sp (.bool true) ?_
 refine qx (t_n ?_)
 refine qW true rfl (fun _ => ?_) (fun h => absurd h (by decide))
 refine qm (qA ?_)
 refine sp (.bool false) ?_
 refine qx (t_n (xC (t_r ?_)))
 refine ret1 (.bool false) rfl rfl ⟨_, rfl, ?_, H.base⟩
 rw [xy (fun h => by obtain ⟨h1, h2, h3⟩ := h; first | contradiction | omega | (obtain ⟨q1, q2⟩ := h3 k (by omega); first | contradiction | (have := VA (k := k + 1) q; omega)))]

end Go.Proofs.YtkmlihdacnfhdaaGreat
