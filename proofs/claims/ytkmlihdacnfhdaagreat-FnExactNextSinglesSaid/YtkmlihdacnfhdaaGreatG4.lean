/- Walks, printed by program (wip/tools/gv.py): what each function comes to, for all arguments. -/
import Derived.Test.YtkmlihdacnfhdaaGreatG3
import Derived.Test.YtkmlihdacnfhdaaGreatP1
namespace Go.Proofs.YtkmlihdacnfhdaaGreat
open Go.Proofs.YtkmlihdacnfhdaaGreat.Tot (tot)
open Go.Proofs.YtkmlihdacnfhdaaGreat.Mark (cnt mrk mkd mkd_mark cnt_mark)
open Go.RowKit
set_option linter.unusedVariables false
set_option linter.unusedSimpArgs false
set_option maxRecDepth 100000
set_option maxHeartbeats 4000000



theorem l01Bag_ok (w : World) (l : List Int) (al : Option Addr) (cl : Nat) (Fl : List Nat) (hl : qQ.rep w Fl [.slice al l.length cl] l) : Calls Tryz.prog 89 #[.slice al l.length cl] w (Ret (fun v w' => v = .bool (dec (BagAny l))) w) := by
 refine enter (n := 19) Tryz.func89 rfl Tryz.ntmps89 (Nat.le_of_ble_eq_true rfl) ?_
 have H := (St.start w).arg hl
 have nhl := qJ hl
 clear hl
 refine qm (qy ?_)
 refine sp (.bool false) ?_
 refine qw (t_n (qm (qm (qy ?_))))
 refine sp (.int .i64 0) ?_
 refine qw (t_n (xu ?_))
 refine zG (fun m' ρ w1 => ∃ (junk : Env) (k : Nat), ρ = upd (upd junk 0 (.slice al l.length cl)) 3 (.int .i64 k) ∧ (k ≤ l.length) ∧ (Counts l k) ∧ m' = l.length - k ∧ St w w1 [] [isF false Fl (.slice al l.length cl) l]) (l.length - 0) ⟨_, 0, (by exact qj (qj (rfl) rfl) rfl), (by omega), (by exact Counts.zero l), rfl, H⟩ ?_
 clear H
 rintro m' ρ w2 ⟨junk, k, rfl, i0, i1, rfl, H⟩
 refine qm (qm (qy ?_))
 refine sps [.int .i64 k, .slice al l.length cl] ?_
 refine sw (zD Tryz.underlying22 al l.length cl rfl ?_)
 refine sp (.bool (decide ((k : Int) < l.length))) ?_
 refine qw (t_n ?_)
 refine qV (decide ((k : Int) < l.length)) rfl (fun h3 => ?_) (fun h3 => ?_)
 ·skip
  replace h3 := of_decide_eq_true h3
  refine xh (t_n (qm (xu (qm (qy ?_)))))
  refine sps [.slice al l.length cl, .int .i64 k] ?_
  obtain ⟨b4, o5, rfl⟩ := H.addr 0 rfl (by omega)
  refine sw (xJ k Tryz.underlying22 ti2 rfl rfl (by omega) (by omega) ?_)
  refine sw (qE (.int .i64 (l[k]!)) Tryz.isAgg2 rfl (H.vP 0 rfl k (by omega) (by omega)) ?_)
  refine sw (xf #[.int .i64 (l[k]!), .int .i64 0, .int .i64 1000] rfl rfl Tryz.call44 (l00In_ok w2 (l[k]!) 0 1000) ?_)
  rintro _ w6 rfl x7
  replace H := H.ext x7
  refine sp (.bool (!(inR (l[k]!) 0 1000))) ?_
  refine qw (t_n ?_)
  refine qV (!(inR (l[k]!) 0 1000)) rfl (fun h8 => ?_) (fun h8 => ?_)
  ·skip
   replace h8 := xe h8
   replace h8 := Vd h8
   refine qm (qy ?_)
   refine sp (.bool false) ?_
   refine qw (t_n (xx (b_r (t_r (t_r (b_r (t_r ?_)))))))
   refine ret1 (.bool false) rfl rfl ⟨_, rfl, ?_, H.base⟩
   rw [xA (fun h => ‹¬ (0 ≤ l[k]! ∧ l[k]! ≤ 1000)› (h.1 k (by omega)))]
  replace h8 := qX h8
  replace h8 := Xp.1 h8
  refine xh (b_n (t_n (qy ?_)))
  refine sp (.int .i64 k) ?_
  refine sw (zJ k 1 rfl rfl (by omega) ?_)
  refine sp (.int .i64 (k + 1)) ?_
  refine qw ?_
  refine xF (m' := l.length - (k + 1)) (by omega) ⟨_, k + 1, (by exact qj (qj (rfl) rfl) rfl), ?_, ?_, rfl, H⟩
  · omega
  · exact i1.succ ‹_›
 replace h3 := of_decide_eq_false h3
 refine zy (t_x (t_x (b_x (t_n (qm (qy ?_))))))
 refine sp (.slice al l.length cl) ?_
 refine sw (zD Tryz.underlying22 al l.length cl rfl ?_)
 refine sw (xf #[.int .i64 l.length, .int .i64 1, .int .i64 8] rfl rfl Tryz.call44 (l00In_ok w2 l.length 1 8) ?_)
 rintro _ w9 rfl x10
 replace H := H.ext x10
 refine sp (.bool (inR l.length 1 8)) ?_
 refine qw (t_n (xx ?_))
 refine ret1 (.bool (inR l.length 1 8)) rfl rfl ⟨_, rfl, ?_, H.base⟩
 obtain rfl : k = l.length := by omega
 refine congrArg Value.bool (dec_eq ?_)
 rw [Xp]
 exact ⟨fun h => ⟨i1, by omega, by omega⟩, fun h => by have := h.2; omega⟩

theorem QY (w : World) (s : qU) (b : List Int) (bs os : Nat) (qp : Option Addr) (qo : Nat) (qO : List Nat) (qF : Option Addr) (qC : Nat) (xq : List Nat) (ab : Option Addr) (cb : Nat) (Fb : List Nat) (hs : vz w bs os [.int .i64 s.qI, .slice qp s.qf.length qo, .slice qF s.qg.length qC]) (xn : qQ.rep w qO [.slice qp s.qf.length qo] s.qf) (xM : qQ.rep w xq [.slice qF s.qg.length qC] s.qg) (hb : qQ.rep w Fb [.slice ab b.length cb] b) : Calls Tryz.prog 136 #[pp bs os, .slice ab b.length cb] w (Ret (fun v w' => v = .bool (dec (zK s.qI b))) w) := by
 refine enter (n := 16) Tryz.func136 rfl Tryz.ntmps136 (Nat.le_of_ble_eq_true rfl) ?_
 have H := ((((St.start w).arg hb).arg xM).arg xn).argAt hs
 have vk := qJ xn
 have jr := qJ xM
 have nhb := qJ hb
 clear hs xn xM hb
 refine qm (qy ?_)
 refine sp (.bool false) ?_
 refine qw (t_n (qm (qy ?_)))
 refine sp (.slice ab b.length cb) ?_
 refine sw (xf #[.slice ab b.length cb] rfl rfl Tryz.call89 (l01Bag_ok w b ab cb Fb (H.get 3 rfl).1) ?_)
 rintro _ w1 rfl x2
 replace H := H.ext x2
 refine sp (.bool (dec (BagAny b))) ?_
 cases h3 : (dec (BagAny b))
 ·skip
  replace h3 := zg h3
  refine xY [8, 9, 10, 11, 12, 13, 14] ?_
  refine sps [.bool false, .bool false] ?_
  refine qw (t_n (xx ?_))
  refine ret1 (.bool false) rfl rfl ⟨_, rfl, ?_, H.base⟩
  rw [xA (fun h => ‹¬ BagAny b› h.1)]
 replace h3 := jA h3
 refine qR 7 rfl rfl ?_
 refine sp (.slice ab b.length cb) ?_
 refine qR 7 rfl rfl ?_
 refine sw (zD Tryz.underlying22 ab b.length cb rfl ?_)
 refine qR 7 rfl rfl ?_
 refine sp (pp bs os) ?_
 refine qR 7 rfl rfl ?_
 refine sp (pp bs os) ?_
 refine qR 7 rfl rfl ?_
 refine sw (qM bs (os) 0 Tryz.underlying36 rfl rfl Tryz.sizeOf2 rfl ?_)
 refine qR 7 rfl rfl ?_
 refine sw (qE (.int .i64 s.qI) Tryz.isAgg2 rfl (H.xR 0 rfl 0 rfl) ?_)
 refine qR 7 rfl rfl ?_
 refine sps [.bool ((b.length : Int) == s.qI), .bool ((b.length : Int) == s.qI), .bool ((b.length : Int) == s.qI)] ?_
 refine qw (t_n (xx ?_))
 refine ret1 (.bool ((b.length : Int) == s.qI)) rfl rfl ⟨_, rfl, ?_, H.base⟩
 refine congrArg Value.bool (dec_eq ?_)
 rw [beq_iff_eq]
 exact ⟨fun h => ⟨‹_›, h⟩, fun h => h.2⟩

theorem l02Frame_ok (w : World) (s : qU) (bs os : Nat) (qp : Option Addr) (qo : Nat) (qO : List Nat) (qF : Option Addr) (qC : Nat) (xq : List Nat) (hs : vz w bs os [.int .i64 s.qI, .slice qp s.qf.length qo, .slice qF s.qg.length qC]) (xn : qQ.rep w qO [.slice qp s.qf.length qo] s.qf) (xM : qQ.rep w xq [.slice qF s.qg.length qC] s.qg) : Calls Tryz.prog 83 #[pp bs os] w (Ret (fun v w' => v = .bool (dec (jH s))) w) := by
 refine enter (n := 48) Tryz.func83 rfl Tryz.ntmps83 (Nat.le_of_ble_eq_true rfl) ?_
 have H := (((St.start w).arg xM).arg xn).argAt hs
 have vk := qJ xn
 have jr := qJ xM
 clear hs xn xM
 refine qm (qy ?_)
 refine sp (.bool false) ?_
 refine qw (t_n (qm (qm (qy ?_))))
 refine sps [pp bs os, pp bs os] ?_
 refine sw (qM bs (os) 0 Tryz.underlying36 rfl rfl Tryz.sizeOf2 rfl ?_)
 refine sw (qE (.int .i64 s.qI) Tryz.isAgg2 rfl (H.xR 0 rfl 0 rfl) ?_)
 refine sw (xf #[.int .i64 s.qI, .int .i64 1, .int .i64 8] rfl rfl Tryz.call44 (l00In_ok w s.qI 1 8) ?_)
 rintro _ w1 rfl x2
 replace H := H.ext x2
 refine sps [.bool (!(inR s.qI 1 8)), .bool (!(inR s.qI 1 8))] ?_
 cases h3 : (!(inR s.qI 1 8))
 ·skip
  replace h3 := qX h3
  replace h3 := Xp.1 h3
  refine qR 10 rfl rfl ?_
  refine sp (pp bs os) ?_
  refine qR 10 rfl rfl ?_
  refine sp (pp bs os) ?_
  refine qR 10 rfl rfl ?_
  refine sw (qM bs (os) 1 Tryz.underlying36 rfl rfl Tryz.sizeOf22 rfl ?_)
  refine qR 10 rfl rfl ?_
  refine sw (qE (.slice qp s.qf.length qo) Tryz.isAgg22 rfl (H.xR 0 rfl 1 rfl) ?_)
  refine qR 10 rfl rfl ?_
  refine sw (zD Tryz.underlying22 qp s.qf.length qo rfl ?_)
  refine qR 10 rfl rfl ?_
  refine sw (xf #[.int .i64 s.qf.length, .int .i64 1, .int .i64 6] rfl rfl Tryz.call44 (l00In_ok w1 s.qf.length 1 6) ?_)
  rintro _ w4 rfl x5
  replace H := H.ext x5
  refine qR 10 rfl rfl ?_
  refine sps [.bool (!(inR s.qf.length 1 6)), .bool (!(inR s.qf.length 1 6)), .bool (!(inR s.qf.length 1 6))] ?_
  cases h6 : (!(inR s.qf.length 1 6))
  ·skip
   replace h6 := qX h6
   replace h6 := Xp.1 h6
   refine qR 19 rfl rfl ?_
   refine sp (pp bs os) ?_
   refine qR 19 rfl rfl ?_
   refine sp (pp bs os) ?_
   refine qR 19 rfl rfl ?_
   refine sw (qM bs (os) 1 Tryz.underlying36 rfl rfl Tryz.sizeOf22 rfl ?_)
   refine qR 19 rfl rfl ?_
   refine sw (qE (.slice qp s.qf.length qo) Tryz.isAgg22 rfl (H.xR 0 rfl 1 rfl) ?_)
   refine qR 19 rfl rfl ?_
   obtain ⟨b7, o8, rfl⟩ := H.addr 1 rfl (by omega)
   refine sw (xJ 0 Tryz.underlying22 ti2 rfl rfl (by omega) (by omega) ?_)
   refine qR 19 rfl rfl ?_
   refine sw (qE (.int .i64 (s.qf[0]!)) Tryz.isAgg2 rfl (H.vP 1 rfl 0 (by omega) (by omega)) ?_)
   refine qR 19 rfl rfl ?_
   refine sps [.bool ((s.qf[0]! : Int) != (-1)), .bool ((s.qf[0]! : Int) != (-1))] ?_
   refine qw (t_n ?_)
   refine qV ((s.qf[0]! : Int) != (-1)) rfl (fun h9 => ?_) (fun h9 => ?_)
   ·skip
    replace h9 := bne_iff_ne.1 h9
    refine qm (qy ?_)
    refine sp (.bool false) ?_
    refine qw (t_n (xx (t_r ?_)))
    refine ret1 (.bool false) rfl rfl ⟨_, rfl, ?_, H.base⟩
    rw [xA (fun h => by obtain ⟨h1, h2, h3, h4⟩ := h; first | omega | (have := h4 k (by omega) (by omega); omega))]
   replace h9 := xI h9
   refine xh (t_n (qm (qm (qy ?_))))
   refine sp (.int .i64 1) ?_
   refine qw (t_n (xu ?_))
   refine zG (fun m' ρ w10 => ∃ (junk : Env) (k : Nat), ρ = upd (upd junk 0 (pp bs os)) 3 (.int .i64 k) ∧ (k ≤ s.qf.length) ∧ (1 ≤ k) ∧ (FrameTo s k) ∧ m' = s.qf.length - k ∧ St w w10 [] [atF bs os [.int .i64 s.qI, .slice (aa b7 o8) s.qf.length qo, .slice qF s.qg.length qC], isF false qO (.slice (aa b7 o8) s.qf.length qo) s.qf, isF false xq (.slice qF s.qg.length qC) s.qg]) (s.qf.length - 1) ⟨_, 1, (by exact qj (qj (rfl) rfl) rfl), (by omega), (by omega), (by exact FrameTo.one s), rfl, H⟩ ?_
   clear H
   rintro m' ρ w11 ⟨junk, k, rfl, i0, i2, i1, rfl, H⟩
   refine qm (qm (qy ?_))
   refine sps [.int .i64 k, pp bs os, pp bs os] ?_
   refine sw (qM bs (os) 1 Tryz.underlying36 rfl rfl Tryz.sizeOf22 rfl ?_)
   refine sw (qE (.slice (aa b7 o8) s.qf.length qo) Tryz.isAgg22 rfl (H.xR 0 rfl 1 rfl) ?_)
   refine sw (zD Tryz.underlying22 (aa b7 o8) s.qf.length qo rfl ?_)
   refine sp (.bool (decide ((k : Int) < s.qf.length))) ?_
   refine qw (t_n ?_)
   refine qV (decide ((k : Int) < s.qf.length)) rfl (fun h12 => ?_) (fun h12 => ?_)
   ·skip
    replace h12 := of_decide_eq_true h12
    refine xh (t_n (qm (xu (qm (qy ?_)))))
    refine sps [pp bs os, pp bs os] ?_
    refine sw (qM bs (os) 1 Tryz.underlying36 rfl rfl Tryz.sizeOf22 rfl ?_)
    refine sw (qE (.slice (aa b7 o8) s.qf.length qo) Tryz.isAgg22 rfl (H.xR 0 rfl 1 rfl) ?_)
    refine sp (.int .i64 k) ?_
    refine sw (xJ k Tryz.underlying22 ti2 rfl rfl (by omega) (by omega) ?_)
    refine sw (qE (.int .i64 (s.qf[k]!)) Tryz.isAgg2 rfl (H.vP 1 rfl k (by omega) (by omega)) ?_)
    refine sp (.int .i64 k) ?_
    refine sw (o_sub k 1 rfl rfl (by omega) ?_)
    refine sw (xf #[.int .i64 (s.qf[k]!), .int .i64 0, .int .i64 (k - 1)] rfl rfl Tryz.call44 (l00In_ok w11 (s.qf[k]!) 0 (k - 1)) ?_)
    rintro _ w13 rfl x14
    replace H := H.ext x14
    refine sp (.bool (!(inR (s.qf[k]!) 0 (k - 1)))) ?_
    refine qw (t_n ?_)
    refine qV (!(inR (s.qf[k]!) 0 (k - 1))) rfl (fun h15 => ?_) (fun h15 => ?_)
    ·skip
     replace h15 := xe h15
     replace h15 := Vd h15
     refine qm (qy ?_)
     refine sp (.bool false) ?_
     refine qw (t_n (xx (b_r (t_r (t_r (b_r (t_r ?_)))))))
     refine ret1 (.bool false) rfl rfl ⟨_, rfl, ?_, H.base⟩
     rw [xA (fun h => by obtain ⟨h1, h2, h3, h4⟩ := h; first | omega | (have := h4 k (by omega) (by omega); omega))]
    replace h15 := qX h15
    replace h15 := Xp.1 h15
    refine xh (b_n (t_n (qy ?_)))
    refine sp (.int .i64 k) ?_
    refine sw (zJ k 1 rfl rfl (by omega) ?_)
    refine sp (.int .i64 (k + 1)) ?_
    refine qw ?_
    refine xF (m' := s.qf.length - (k + 1)) (by omega) ⟨_, k + 1, (by exact qj (qj (rfl) rfl) rfl), ?_, ?_, ?_, rfl, H⟩
    · omega
    · omega
    · exact i1.succ ‹_›
   replace h12 := of_decide_eq_false h12
   refine zy (t_x (t_x (b_x (t_n (qm (qy ?_))))))
   refine sp (.bool true) ?_
   refine qw (t_n (xx ?_))
   refine ret1 (.bool true) rfl rfl ⟨_, rfl, ?_, H.base⟩
   obtain rfl : k = s.qf.length := by omega
   rw [yU ⟨by omega, by omega, by omega, i1⟩]
  replace h6 := xe h6
  replace h6 := Vd h6
  refine xY [20, 21, 22, 23, 24, 25, 26] ?_
  refine sp (.bool true) ?_
  refine qw (t_n ?_)
  refine qV true rfl (fun _ => ?_) (fun h => absurd h (by decide))
  refine qm (qy ?_)
  refine sp (.bool false) ?_
  refine qw (t_n (xx (t_r ?_)))
  refine ret1 (.bool false) rfl rfl ⟨_, rfl, ?_, H.base⟩
  rw [xA (fun h => by obtain ⟨h1, h2, h3, h4⟩ := h; first | omega | (have := h4 k (by omega) (by omega); omega))]
 replace h3 := xe h3
 replace h3 := Vd h3
 refine xY [11, 12, 13, 14, 15, 16, 17] ?_
 refine sps [.bool true, .bool true] ?_
 refine xY [20, 21, 22, 23, 24, 25, 26] ?_
 refine sp (.bool true) ?_
 refine qw (t_n ?_)
 refine qV true rfl (fun _ => ?_) (fun h => absurd h (by decide))
 refine qm (qy ?_)
 refine sp (.bool false) ?_
 refine qw (t_n (xx (t_r ?_)))
 refine ret1 (.bool false) rfl rfl ⟨_, rfl, ?_, H.base⟩
 rw [xA (fun h => by obtain ⟨h1, h2, h3, h4⟩ := h; first | omega | (have := h4 k (by omega) (by omega); omega))]

theorem l02In_ok (w : World) (s : qU) (c : Int) (other : Int) (bs os : Nat) (qp : Option Addr) (qo : Nat) (qO : List Nat) (qF : Option Addr) (qC : Nat) (xq : List Nat) (hs : vz w bs os [.int .i64 s.qI, .slice qp s.qf.length qo, .slice qF s.qg.length qC]) (xn : qQ.rep w qO [.slice qp s.qf.length qo] s.qf) (xM : qQ.rep w xq [.slice qF s.qg.length qC] s.qg) (p0 : jH s) (p1 : CellIn s c) : Calls Tryz.prog 138 #[pp bs os, .int .i64 c, .int .i64 other] w (Ret (fun v w' => v = .bool (dec (Lies s.qf other c))) w) := by
 refine enter (n := 19) Tryz.func138 rfl Tryz.ntmps138 (Nat.le_of_ble_eq_true rfl) ?_
 have H := (((St.start w).arg xM).arg xn).argAt hs
 have vk := qJ xn
 have jr := qJ xM
 clear hs xn xM
 refine qm (qy ?_)
 refine sp (.bool false) ?_
 refine qw (t_n (qm (xu ?_)))
 refine zG (fun m' ρ w1 => ∃ (junk : Env) (y : Int), ρ = upd (upd (upd junk 0 (pp bs os)) 1 (.int .i64 y)) 2 (.int .i64 other) ∧ (0 ≤ y ∧ y ≤ (s.qf.length : Int) - 1) ∧ (Lies s.qf other c ↔ Lies s.qf other y) ∧ m' = y.toNat ∧ St w w1 [] [atF bs os [.int .i64 s.qI, .slice qp s.qf.length qo, .slice qF s.qg.length qC], isF false qO (.slice qp s.qf.length qo) s.qf, isF false xq (.slice qF s.qg.length qC) s.qg]) (c.toNat) ⟨_, c, (by exact qj (qj (qj (rfl) rfl) rfl) rfl), (by exact p1), (by exact Iff.rfl), rfl, H⟩ ?_
 clear H
 rintro m' ρ w2 ⟨junk, y, rfl, i0, i1, rfl, H⟩
 have up := fun h => p0.up (c := y) h i0.2
 refine qm (qm (qy ?_))
 refine sps [.int .i64 y, .bool (decide ((y : Int) > 0))] ?_
 refine qw (t_n ?_)
 refine qV (decide ((y : Int) > 0)) rfl (fun h3 => ?_) (fun h3 => ?_)
 ·skip
  replace h3 := of_decide_eq_true h3
  refine xh (t_n (xu (qm (qy ?_))))
  refine sps [pp bs os, pp bs os] ?_
  refine sw (qM bs (os) 1 Tryz.underlying36 rfl rfl Tryz.sizeOf22 rfl ?_)
  refine sw (qE (.slice qp s.qf.length qo) Tryz.isAgg22 rfl (H.xR 0 rfl 1 rfl) ?_)
  refine sp (.int .i64 y) ?_
  obtain ⟨b4, o5, rfl⟩ := H.addr 1 rfl (by omega)
  refine sw (xJ y Tryz.underlying22 ti2 rfl rfl (by omega) (by omega) ?_)
  refine sw (qE (.int .i64 (s.qf[y.toNat]!)) Tryz.isAgg2 rfl (H.vP 1 rfl y (by omega) (by omega)) ?_)
  refine sp (.int .i64 (s.qf[y.toNat]!)) ?_
  refine qw (t_n (qm (qy ?_)))
  refine sps [.int .i64 (s.qf[y.toNat]!), .int .i64 other, .bool ((s.qf[y.toNat]! : Int) == other)] ?_
  refine qw (t_n ?_)
  refine qV ((s.qf[y.toNat]! : Int) == other) rfl (fun h6 => ?_) (fun h6 => ?_)
  ·skip
   replace h6 := eq_of_beq h6
   refine qm (qy ?_)
   refine sp (.bool true) ?_
   refine qw (t_n (xx (b_r (t_r (b_r (t_r ?_))))))
   refine ret1 (.bool true) rfl rfl ⟨_, rfl, ?_, H.base⟩
   rw [yU (i1.2 (.here (by omega) ‹_›))]
  replace h6 := ne_of_beq_false h6
  refine xh (b_n ?_)
  have up1 := up (by omega)
  refine xF (m' := (s.qf[y.toNat]!).toNat) (by omega) ⟨_, (s.qf[y.toNat]!), (by exact qj (qj (qj (rfl) rfl) rfl) rfl), ?_, ?_, rfl, H⟩
  · have := up (by omega); omega
  · exact i1.trans (lies_iff.trans ⟨fun h => h.2.resolve_left ‹_›, fun h => ⟨by omega, .inr h⟩⟩)
 replace h3 := of_decide_eq_false h3
 refine zy (t_x (t_x (b_x (t_n (qm (qy ?_))))))
 refine sp (.bool false) ?_
 refine qw (t_n (xx ?_))
 refine ret1 (.bool false) rfl rfl ⟨_, rfl, ?_, H.base⟩
 rw [xA (fun h => by have := (lies_iff.1 (i1.1 h)).1; omega)]

theorem l02Rule_ok (w : World) (s : qU) (r : QB) (bs os : Nat) (qp : Option Addr) (qo : Nat) (qO : List Nat) (qF : Option Addr) (qC : Nat) (xq : List Nat) (br or : Nat) (ve : Option Addr) (zZ : Nat) (QZ : List Nat) (vV : Option Addr) (vU : Nat) (Xu : List Nat) (vJ : Option Addr) (vI : Nat) (Xj : List Nat) (jf : Option Addr) (je : Nat) (XL : List Nat) (Qp : Option Addr) (Qo : Nat) (FrOut : List Nat) (zN : Option Addr) (zI : Nat) (FrInto : List Nat) (hs : vz w bs os [.int .i64 s.qI, .slice qp s.qf.length qo, .slice qF s.qg.length qC]) (xn : qQ.rep w qO [.slice qp s.qf.length qo] s.qf) (xM : qQ.rep w xq [.slice qF s.qg.length qC] s.qg) (hr : vz w br or [.int .i64 r.qA, .int .i64 r.xZ, .slice ve r.qW.length zZ, .slice vV r.xg.length vU, .slice vJ r.xk.length vI, .slice jf r.xw.length je, .slice Qp r.zf.length Qo, .slice zN r.qB.length zI, .bool r.xP]) (hrNeed : qQ.rep w QZ [.slice ve r.qW.length zZ] r.qW) (hrHave : qQ.rep w Xu [.slice vV r.xg.length vU] r.xg) (hrLack : qQ.rep w Xj [.slice vJ r.xk.length vI] r.xk) (hrHere : qQ.rep w XL [.slice jf r.xw.length je] r.xw) (hrOut : qQ.rep w FrOut [.slice Qp r.zf.length Qo] r.zf) (hrInto : qQ.rep w FrInto [.slice zN r.qB.length zI] r.qB) (p0 : jH s) : Calls Tryz.prog 84 #[pp bs os, pp br or] w (Ret (fun v w' => v = .bool (dec (RuleOk s r))) w) := by
 refine enter (n := 174) Tryz.func84 rfl Tryz.ntmps84 (Nat.le_of_ble_eq_true rfl) ?_
 have H := ((((((((((St.start w).arg hrInto).arg hrOut).arg hrHere).arg hrLack).arg hrHave).arg hrNeed).argAt hr).arg xM).arg xn).argAt hs
 have vk := qJ xn
 have jr := qJ xM
 have nhrNeed := qJ hrNeed
 have nhrHave := qJ hrHave
 have nhrLack := qJ hrLack
 have nhrHere := qJ hrHere
 have nhrOut := qJ hrOut
 have nhrInto := qJ hrInto
 clear hs xn xM hr hrNeed hrHave hrLack hrHere hrOut hrInto
 refine qm (qy ?_)
 refine sp (.bool false) ?_
 refine qw (t_n (qm (qm ?_)))
 refine jk rfl H fun H => ?_
 refine rtp 0 (pp br or) H ?_
 refine rtp 1 (pp br or) H ?_
 refine rt 2 (pp br (or + 0)) (xE br (or) 0 Tryz.underlying110 rfl rfl Tryz.sizeOf2 rfl) H ?_
 refine rt 3 (.int .i64 r.qA) (xm Tryz.isAgg2 rfl (fun _ h => h.xR 3 rfl 0 rfl)) H ?_
 refine rtp 4 (pp bs os) H ?_
 refine rtp 5 (pp bs os) H ?_
 refine rt 6 (pp bs (os + 1)) (xE bs (os) 1 Tryz.underlying36 rfl rfl Tryz.sizeOf22 rfl) H ?_
 refine rt 7 (.slice qp s.qf.length qo) (xm Tryz.isAgg22 rfl (fun _ h => h.xR 0 rfl 1 rfl)) H ?_
 refine rt 8 (.int .i64 s.qf.length) (y_len Tryz.underlying22 qp s.qf.length qo rfl) H ?_
 refine rt 9 (.int .i64 (s.qf.length - 1)) (y_sub s.qf.length 1 rfl rfl (by omega)) H ?_
 refine xB [10] (by kernel_rfl) (by simp) (zh rfl ?_ xC)
 refine xf #[.int .i64 r.qA, .int .i64 0, .int .i64 (s.qf.length - 1)] rfl rfl Tryz.call44 (l00In_ok w.drew r.qA 0 (s.qf.length - 1)) ?_
 rintro _ w2 rfl x3
 replace H := H.ext x3
 refine ⟨H, ?_⟩
 refine rtp 11 (.bool (!(inR r.qA 0 (s.qf.length - 1)))) H ?_
 refine rtp 12 (.bool (!(inR r.qA 0 (s.qf.length - 1)))) H ?_
 cases h4 : (!(inR r.qA 0 (s.qf.length - 1)))
 ·skip
  replace h4 := qX h4
  replace h4 := Xp.1 h4
  refine rgp 13 (pp br or) 19 H ?_
  refine rgp 14 (pp br or) 19 H ?_
  refine rg 15 (pp br (or + 1)) 19 (xE br (or) 1 Tryz.underlying110 rfl rfl Tryz.sizeOf2 rfl) H ?_
  refine rg 16 (.int .i64 r.xZ) 19 (xm Tryz.isAgg2 rfl (fun _ h => h.xR 3 rfl 1 rfl)) H ?_
  refine xB [17] (by kernel_rfl) (by simp) (r_opG rfl (e := 19) rfl rfl ?_ xC)
  refine xf #[.int .i64 r.xZ, .int .i64 0, .int .i64 9] rfl rfl Tryz.call44 (l00In_ok w2 r.xZ 0 9) ?_
  rintro _ w5 rfl x6
  replace H := H.ext x6
  refine ⟨H, ?_⟩
  refine rgp 18 (.bool (!(inR r.xZ 0 9))) 19 H ?_
  refine rtp 19 (.bool (!(inR r.xZ 0 9))) H ?_
  refine rtp 20 (.bool (!(inR r.xZ 0 9))) H ?_
  cases h7 : (!(inR r.xZ 0 9))
  ·skip
   replace h7 := qX h7
   replace h7 := Xp.1 h7
   refine rgp 21 (pp br or) 27 H ?_
   refine rgp 22 (pp br or) 27 H ?_
   refine rg 23 (pp br (or + 8)) 27 (xE br (or) 8 Tryz.underlying110 rfl rfl Tryz.sizeOf4 rfl) H ?_
   refine rg 24 (.bool r.xP) 27 (xm Tryz.isAgg4 rfl (fun _ h => h.xR 3 rfl 8 rfl)) H ?_
   refine rgp 25 (.bool r.xP) 27 H ?_
   cases h8 : (r.xP)
   ·skip
    rw [h8] at H
    refine zC [26, 27, 28, 29, 30] 5 (H) ?_
    refine rgp 31 (.bool false) 27 H ?_
    refine rtp 32 (.bool false) H ?_
    refine rtp 33 (.bool false) H ?_
    refine rgp 34 (pp br or) 40 H ?_
    refine rgp 35 (pp br or) 40 H ?_
    refine rg 36 (pp br (or + 7)) 40 (xE br (or) 7 Tryz.underlying110 rfl rfl Tryz.sizeOf108 rfl) H ?_
    refine rg 37 (.slice zN r.qB.length zI) 40 (xm Tryz.isAgg108 rfl (fun _ h => h.xR 3 rfl 7 rfl)) H ?_
    refine rg 38 (.int .i64 r.qB.length) 40 (y_len Tryz.underlying108 zN r.qB.length zI rfl) H ?_
    refine rgp 39 (.bool (decide ((r.qB.length : Int) > 3))) 40 H ?_
    refine rtp 40 (.bool (decide ((r.qB.length : Int) > 3))) H ?_
    refine xO (by kernel_rfl) (t_n ?_)
    refine qV (decide ((r.qB.length : Int) > 3)) rfl (fun h9 => ?_) (fun h9 => ?_)
    ·skip
     replace h9 := of_decide_eq_true h9
     refine qm (qy ?_)
     refine sp (.bool false) ?_
     refine qw (t_n (xx (t_r ?_)))
     refine ret1 (.bool false) rfl rfl ⟨_, rfl, ?_, H.base⟩
     rw [xA (fun h => by obtain ⟨h1, h2, h3, h4, h5, h6, h7, h8, h9, h10, h11⟩ := h; first | contradiction | omega | exact h3 ⟨‹_›, ‹_›⟩ | (obtain ⟨q1, q2, q3, q4, q5⟩ := h11 k (by omega); first | contradiction | omega | (have := q5 (by omega); omega)))]
    replace h9 := of_decide_eq_false h9
    refine xh (t_n (qm (qm (qy ?_))))
    refine sps [pp bs os, pp br or, pp br or] ?_
    refine sw (qM br (or) 2 Tryz.underlying110 rfl rfl Tryz.sizeOf22 rfl ?_)
    refine sw (qE (.slice ve r.qW.length zZ) Tryz.isAgg22 rfl (H.xR 3 rfl 2 rfl) ?_)
    refine sw (xf #[pp bs os, .slice ve r.qW.length zZ] rfl rfl Tryz.call136 (QY w5 s r.qW bs os qp qo qO qF qC xq ve zZ QZ (qG (H.get 0 rfl) 0 3) (H.get 1 rfl).1 (H.get 2 rfl).1 (H.get 4 rfl).1) ?_)
    rintro _ w10 rfl x11
    replace H := H.ext x11
    refine sps [.bool (!(dec (zK s.qI r.qW))), .bool (!(dec (zK s.qI r.qW)))] ?_
    cases h12 : (!(dec (zK s.qI r.qW)))
    ·skip
     replace h12 := qX h12
     replace h12 := jA h12
     refine qR 55 rfl rfl ?_
     refine sp (pp bs os) ?_
     refine qR 55 rfl rfl ?_
     refine sp (pp br or) ?_
     refine qR 55 rfl rfl ?_
     refine sp (pp br or) ?_
     refine qR 55 rfl rfl ?_
     refine sw (qM br (or) 3 Tryz.underlying110 rfl rfl Tryz.sizeOf22 rfl ?_)
     refine qR 55 rfl rfl ?_
     refine sw (qE (.slice vV r.xg.length vU) Tryz.isAgg22 rfl (H.xR 3 rfl 3 rfl) ?_)
     refine qR 55 rfl rfl ?_
     refine sw (xf #[pp bs os, .slice vV r.xg.length vU] rfl rfl Tryz.call136 (QY w10 s r.xg bs os qp qo qO qF qC xq vV vU Xu (qG (H.get 0 rfl) 0 3) (H.get 1 rfl).1 (H.get 2 rfl).1 (H.get 5 rfl).1) ?_)
     rintro _ w13 rfl x14
     replace H := H.ext x14
     refine qR 55 rfl rfl ?_
     refine sps [.bool (!(dec (zK s.qI r.xg))), .bool (!(dec (zK s.qI r.xg))), .bool (!(dec (zK s.qI r.xg)))] ?_
     cases h15 : (!(dec (zK s.qI r.xg)))
     ·skip
      replace h15 := qX h15
      replace h15 := jA h15
      refine qR 64 rfl rfl ?_
      refine sp (pp bs os) ?_
      refine qR 64 rfl rfl ?_
      refine sp (pp br or) ?_
      refine qR 64 rfl rfl ?_
      refine sp (pp br or) ?_
      refine qR 64 rfl rfl ?_
      refine sw (qM br (or) 4 Tryz.underlying110 rfl rfl Tryz.sizeOf22 rfl ?_)
      refine qR 64 rfl rfl ?_
      refine sw (qE (.slice vJ r.xk.length vI) Tryz.isAgg22 rfl (H.xR 3 rfl 4 rfl) ?_)
      refine qR 64 rfl rfl ?_
      refine sw (xf #[pp bs os, .slice vJ r.xk.length vI] rfl rfl Tryz.call136 (QY w13 s r.xk bs os qp qo qO qF qC xq vJ vI Xj (qG (H.get 0 rfl) 0 3) (H.get 1 rfl).1 (H.get 2 rfl).1 (H.get 6 rfl).1) ?_)
      rintro _ w16 rfl x17
      replace H := H.ext x17
      refine qR 64 rfl rfl ?_
      refine sps [.bool (!(dec (zK s.qI r.xk))), .bool (!(dec (zK s.qI r.xk))), .bool (!(dec (zK s.qI r.xk)))] ?_
      cases h18 : (!(dec (zK s.qI r.xk)))
      ·skip
       replace h18 := qX h18
       replace h18 := jA h18
       refine qR 73 rfl rfl ?_
       refine sp (pp bs os) ?_
       refine qR 73 rfl rfl ?_
       refine sp (pp br or) ?_
       refine qR 73 rfl rfl ?_
       refine sp (pp br or) ?_
       refine qR 73 rfl rfl ?_
       refine sw (qM br (or) 5 Tryz.underlying110 rfl rfl Tryz.sizeOf22 rfl ?_)
       refine qR 73 rfl rfl ?_
       refine sw (qE (.slice jf r.xw.length je) Tryz.isAgg22 rfl (H.xR 3 rfl 5 rfl) ?_)
       refine qR 73 rfl rfl ?_
       refine sw (xf #[pp bs os, .slice jf r.xw.length je] rfl rfl Tryz.call136 (QY w16 s r.xw bs os qp qo qO qF qC xq jf je XL (qG (H.get 0 rfl) 0 3) (H.get 1 rfl).1 (H.get 2 rfl).1 (H.get 7 rfl).1) ?_)
       rintro _ w19 rfl x20
       replace H := H.ext x20
       refine qR 73 rfl rfl ?_
       refine sps [.bool (!(dec (zK s.qI r.xw))), .bool (!(dec (zK s.qI r.xw))), .bool (!(dec (zK s.qI r.xw)))] ?_
       cases h21 : (!(dec (zK s.qI r.xw)))
       ·skip
        replace h21 := qX h21
        replace h21 := jA h21
        refine qR 82 rfl rfl ?_
        refine sp (pp bs os) ?_
        refine qR 82 rfl rfl ?_
        refine sp (pp br or) ?_
        refine qR 82 rfl rfl ?_
        refine sp (pp br or) ?_
        refine qR 82 rfl rfl ?_
        refine sw (qM br (or) 6 Tryz.underlying110 rfl rfl Tryz.sizeOf22 rfl ?_)
        refine qR 82 rfl rfl ?_
        refine sw (qE (.slice Qp r.zf.length Qo) Tryz.isAgg22 rfl (H.xR 3 rfl 6 rfl) ?_)
        refine qR 82 rfl rfl ?_
        refine sw (xf #[pp bs os, .slice Qp r.zf.length Qo] rfl rfl Tryz.call136 (QY w19 s r.zf bs os qp qo qO qF qC xq Qp Qo FrOut (qG (H.get 0 rfl) 0 3) (H.get 1 rfl).1 (H.get 2 rfl).1 (H.get 8 rfl).1) ?_)
        rintro _ w22 rfl x23
        replace H := H.ext x23
        refine qR 82 rfl rfl ?_
        refine sps [.bool (!(dec (zK s.qI r.zf))), .bool (!(dec (zK s.qI r.zf))), .bool (!(dec (zK s.qI r.zf)))] ?_
        cases h24 : (!(dec (zK s.qI r.zf)))
        ·skip
         replace h24 := qX h24
         replace h24 := jA h24
         refine qR 91 rfl rfl ?_
         refine sp (pp br or) ?_
         refine qR 91 rfl rfl ?_
         refine sp (pp br or) ?_
         refine qR 91 rfl rfl ?_
         refine sw (qM br (or) 2 Tryz.underlying110 rfl rfl Tryz.sizeOf22 rfl ?_)
         refine qR 91 rfl rfl ?_
         refine sw (qE (.slice ve r.qW.length zZ) Tryz.isAgg22 rfl (H.xR 3 rfl 2 rfl) ?_)
         refine qR 91 rfl rfl ?_
         refine sw (xf #[.slice ve r.qW.length zZ] rfl rfl Tryz.call137 (l01Size_ok w22 r.qW ve zZ QZ (H.get 4 rfl).1 (by first | assumption | exact jd (by assumption) | exact Xh (by assumption))) ?_)
         rintro _ w25 rfl x26
         replace H := H.ext x26
         refine qR 91 rfl rfl ?_
         refine sps [.bool ((sumL r.qW : Int) == 0), .bool ((sumL r.qW : Int) == 0)] ?_
         refine qw (t_n ?_)
         refine qV ((sumL r.qW : Int) == 0) rfl (fun h27 => ?_) (fun h27 => ?_)
         ·skip
          replace h27 := eq_of_beq h27
          refine qm (qy ?_)
          refine sp (.bool false) ?_
          refine qw (t_n (xx (t_r ?_)))
          refine ret1 (.bool false) rfl rfl ⟨_, rfl, ?_, H.base⟩
          rw [xA (fun h => by obtain ⟨h1, h2, h3, h4, h5, h6, h7, h8, h9, h10, h11⟩ := h; first | contradiction | omega | exact h3 ⟨‹_›, ‹_›⟩ | (obtain ⟨q1, q2, q3, q4, q5⟩ := h11 k (by omega); first | contradiction | omega | (have := q5 (by omega); omega)))]
         replace h27 := ne_of_beq_false h27
         refine xh (t_n (qm (qm (qy ?_))))
         refine sp (.int .i64 0) ?_
         refine qw (t_n (xu ?_))
         refine zG (fun m' ρ w28 => ∃ (junk : Env) (k : Nat), ρ = upd (upd (upd junk 0 (pp bs os)) 1 (pp br or)) 5 (.int .i64 k) ∧ (k ≤ r.qB.length) ∧ (IntosTo s r k) ∧ m' = r.qB.length - k ∧ St w w28 [] [atF bs os [.int .i64 s.qI, .slice qp s.qf.length qo, .slice qF s.qg.length qC], isF false qO (.slice qp s.qf.length qo) s.qf, isF false xq (.slice qF s.qg.length qC) s.qg, atF br or [.int .i64 r.qA, .int .i64 r.xZ, .slice ve r.qW.length zZ, .slice vV r.xg.length vU, .slice vJ r.xk.length vI, .slice jf r.xw.length je, .slice Qp r.zf.length Qo, .slice zN r.qB.length zI, .bool false], isF false QZ (.slice ve r.qW.length zZ) r.qW, isF false Xu (.slice vV r.xg.length vU) r.xg, isF false Xj (.slice vJ r.xk.length vI) r.xk, isF false XL (.slice jf r.xw.length je) r.xw, isF false FrOut (.slice Qp r.zf.length Qo) r.zf, isF false FrInto (.slice zN r.qB.length zI) r.qB]) (r.qB.length - 0) ⟨_, 0, (by exact qj (qj (qj (rfl) rfl) rfl) rfl), (by omega), (by exact fun j hj => by omega), rfl, H⟩ ?_
         clear H
         rintro m' ρ w29 ⟨junk, k, rfl, i0, i1, rfl, H⟩
         refine qm (qm (qy ?_))
         refine sps [.int .i64 k, pp br or, pp br or] ?_
         refine sw (qM br (or) 7 Tryz.underlying110 rfl rfl Tryz.sizeOf108 rfl ?_)
         refine sw (qE (.slice zN r.qB.length zI) Tryz.isAgg108 rfl (H.xR 3 rfl 7 rfl) ?_)
         refine sw (zD Tryz.underlying108 zN r.qB.length zI rfl ?_)
         refine sp (.bool (decide ((k : Int) < r.qB.length))) ?_
         refine qw (t_n ?_)
         refine qV (decide ((k : Int) < r.qB.length)) rfl (fun h30 => ?_) (fun h30 => ?_)
         ·skip
          replace h30 := of_decide_eq_true h30
          refine xh (t_n (qm (xu (qm (qy ?_)))))
          refine sps [pp br or, pp br or] ?_
          refine sw (qM br (or) 7 Tryz.underlying110 rfl rfl Tryz.sizeOf108 rfl ?_)
          refine sw (qE (.slice zN r.qB.length zI) Tryz.isAgg108 rfl (H.xR 3 rfl 7 rfl) ?_)
          refine sp (.int .i64 k) ?_
          obtain ⟨b31, o32, rfl⟩ := H.addr 9 rfl (by omega)
          obtain ⟨Vx, Vw, Fe33Bag, H⟩ := H.jl 9 rfl k k (by omega) (by omega) (by omega)
          refine sw (xJ k Tryz.underlying108 ti115 rfl rfl (by omega) (by omega) ?_)
          refine sp (pp b31 (o32 + (k : Int).toNat * 2)) ?_
          refine qw (t_n (qm (qm ?_)))
          refine jk rfl H fun H => ?_
          refine rtp 0 (pp b31 (o32 + (k : Int).toNat * 2)) H ?_
          refine rtp 1 (pp b31 (o32 + (k : Int).toNat * 2)) H ?_
          refine rt 2 (pp b31 (o32 + (k : Int).toNat * 2 + 0)) (xE b31 (o32 + (k : Int).toNat * 2) 0 Tryz.underlying115 rfl rfl Tryz.sizeOf2 rfl) H ?_
          refine rt 3 (.int .i64 ((r.qB[k]!).qA)) (xm Tryz.isAgg2 rfl (fun _ h => h.xR 1 rfl 0 rfl)) H ?_
          refine rtp 4 (pp bs os) H ?_
          refine rtp 5 (pp bs os) H ?_
          refine rt 6 (pp bs (os + 1)) (xE bs (os) 1 Tryz.underlying36 rfl rfl Tryz.sizeOf22 rfl) H ?_
          refine rt 7 (.slice qp s.qf.length qo) (xm Tryz.isAgg22 rfl (fun _ h => h.xR 2 rfl 1 rfl)) H ?_
          refine rt 8 (.int .i64 s.qf.length) (y_len Tryz.underlying22 qp s.qf.length qo rfl) H ?_
          refine rt 9 (.int .i64 (s.qf.length - 1)) (y_sub s.qf.length 1 rfl rfl (by omega)) H ?_
          refine xB [10] (by kernel_rfl) (by simp) (zh rfl ?_ xC)
          refine xf #[.int .i64 ((r.qB[k]!).qA), .int .i64 0, .int .i64 (s.qf.length - 1)] rfl rfl Tryz.call44 (l00In_ok w29.drew ((r.qB[k]!).qA) 0 (s.qf.length - 1)) ?_
          rintro _ w35 rfl x36
          replace H := H.ext x36
          refine ⟨H, ?_⟩
          refine rtp 11 (.bool (!(inR ((r.qB[k]!).qA) 0 (s.qf.length - 1)))) H ?_
          refine rtp 12 (.bool (!(inR ((r.qB[k]!).qA) 0 (s.qf.length - 1)))) H ?_
          cases h37 : (!(inR ((r.qB[k]!).qA) 0 (s.qf.length - 1)))
          ·skip
           replace h37 := qX h37
           replace h37 := Xp.1 h37
           refine rgp 13 (pp bs os) 126 H ?_
           refine rgp 14 (pp b31 (o32 + (k : Int).toNat * 2)) 126 H ?_
           refine rgp 15 (pp b31 (o32 + (k : Int).toNat * 2)) 126 H ?_
           refine rg 16 (pp b31 (o32 + (k : Int).toNat * 2 + 0)) 126 (xE b31 (o32 + (k : Int).toNat * 2) 0 Tryz.underlying115 rfl rfl Tryz.sizeOf2 rfl) H ?_
           refine rg 17 (.int .i64 ((r.qB[k]!).qA)) 126 (xm Tryz.isAgg2 rfl (fun _ h => h.xR 1 rfl 0 rfl)) H ?_
           refine rgp 18 (pp br or) 126 H ?_
           refine rgp 19 (pp br or) 126 H ?_
           refine rg 20 (pp br (or + 0)) 126 (xE br (or) 0 Tryz.underlying110 rfl rfl Tryz.sizeOf2 rfl) H ?_
           refine rg 21 (.int .i64 r.qA) 126 (xm Tryz.isAgg2 rfl (fun _ h => h.xR 5 rfl 0 rfl)) H ?_
           refine xB [22] (by kernel_rfl) (by simp) (r_opG rfl (e := 126) rfl rfl ?_ xC)
           refine xf #[pp bs os, .int .i64 ((r.qB[k]!).qA), .int .i64 r.qA] rfl rfl Tryz.call138 (l02In_ok w35 s ((r.qB[k]!).qA) r.qA bs os qp qo qO qF qC xq (qG (H.get 2 rfl) 0 3) (H.get 3 rfl).1 (H.get 4 rfl).1 (by assumption) (by assumption)) ?_
           rintro _ w38 rfl x39
           replace H := H.ext x39
           refine ⟨H, ?_⟩
           refine rgp 23 (.bool (!(dec (Lies s.qf r.qA ((r.qB[k]!).qA))))) 126 H ?_
           refine rtp 24 (.bool (!(dec (Lies s.qf r.qA ((r.qB[k]!).qA))))) H ?_
           refine rtp 25 (.bool (!(dec (Lies s.qf r.qA ((r.qB[k]!).qA))))) H ?_
           cases h40 : (!(dec (Lies s.qf r.qA ((r.qB[k]!).qA))))
           ·skip
            replace h40 := qX h40
            replace h40 := jA h40
            refine rgp 26 (pp bs os) 139 H ?_
            refine rgp 27 (pp b31 (o32 + (k : Int).toNat * 2)) 139 H ?_
            refine rgp 28 (pp b31 (o32 + (k : Int).toNat * 2)) 139 H ?_
            refine rg 29 (pp b31 (o32 + (k : Int).toNat * 2 + 1)) 139 (xE b31 (o32 + (k : Int).toNat * 2) 1 Tryz.underlying115 rfl rfl Tryz.sizeOf22 rfl) H ?_
            refine rg 30 (.slice Vx (((r.qB[k]!).zW).length) Vw) 139 (xm Tryz.isAgg22 rfl (fun _ h => h.xR 1 rfl 1 rfl)) H ?_
            refine xB [31] (by kernel_rfl) (by simp) (r_opG rfl (e := 139) rfl rfl ?_ xC)
            refine xf #[pp bs os, .slice Vx (((r.qB[k]!).zW).length) Vw] rfl rfl Tryz.call136 (QY w38 s ((r.qB[k]!).zW) bs os qp qo qO qF qC xq Vx Vw Fe33Bag (qG (H.get 2 rfl) 0 3) (H.get 3 rfl).1 (H.get 4 rfl).1 (H.get 0 rfl).1) ?_
            rintro _ w41 rfl x42
            replace H := H.ext x42
            refine ⟨H, ?_⟩
            refine rgp 32 (.bool (!(dec (zK s.qI ((r.qB[k]!).zW))))) 139 H ?_
            refine rtp 33 (.bool (!(dec (zK s.qI ((r.qB[k]!).zW))))) H ?_
            refine rtp 34 (.bool (!(dec (zK s.qI ((r.qB[k]!).zW))))) H ?_
            cases h43 : (!(dec (zK s.qI ((r.qB[k]!).zW))))
            ·skip
             replace h43 := qX h43
             replace h43 := jA h43
             refine rgp 35 (pp b31 (o32 + (k : Int).toNat * 2)) 148 H ?_
             refine rgp 36 (pp b31 (o32 + (k : Int).toNat * 2)) 148 H ?_
             refine rg 37 (pp b31 (o32 + (k : Int).toNat * 2 + 1)) 148 (xE b31 (o32 + (k : Int).toNat * 2) 1 Tryz.underlying115 rfl rfl Tryz.sizeOf22 rfl) H ?_
             refine rg 38 (.slice Vx (((r.qB[k]!).zW).length) Vw) 148 (xm Tryz.isAgg22 rfl (fun _ h => h.xR 1 rfl 1 rfl)) H ?_
             refine xB [39] (by kernel_rfl) (by simp) (r_opG rfl (e := 148) rfl rfl ?_ xC)
             refine xf #[.slice Vx (((r.qB[k]!).zW).length) Vw] rfl rfl Tryz.call137 (l01Size_ok w41 ((r.qB[k]!).zW) Vx Vw Fe33Bag (H.get 0 rfl).1 (by first | assumption | exact jd (by assumption) | exact Xh (by assumption))) ?_
             rintro _ w44 rfl x45
             replace H := H.ext x45
             refine ⟨H, ?_⟩
             refine rgp 40 (.bool ((sumL ((r.qB[k]!).zW) : Int) == 0)) 148 H ?_
             refine rtp 41 (.bool ((sumL ((r.qB[k]!).zW) : Int) == 0)) H ?_
             refine xO (by kernel_rfl) (t_n ?_)
             refine qV ((sumL ((r.qB[k]!).zW) : Int) == 0) rfl (fun h46 => ?_) (fun h46 => ?_)
             ·skip
              replace h46 := eq_of_beq h46
              refine qm (qy ?_)
              refine sp (.bool false) ?_
              refine qw (t_n (xx (t_r (b_r (t_r (t_r (b_r (t_r ?_))))))))
              refine ret1 (.bool false) rfl rfl ⟨_, rfl, ?_, H.base⟩
              rw [xA (fun h => by obtain ⟨h1, h2, h3, h4, h5, h6, h7, h8, h9, h10, h11⟩ := h; first | contradiction | omega | exact h3 ⟨‹_›, ‹_›⟩ | (obtain ⟨q1, q2, q3, q4, q5⟩ := h11 k (by omega); first | contradiction | omega | (have := q5 (by omega); omega)))]
             replace h46 := ne_of_beq_false h46
             refine xh (t_n (qm ?_))
             refine jk rfl H fun H => ?_
             refine rtp 0 (.int .i64 k) H ?_
             refine rtp 1 (.bool (decide ((k : Int) > 0))) H ?_
             refine rtp 2 (.bool (decide ((k : Int) > 0))) H ?_
             cases h48 : (decide ((k : Int) > 0))
             ·skip
              replace h48 := of_decide_eq_false h48
              refine zC [3, 4, 5, 6, 7, 8, 9, 10, 11, 12, 13, 14, 15, 16] 14 (H) ?_
              refine rtp 17 (.bool false) H ?_
              refine xO (by kernel_rfl) (t_n ?_)
              refine qV false rfl (fun h => absurd h (by decide)) (fun _ => ?_)
              refine xh (b_n (t_n (qy ?_)))
              refine sp (.int .i64 k) ?_
              refine sw (zJ k 1 rfl rfl (by omega) ?_)
              refine sp (.int .i64 (k + 1)) ?_
              refine qw ?_
              refine xF (m' := r.qB.length - (k + 1)) (by omega) ⟨_, k + 1, (by exact qj (qj (qj (rfl) rfl) rfl) rfl), ?_, ?_, rfl, H.sel _ (.refl _) _ (by simp)⟩
              · omega
              · exact i1.succ ⟨‹_›, ‹_›, ‹_›, ‹_›, fun hk => by omega⟩
             replace h48 := of_decide_eq_true h48
             refine rgp 3 (pp br or) 158 H ?_
             refine rgp 4 (pp br or) 158 H ?_
             refine rg 5 (pp br (or + 7)) 158 (xE br (or) 7 Tryz.underlying110 rfl rfl Tryz.sizeOf108 rfl) H ?_
             refine rg 6 (.slice (aa b31 o32) r.qB.length zI) 158 (xm Tryz.isAgg108 rfl (fun _ h => h.xR 5 rfl 7 rfl)) H ?_
             refine rgp 7 (.int .i64 k) 158 H ?_
             refine rg 8 (.int .i64 (k - 1)) 158 (y_sub k 1 rfl rfl (by omega)) H ?_
             obtain ⟨ae49Bag, ce49Bag, Fe49Bag, H⟩ := H.jl 11 rfl (k - 1) (k - 1) (by omega) (by omega) (by omega)
             refine rg 9 (pp b31 (o32 + (k - 1 : Int).toNat * 2)) 158 (xN b31 (o32) r.qB.length zI (k - 1) Tryz.underlying108 ti115 rfl rfl (by omega) (by omega)) (H.sel _ (.refl _) _ (fun _ h => List.mem_cons_of_mem _ (List.mem_cons_of_mem _ (h)))) ?_
             refine rg 10 (pp b31 (o32 + (k - 1 : Int).toNat * 2 + 0)) 158 (xE b31 (o32 + (k - 1 : Int).toNat * 2) 0 Tryz.underlying115 rfl rfl Tryz.sizeOf2 rfl) (H.sel _ (.refl _) _ (fun _ h => List.mem_cons_of_mem _ (List.mem_cons_of_mem _ (h)))) ?_
             refine rgp 12 (pp b31 (o32 + (k : Int).toNat * 2)) 158 (H.sel _ (.refl _) _ (fun _ h => List.mem_cons_of_mem _ (List.mem_cons_of_mem _ (h)))) ?_
             refine rgp 13 (pp b31 (o32 + (k : Int).toNat * 2)) 158 (H.sel _ (.refl _) _ (fun _ h => List.mem_cons_of_mem _ (List.mem_cons_of_mem _ (h)))) ?_
             refine rg 14 (pp b31 (o32 + (k : Int).toNat * 2 + 0)) 158 (xE b31 (o32 + (k : Int).toNat * 2) 0 Tryz.underlying115 rfl rfl Tryz.sizeOf2 rfl) (H.sel _ (.refl _) _ (fun _ h => List.mem_cons_of_mem _ (List.mem_cons_of_mem _ (h)))) ?_
             refine rg 15 (.int .i64 ((r.qB[k]!).qA)) 158 (xm Tryz.isAgg2 rfl (fun _ h => h.xR 1 rfl 0 rfl)) (H.sel _ (.refl _) _ (fun _ h => List.mem_cons_of_mem _ (List.mem_cons_of_mem _ (h)))) ?_
             refine xB [11] (by kernel_rfl) (by simp) (r_opG rfl (e := 158) rfl rfl ?_ xC)
             refine qE (.int .i64 ((r.qB[k - 1]!).qA)) Tryz.isAgg2 rfl (H.xR 1 rfl 0 rfl) ?_
             refine ⟨H.sel _ (.refl _) _ (fun _ h => List.mem_cons_of_mem _ (List.mem_cons_of_mem _ (h))), ?_⟩
             refine rgp 16 (.bool (decide (((r.qB[k - 1]!).qA : Int) ≥ ((r.qB[k]!).qA)))) 158 (H.sel _ (.refl _) _ (fun _ h => List.mem_cons_of_mem _ (List.mem_cons_of_mem _ (h)))) ?_
             refine rtp 17 (.bool (decide (((r.qB[k - 1]!).qA : Int) ≥ ((r.qB[k]!).qA)))) (H.sel _ (.refl _) _ (fun _ h => List.mem_cons_of_mem _ (List.mem_cons_of_mem _ (h)))) ?_
             refine xO (by kernel_rfl) (t_n ?_)
             refine qV (decide (((r.qB[k - 1]!).qA : Int) ≥ ((r.qB[k]!).qA))) rfl (fun h50 => ?_) (fun h50 => ?_)
             ·skip
              replace h50 := of_decide_eq_true h50
              refine qm (qy ?_)
              refine sp (.bool false) ?_
              refine qw (t_n (xx (b_r (t_r (t_r (b_r (t_r ?_)))))))
              refine ret1 (.bool false) rfl rfl ⟨_, rfl, ?_, H.base⟩
              rw [xA (fun h => by obtain ⟨h1, h2, h3, h4, h5, h6, h7, h8, h9, h10, h11⟩ := h; first | contradiction | omega | exact h3 ⟨‹_›, ‹_›⟩ | (obtain ⟨q1, q2, q3, q4, q5⟩ := h11 k (by omega); first | contradiction | omega | (have := q5 (by omega); omega)))]
             replace h50 := of_decide_eq_false h50
             refine xh (b_n (t_n (qy ?_)))
             refine sp (.int .i64 k) ?_
             refine sw (zJ k 1 rfl rfl (by omega) ?_)
             refine sp (.int .i64 (k + 1)) ?_
             refine qw ?_
             refine xF (m' := r.qB.length - (k + 1)) (by omega) ⟨_, k + 1, (by exact qj (qj (qj (rfl) rfl) rfl) rfl), ?_, ?_, rfl, H.sel _ (.refl _) _ (by simp)⟩
             · omega
             · exact i1.succ ⟨‹_›, ‹_›, ‹_›, ‹_›, fun hk => by omega⟩
            replace h43 := xe h43
            replace h43 := zg h43
            refine zC [35, 36, 37, 38, 39, 40] 6 (H) ?_
            refine rtp 41 (.bool true) H ?_
            refine xO (by kernel_rfl) (t_n ?_)
            refine qV true rfl (fun _ => ?_) (fun h => absurd h (by decide))
            refine qm (qy ?_)
            refine sp (.bool false) ?_
            refine qw (t_n (xx (t_r (b_r (t_r (t_r (b_r (t_r ?_))))))))
            refine ret1 (.bool false) rfl rfl ⟨_, rfl, ?_, H.base⟩
            rw [xA (fun h => by obtain ⟨h1, h2, h3, h4, h5, h6, h7, h8, h9, h10, h11⟩ := h; first | contradiction | omega | exact h3 ⟨‹_›, ‹_›⟩ | (obtain ⟨q1, q2, q3, q4, q5⟩ := h11 k (by omega); first | contradiction | omega | (have := q5 (by omega); omega)))]
           replace h40 := xe h40
           replace h40 := zg h40
           refine zC [26, 27, 28, 29, 30, 31, 32] 7 (H) ?_
           refine rtp 33 (.bool true) H ?_
           refine rtp 34 (.bool true) H ?_
           refine zC [35, 36, 37, 38, 39, 40] 6 (H) ?_
           refine rtp 41 (.bool true) H ?_
           refine xO (by kernel_rfl) (t_n ?_)
           refine qV true rfl (fun _ => ?_) (fun h => absurd h (by decide))
           refine qm (qy ?_)
           refine sp (.bool false) ?_
           refine qw (t_n (xx (t_r (b_r (t_r (t_r (b_r (t_r ?_))))))))
           refine ret1 (.bool false) rfl rfl ⟨_, rfl, ?_, H.base⟩
           rw [xA (fun h => by obtain ⟨h1, h2, h3, h4, h5, h6, h7, h8, h9, h10, h11⟩ := h; first | contradiction | omega | exact h3 ⟨‹_›, ‹_›⟩ | (obtain ⟨q1, q2, q3, q4, q5⟩ := h11 k (by omega); first | contradiction | omega | (have := q5 (by omega); omega)))]
          replace h37 := xe h37
          replace h37 := Vd h37
          refine zC [13, 14, 15, 16, 17, 18, 19, 20, 21, 22, 23] 11 (H) ?_
          refine rtp 24 (.bool true) H ?_
          refine rtp 25 (.bool true) H ?_
          refine zC [26, 27, 28, 29, 30, 31, 32] 7 (H) ?_
          refine rtp 33 (.bool true) H ?_
          refine rtp 34 (.bool true) H ?_
          refine zC [35, 36, 37, 38, 39, 40] 6 (H) ?_
          refine rtp 41 (.bool true) H ?_
          refine xO (by kernel_rfl) (t_n ?_)
          refine qV true rfl (fun _ => ?_) (fun h => absurd h (by decide))
          refine qm (qy ?_)
          refine sp (.bool false) ?_
          refine qw (t_n (xx (t_r (b_r (t_r (t_r (b_r (t_r ?_))))))))
          refine ret1 (.bool false) rfl rfl ⟨_, rfl, ?_, H.base⟩
          rw [xA (fun h => by obtain ⟨h1, h2, h3, h4, h5, h6, h7, h8, h9, h10, h11⟩ := h; first | contradiction | omega | exact h3 ⟨‹_›, ‹_›⟩ | (obtain ⟨q1, q2, q3, q4, q5⟩ := h11 k (by omega); first | contradiction | omega | (have := q5 (by omega); omega)))]
         replace h30 := of_decide_eq_false h30
         refine zy (t_x (t_x (b_x (t_n (qm (qy ?_))))))
         refine sp (.bool true) ?_
         refine qw (t_n (xx ?_))
         refine ret1 (.bool true) rfl rfl ⟨_, rfl, ?_, H.base⟩
         obtain rfl : k = r.qB.length := by omega
         rw [yU ⟨by assumption, by omega, by simp_all, by omega, by assumption, by assumption, by assumption, by assumption, by assumption, by assumption, i1⟩]
        replace h24 := xe h24
        replace h24 := zg h24
        refine xY [92, 93, 94, 95, 96, 97] ?_
        refine sp (.bool true) ?_
        refine qw (t_n ?_)
        refine qV true rfl (fun _ => ?_) (fun h => absurd h (by decide))
        refine qm (qy ?_)
        refine sp (.bool false) ?_
        refine qw (t_n (xx (t_r ?_)))
        refine ret1 (.bool false) rfl rfl ⟨_, rfl, ?_, H.base⟩
        rw [xA (fun h => by obtain ⟨h1, h2, h3, h4, h5, h6, h7, h8, h9, h10, h11⟩ := h; first | contradiction | omega | exact h3 ⟨‹_›, ‹_›⟩ | (obtain ⟨q1, q2, q3, q4, q5⟩ := h11 k (by omega); first | contradiction | omega | (have := q5 (by omega); omega)))]
       replace h21 := xe h21
       replace h21 := zg h21
       refine xY [83, 84, 85, 86, 87, 88, 89] ?_
       refine sps [.bool true, .bool true] ?_
       refine xY [92, 93, 94, 95, 96, 97] ?_
       refine sp (.bool true) ?_
       refine qw (t_n ?_)
       refine qV true rfl (fun _ => ?_) (fun h => absurd h (by decide))
       refine qm (qy ?_)
       refine sp (.bool false) ?_
       refine qw (t_n (xx (t_r ?_)))
       refine ret1 (.bool false) rfl rfl ⟨_, rfl, ?_, H.base⟩
       rw [xA (fun h => by obtain ⟨h1, h2, h3, h4, h5, h6, h7, h8, h9, h10, h11⟩ := h; first | contradiction | omega | exact h3 ⟨‹_›, ‹_›⟩ | (obtain ⟨q1, q2, q3, q4, q5⟩ := h11 k (by omega); first | contradiction | omega | (have := q5 (by omega); omega)))]
      replace h18 := xe h18
      replace h18 := zg h18
      refine xY [74, 75, 76, 77, 78, 79, 80] ?_
      refine sps [.bool true, .bool true] ?_
      refine xY [83, 84, 85, 86, 87, 88, 89] ?_
      refine sps [.bool true, .bool true] ?_
      refine xY [92, 93, 94, 95, 96, 97] ?_
      refine sp (.bool true) ?_
      refine qw (t_n ?_)
      refine qV true rfl (fun _ => ?_) (fun h => absurd h (by decide))
      refine qm (qy ?_)
      refine sp (.bool false) ?_
      refine qw (t_n (xx (t_r ?_)))
      refine ret1 (.bool false) rfl rfl ⟨_, rfl, ?_, H.base⟩
      rw [xA (fun h => by obtain ⟨h1, h2, h3, h4, h5, h6, h7, h8, h9, h10, h11⟩ := h; first | contradiction | omega | exact h3 ⟨‹_›, ‹_›⟩ | (obtain ⟨q1, q2, q3, q4, q5⟩ := h11 k (by omega); first | contradiction | omega | (have := q5 (by omega); omega)))]
     replace h15 := xe h15
     replace h15 := zg h15
     refine xY [65, 66, 67, 68, 69, 70, 71] ?_
     refine sps [.bool true, .bool true] ?_
     refine xY [74, 75, 76, 77, 78, 79, 80] ?_
     refine sps [.bool true, .bool true] ?_
     refine xY [83, 84, 85, 86, 87, 88, 89] ?_
     refine sps [.bool true, .bool true] ?_
     refine xY [92, 93, 94, 95, 96, 97] ?_
     refine sp (.bool true) ?_
     refine qw (t_n ?_)
     refine qV true rfl (fun _ => ?_) (fun h => absurd h (by decide))
     refine qm (qy ?_)
     refine sp (.bool false) ?_
     refine qw (t_n (xx (t_r ?_)))
     refine ret1 (.bool false) rfl rfl ⟨_, rfl, ?_, H.base⟩
     rw [xA (fun h => by obtain ⟨h1, h2, h3, h4, h5, h6, h7, h8, h9, h10, h11⟩ := h; first | contradiction | omega | exact h3 ⟨‹_›, ‹_›⟩ | (obtain ⟨q1, q2, q3, q4, q5⟩ := h11 k (by omega); first | contradiction | omega | (have := q5 (by omega); omega)))]
    replace h12 := xe h12
    replace h12 := zg h12
    refine xY [56, 57, 58, 59, 60, 61, 62] ?_
    refine sps [.bool true, .bool true] ?_
    refine xY [65, 66, 67, 68, 69, 70, 71] ?_
    refine sps [.bool true, .bool true] ?_
    refine xY [74, 75, 76, 77, 78, 79, 80] ?_
    refine sps [.bool true, .bool true] ?_
    refine xY [83, 84, 85, 86, 87, 88, 89] ?_
    refine sps [.bool true, .bool true] ?_
    refine xY [92, 93, 94, 95, 96, 97] ?_
    refine sp (.bool true) ?_
    refine qw (t_n ?_)
    refine qV true rfl (fun _ => ?_) (fun h => absurd h (by decide))
    refine qm (qy ?_)
    refine sp (.bool false) ?_
    refine qw (t_n (xx (t_r ?_)))
    refine ret1 (.bool false) rfl rfl ⟨_, rfl, ?_, H.base⟩
    rw [xA (fun h => by obtain ⟨h1, h2, h3, h4, h5, h6, h7, h8, h9, h10, h11⟩ := h; first | contradiction | omega | exact h3 ⟨‹_›, ‹_›⟩ | (obtain ⟨q1, q2, q3, q4, q5⟩ := h11 k (by omega); first | contradiction | omega | (have := q5 (by omega); omega)))]
   rw [h8] at H
   refine rgp 26 (pp br or) 32 H ?_
   refine rgp 27 (pp br or) 32 H ?_
   refine rg 28 (pp br (or + 0)) 32 (xE br (or) 0 Tryz.underlying110 rfl rfl Tryz.sizeOf2 rfl) H ?_
   refine rg 29 (.int .i64 r.qA) 32 (xm Tryz.isAgg2 rfl (fun _ h => h.xR 3 rfl 0 rfl)) H ?_
   refine rgp 30 (.bool ((r.qA : Int) == 0)) 32 H ?_
   refine rgp 31 (.bool ((r.qA : Int) == 0)) 27 H ?_
   refine rtp 32 (.bool ((r.qA : Int) == 0)) H ?_
   refine rtp 33 (.bool ((r.qA : Int) == 0)) H ?_
   cases h51 : ((r.qA : Int) == 0)
   ·skip
    replace h51 := ne_of_beq_false h51
    refine rgp 34 (pp br or) 40 H ?_
    refine rgp 35 (pp br or) 40 H ?_
    refine rg 36 (pp br (or + 7)) 40 (xE br (or) 7 Tryz.underlying110 rfl rfl Tryz.sizeOf108 rfl) H ?_
    refine rg 37 (.slice zN r.qB.length zI) 40 (xm Tryz.isAgg108 rfl (fun _ h => h.xR 3 rfl 7 rfl)) H ?_
    refine rg 38 (.int .i64 r.qB.length) 40 (y_len Tryz.underlying108 zN r.qB.length zI rfl) H ?_
    refine rgp 39 (.bool (decide ((r.qB.length : Int) > 3))) 40 H ?_
    refine rtp 40 (.bool (decide ((r.qB.length : Int) > 3))) H ?_
    refine xO (by kernel_rfl) (t_n ?_)
    refine qV (decide ((r.qB.length : Int) > 3)) rfl (fun h52 => ?_) (fun h52 => ?_)
    ·skip
     replace h52 := of_decide_eq_true h52
     refine qm (qy ?_)
     refine sp (.bool false) ?_
     refine qw (t_n (xx (t_r ?_)))
     refine ret1 (.bool false) rfl rfl ⟨_, rfl, ?_, H.base⟩
     rw [xA (fun h => by obtain ⟨h1, h2, h3, h4, h5, h6, h7, h8, h9, h10, h11⟩ := h; first | contradiction | omega | exact h3 ⟨‹_›, ‹_›⟩ | (obtain ⟨q1, q2, q3, q4, q5⟩ := h11 k (by omega); first | contradiction | omega | (have := q5 (by omega); omega)))]
    replace h52 := of_decide_eq_false h52
    refine xh (t_n (qm (qm (qy ?_))))
    refine sps [pp bs os, pp br or, pp br or] ?_
    refine sw (qM br (or) 2 Tryz.underlying110 rfl rfl Tryz.sizeOf22 rfl ?_)
    refine sw (qE (.slice ve r.qW.length zZ) Tryz.isAgg22 rfl (H.xR 3 rfl 2 rfl) ?_)
    refine sw (xf #[pp bs os, .slice ve r.qW.length zZ] rfl rfl Tryz.call136 (QY w5 s r.qW bs os qp qo qO qF qC xq ve zZ QZ (qG (H.get 0 rfl) 0 3) (H.get 1 rfl).1 (H.get 2 rfl).1 (H.get 4 rfl).1) ?_)
    rintro _ w53 rfl x54
    replace H := H.ext x54
    refine sps [.bool (!(dec (zK s.qI r.qW))), .bool (!(dec (zK s.qI r.qW)))] ?_
    cases h55 : (!(dec (zK s.qI r.qW)))
    ·skip
     replace h55 := qX h55
     replace h55 := jA h55
     refine qR 55 rfl rfl ?_
     refine sp (pp bs os) ?_
     refine qR 55 rfl rfl ?_
     refine sp (pp br or) ?_
     refine qR 55 rfl rfl ?_
     refine sp (pp br or) ?_
     refine qR 55 rfl rfl ?_
     refine sw (qM br (or) 3 Tryz.underlying110 rfl rfl Tryz.sizeOf22 rfl ?_)
     refine qR 55 rfl rfl ?_
     refine sw (qE (.slice vV r.xg.length vU) Tryz.isAgg22 rfl (H.xR 3 rfl 3 rfl) ?_)
     refine qR 55 rfl rfl ?_
     refine sw (xf #[pp bs os, .slice vV r.xg.length vU] rfl rfl Tryz.call136 (QY w53 s r.xg bs os qp qo qO qF qC xq vV vU Xu (qG (H.get 0 rfl) 0 3) (H.get 1 rfl).1 (H.get 2 rfl).1 (H.get 5 rfl).1) ?_)
     rintro _ w56 rfl x57
     replace H := H.ext x57
     refine qR 55 rfl rfl ?_
     refine sps [.bool (!(dec (zK s.qI r.xg))), .bool (!(dec (zK s.qI r.xg))), .bool (!(dec (zK s.qI r.xg)))] ?_
     cases h58 : (!(dec (zK s.qI r.xg)))
     ·skip
      replace h58 := qX h58
      replace h58 := jA h58
      refine qR 64 rfl rfl ?_
      refine sp (pp bs os) ?_
      refine qR 64 rfl rfl ?_
      refine sp (pp br or) ?_
      refine qR 64 rfl rfl ?_
      refine sp (pp br or) ?_
      refine qR 64 rfl rfl ?_
      refine sw (qM br (or) 4 Tryz.underlying110 rfl rfl Tryz.sizeOf22 rfl ?_)
      refine qR 64 rfl rfl ?_
      refine sw (qE (.slice vJ r.xk.length vI) Tryz.isAgg22 rfl (H.xR 3 rfl 4 rfl) ?_)
      refine qR 64 rfl rfl ?_
      refine sw (xf #[pp bs os, .slice vJ r.xk.length vI] rfl rfl Tryz.call136 (QY w56 s r.xk bs os qp qo qO qF qC xq vJ vI Xj (qG (H.get 0 rfl) 0 3) (H.get 1 rfl).1 (H.get 2 rfl).1 (H.get 6 rfl).1) ?_)
      rintro _ w59 rfl x60
      replace H := H.ext x60
      refine qR 64 rfl rfl ?_
      refine sps [.bool (!(dec (zK s.qI r.xk))), .bool (!(dec (zK s.qI r.xk))), .bool (!(dec (zK s.qI r.xk)))] ?_
      cases h61 : (!(dec (zK s.qI r.xk)))
      ·skip
       replace h61 := qX h61
       replace h61 := jA h61
       refine qR 73 rfl rfl ?_
       refine sp (pp bs os) ?_
       refine qR 73 rfl rfl ?_
       refine sp (pp br or) ?_
       refine qR 73 rfl rfl ?_
       refine sp (pp br or) ?_
       refine qR 73 rfl rfl ?_
       refine sw (qM br (or) 5 Tryz.underlying110 rfl rfl Tryz.sizeOf22 rfl ?_)
       refine qR 73 rfl rfl ?_
       refine sw (qE (.slice jf r.xw.length je) Tryz.isAgg22 rfl (H.xR 3 rfl 5 rfl) ?_)
       refine qR 73 rfl rfl ?_
       refine sw (xf #[pp bs os, .slice jf r.xw.length je] rfl rfl Tryz.call136 (QY w59 s r.xw bs os qp qo qO qF qC xq jf je XL (qG (H.get 0 rfl) 0 3) (H.get 1 rfl).1 (H.get 2 rfl).1 (H.get 7 rfl).1) ?_)
       rintro _ w62 rfl x63
       replace H := H.ext x63
       refine qR 73 rfl rfl ?_
       refine sps [.bool (!(dec (zK s.qI r.xw))), .bool (!(dec (zK s.qI r.xw))), .bool (!(dec (zK s.qI r.xw)))] ?_
       cases h64 : (!(dec (zK s.qI r.xw)))
       ·skip
        replace h64 := qX h64
        replace h64 := jA h64
        refine qR 82 rfl rfl ?_
        refine sp (pp bs os) ?_
        refine qR 82 rfl rfl ?_
        refine sp (pp br or) ?_
        refine qR 82 rfl rfl ?_
        refine sp (pp br or) ?_
        refine qR 82 rfl rfl ?_
        refine sw (qM br (or) 6 Tryz.underlying110 rfl rfl Tryz.sizeOf22 rfl ?_)
        refine qR 82 rfl rfl ?_
        refine sw (qE (.slice Qp r.zf.length Qo) Tryz.isAgg22 rfl (H.xR 3 rfl 6 rfl) ?_)
        refine qR 82 rfl rfl ?_
        refine sw (xf #[pp bs os, .slice Qp r.zf.length Qo] rfl rfl Tryz.call136 (QY w62 s r.zf bs os qp qo qO qF qC xq Qp Qo FrOut (qG (H.get 0 rfl) 0 3) (H.get 1 rfl).1 (H.get 2 rfl).1 (H.get 8 rfl).1) ?_)
        rintro _ w65 rfl x66
        replace H := H.ext x66
        refine qR 82 rfl rfl ?_
        refine sps [.bool (!(dec (zK s.qI r.zf))), .bool (!(dec (zK s.qI r.zf))), .bool (!(dec (zK s.qI r.zf)))] ?_
        cases h67 : (!(dec (zK s.qI r.zf)))
        ·skip
         replace h67 := qX h67
         replace h67 := jA h67
         refine qR 91 rfl rfl ?_
         refine sp (pp br or) ?_
         refine qR 91 rfl rfl ?_
         refine sp (pp br or) ?_
         refine qR 91 rfl rfl ?_
         refine sw (qM br (or) 2 Tryz.underlying110 rfl rfl Tryz.sizeOf22 rfl ?_)
         refine qR 91 rfl rfl ?_
         refine sw (qE (.slice ve r.qW.length zZ) Tryz.isAgg22 rfl (H.xR 3 rfl 2 rfl) ?_)
         refine qR 91 rfl rfl ?_
         refine sw (xf #[.slice ve r.qW.length zZ] rfl rfl Tryz.call137 (l01Size_ok w65 r.qW ve zZ QZ (H.get 4 rfl).1 (by first | assumption | exact jd (by assumption) | exact Xh (by assumption))) ?_)
         rintro _ w68 rfl x69
         replace H := H.ext x69
         refine qR 91 rfl rfl ?_
         refine sps [.bool ((sumL r.qW : Int) == 0), .bool ((sumL r.qW : Int) == 0)] ?_
         refine qw (t_n ?_)
         refine qV ((sumL r.qW : Int) == 0) rfl (fun h70 => ?_) (fun h70 => ?_)
         ·skip
          replace h70 := eq_of_beq h70
          refine qm (qy ?_)
          refine sp (.bool false) ?_
          refine qw (t_n (xx (t_r ?_)))
          refine ret1 (.bool false) rfl rfl ⟨_, rfl, ?_, H.base⟩
          rw [xA (fun h => by obtain ⟨h1, h2, h3, h4, h5, h6, h7, h8, h9, h10, h11⟩ := h; first | contradiction | omega | exact h3 ⟨‹_›, ‹_›⟩ | (obtain ⟨q1, q2, q3, q4, q5⟩ := h11 k (by omega); first | contradiction | omega | (have := q5 (by omega); omega)))]
         replace h70 := ne_of_beq_false h70
         refine xh (t_n (qm (qm (qy ?_))))
         refine sp (.int .i64 0) ?_
         refine qw (t_n (xu ?_))
         refine zG (fun m' ρ w71 => ∃ (junk : Env) (k : Nat), ρ = upd (upd (upd junk 0 (pp bs os)) 1 (pp br or)) 5 (.int .i64 k) ∧ (k ≤ r.qB.length) ∧ (IntosTo s r k) ∧ m' = r.qB.length - k ∧ St w w71 [] [atF bs os [.int .i64 s.qI, .slice qp s.qf.length qo, .slice qF s.qg.length qC], isF false qO (.slice qp s.qf.length qo) s.qf, isF false xq (.slice qF s.qg.length qC) s.qg, atF br or [.int .i64 r.qA, .int .i64 r.xZ, .slice ve r.qW.length zZ, .slice vV r.xg.length vU, .slice vJ r.xk.length vI, .slice jf r.xw.length je, .slice Qp r.zf.length Qo, .slice zN r.qB.length zI, .bool true], isF false QZ (.slice ve r.qW.length zZ) r.qW, isF false Xu (.slice vV r.xg.length vU) r.xg, isF false Xj (.slice vJ r.xk.length vI) r.xk, isF false XL (.slice jf r.xw.length je) r.xw, isF false FrOut (.slice Qp r.zf.length Qo) r.zf, isF false FrInto (.slice zN r.qB.length zI) r.qB]) (r.qB.length - 0) ⟨_, 0, (by exact qj (qj (qj (rfl) rfl) rfl) rfl), (by omega), (by exact fun j hj => by omega), rfl, H⟩ ?_
         clear H
         rintro m' ρ w72 ⟨junk, k, rfl, i0, i1, rfl, H⟩
         refine qm (qm (qy ?_))
         refine sps [.int .i64 k, pp br or, pp br or] ?_
         refine sw (qM br (or) 7 Tryz.underlying110 rfl rfl Tryz.sizeOf108 rfl ?_)
         refine sw (qE (.slice zN r.qB.length zI) Tryz.isAgg108 rfl (H.xR 3 rfl 7 rfl) ?_)
         refine sw (zD Tryz.underlying108 zN r.qB.length zI rfl ?_)
         refine sp (.bool (decide ((k : Int) < r.qB.length))) ?_
         refine qw (t_n ?_)
         refine qV (decide ((k : Int) < r.qB.length)) rfl (fun h73 => ?_) (fun h73 => ?_)
         ·skip
          replace h73 := of_decide_eq_true h73
          refine xh (t_n (qm (xu (qm (qy ?_)))))
          refine sps [pp br or, pp br or] ?_
          refine sw (qM br (or) 7 Tryz.underlying110 rfl rfl Tryz.sizeOf108 rfl ?_)
          refine sw (qE (.slice zN r.qB.length zI) Tryz.isAgg108 rfl (H.xR 3 rfl 7 rfl) ?_)
          refine sp (.int .i64 k) ?_
          obtain ⟨b74, o75, rfl⟩ := H.addr 9 rfl (by omega)
          obtain ⟨ae76Bag, ce76Bag, Fe76Bag, H⟩ := H.jl 9 rfl k k (by omega) (by omega) (by omega)
          refine sw (xJ k Tryz.underlying108 ti115 rfl rfl (by omega) (by omega) ?_)
          refine sp (pp b74 (o75 + (k : Int).toNat * 2)) ?_
          refine qw (t_n (qm (qm ?_)))
          refine jk rfl H fun H => ?_
          refine rtp 0 (pp b74 (o75 + (k : Int).toNat * 2)) H ?_
          refine rtp 1 (pp b74 (o75 + (k : Int).toNat * 2)) H ?_
          refine rt 2 (pp b74 (o75 + (k : Int).toNat * 2 + 0)) (xE b74 (o75 + (k : Int).toNat * 2) 0 Tryz.underlying115 rfl rfl Tryz.sizeOf2 rfl) H ?_
          refine rt 3 (.int .i64 ((r.qB[k]!).qA)) (xm Tryz.isAgg2 rfl (fun _ h => h.xR 1 rfl 0 rfl)) H ?_
          refine rtp 4 (pp bs os) H ?_
          refine rtp 5 (pp bs os) H ?_
          refine rt 6 (pp bs (os + 1)) (xE bs (os) 1 Tryz.underlying36 rfl rfl Tryz.sizeOf22 rfl) H ?_
          refine rt 7 (.slice qp s.qf.length qo) (xm Tryz.isAgg22 rfl (fun _ h => h.xR 2 rfl 1 rfl)) H ?_
          refine rt 8 (.int .i64 s.qf.length) (y_len Tryz.underlying22 qp s.qf.length qo rfl) H ?_
          refine rt 9 (.int .i64 (s.qf.length - 1)) (y_sub s.qf.length 1 rfl rfl (by omega)) H ?_
          refine xB [10] (by kernel_rfl) (by simp) (zh rfl ?_ xC)
          refine xf #[.int .i64 ((r.qB[k]!).qA), .int .i64 0, .int .i64 (s.qf.length - 1)] rfl rfl Tryz.call44 (l00In_ok w72.drew ((r.qB[k]!).qA) 0 (s.qf.length - 1)) ?_
          rintro _ w78 rfl x79
          replace H := H.ext x79
          refine ⟨H, ?_⟩
          refine rtp 11 (.bool (!(inR ((r.qB[k]!).qA) 0 (s.qf.length - 1)))) H ?_
          refine rtp 12 (.bool (!(inR ((r.qB[k]!).qA) 0 (s.qf.length - 1)))) H ?_
          cases h80 : (!(inR ((r.qB[k]!).qA) 0 (s.qf.length - 1)))
          ·skip
           replace h80 := qX h80
           replace h80 := Xp.1 h80
           refine rgp 13 (pp bs os) 126 H ?_
           refine rgp 14 (pp b74 (o75 + (k : Int).toNat * 2)) 126 H ?_
           refine rgp 15 (pp b74 (o75 + (k : Int).toNat * 2)) 126 H ?_
           refine rg 16 (pp b74 (o75 + (k : Int).toNat * 2 + 0)) 126 (xE b74 (o75 + (k : Int).toNat * 2) 0 Tryz.underlying115 rfl rfl Tryz.sizeOf2 rfl) H ?_
           refine rg 17 (.int .i64 ((r.qB[k]!).qA)) 126 (xm Tryz.isAgg2 rfl (fun _ h => h.xR 1 rfl 0 rfl)) H ?_
           refine rgp 18 (pp br or) 126 H ?_
           refine rgp 19 (pp br or) 126 H ?_
           refine rg 20 (pp br (or + 0)) 126 (xE br (or) 0 Tryz.underlying110 rfl rfl Tryz.sizeOf2 rfl) H ?_
           refine rg 21 (.int .i64 r.qA) 126 (xm Tryz.isAgg2 rfl (fun _ h => h.xR 5 rfl 0 rfl)) H ?_
           refine xB [22] (by kernel_rfl) (by simp) (r_opG rfl (e := 126) rfl rfl ?_ xC)
           refine xf #[pp bs os, .int .i64 ((r.qB[k]!).qA), .int .i64 r.qA] rfl rfl Tryz.call138 (l02In_ok w78 s ((r.qB[k]!).qA) r.qA bs os qp qo qO qF qC xq (qG (H.get 2 rfl) 0 3) (H.get 3 rfl).1 (H.get 4 rfl).1 (by assumption) (by assumption)) ?_
           rintro _ w81 rfl x82
           replace H := H.ext x82
           refine ⟨H, ?_⟩
           refine rgp 23 (.bool (!(dec (Lies s.qf r.qA ((r.qB[k]!).qA))))) 126 H ?_
           refine rtp 24 (.bool (!(dec (Lies s.qf r.qA ((r.qB[k]!).qA))))) H ?_
           refine rtp 25 (.bool (!(dec (Lies s.qf r.qA ((r.qB[k]!).qA))))) H ?_
           cases h83 : (!(dec (Lies s.qf r.qA ((r.qB[k]!).qA))))
           ·skip
            replace h83 := qX h83
            replace h83 := jA h83
            refine rgp 26 (pp bs os) 139 H ?_
            refine rgp 27 (pp b74 (o75 + (k : Int).toNat * 2)) 139 H ?_
            refine rgp 28 (pp b74 (o75 + (k : Int).toNat * 2)) 139 H ?_
            refine rg 29 (pp b74 (o75 + (k : Int).toNat * 2 + 1)) 139 (xE b74 (o75 + (k : Int).toNat * 2) 1 Tryz.underlying115 rfl rfl Tryz.sizeOf22 rfl) H ?_
            refine rg 30 (.slice ae76Bag (((r.qB[k]!).zW).length) ce76Bag) 139 (xm Tryz.isAgg22 rfl (fun _ h => h.xR 1 rfl 1 rfl)) H ?_
            refine xB [31] (by kernel_rfl) (by simp) (r_opG rfl (e := 139) rfl rfl ?_ xC)
            refine xf #[pp bs os, .slice ae76Bag (((r.qB[k]!).zW).length) ce76Bag] rfl rfl Tryz.call136 (QY w81 s ((r.qB[k]!).zW) bs os qp qo qO qF qC xq ae76Bag ce76Bag Fe76Bag (qG (H.get 2 rfl) 0 3) (H.get 3 rfl).1 (H.get 4 rfl).1 (H.get 0 rfl).1) ?_
            rintro _ w84 rfl x85
            replace H := H.ext x85
            refine ⟨H, ?_⟩
            refine rgp 32 (.bool (!(dec (zK s.qI ((r.qB[k]!).zW))))) 139 H ?_
            refine rtp 33 (.bool (!(dec (zK s.qI ((r.qB[k]!).zW))))) H ?_
            refine rtp 34 (.bool (!(dec (zK s.qI ((r.qB[k]!).zW))))) H ?_
            cases h86 : (!(dec (zK s.qI ((r.qB[k]!).zW))))
            ·skip
             replace h86 := qX h86
             replace h86 := jA h86
             refine rgp 35 (pp b74 (o75 + (k : Int).toNat * 2)) 148 H ?_
             refine rgp 36 (pp b74 (o75 + (k : Int).toNat * 2)) 148 H ?_
             refine rg 37 (pp b74 (o75 + (k : Int).toNat * 2 + 1)) 148 (xE b74 (o75 + (k : Int).toNat * 2) 1 Tryz.underlying115 rfl rfl Tryz.sizeOf22 rfl) H ?_
             refine rg 38 (.slice ae76Bag (((r.qB[k]!).zW).length) ce76Bag) 148 (xm Tryz.isAgg22 rfl (fun _ h => h.xR 1 rfl 1 rfl)) H ?_
             refine xB [39] (by kernel_rfl) (by simp) (r_opG rfl (e := 148) rfl rfl ?_ xC)
             refine xf #[.slice ae76Bag (((r.qB[k]!).zW).length) ce76Bag] rfl rfl Tryz.call137 (l01Size_ok w84 ((r.qB[k]!).zW) ae76Bag ce76Bag Fe76Bag (H.get 0 rfl).1 (by first | assumption | exact jd (by assumption) | exact Xh (by assumption))) ?_
             rintro _ w87 rfl x88
             replace H := H.ext x88
             refine ⟨H, ?_⟩
             refine rgp 40 (.bool ((sumL ((r.qB[k]!).zW) : Int) == 0)) 148 H ?_
             refine rtp 41 (.bool ((sumL ((r.qB[k]!).zW) : Int) == 0)) H ?_
             refine xO (by kernel_rfl) (t_n ?_)
             refine qV ((sumL ((r.qB[k]!).zW) : Int) == 0) rfl (fun h89 => ?_) (fun h89 => ?_)
             ·skip
              replace h89 := eq_of_beq h89
              refine qm (qy ?_)
              refine sp (.bool false) ?_
              refine qw (t_n (xx (t_r (b_r (t_r (t_r (b_r (t_r ?_))))))))
              refine ret1 (.bool false) rfl rfl ⟨_, rfl, ?_, H.base⟩
              rw [xA (fun h => by obtain ⟨h1, h2, h3, h4, h5, h6, h7, h8, h9, h10, h11⟩ := h; first | contradiction | omega | exact h3 ⟨‹_›, ‹_›⟩ | (obtain ⟨q1, q2, q3, q4, q5⟩ := h11 k (by omega); first | contradiction | omega | (have := q5 (by omega); omega)))]
             replace h89 := ne_of_beq_false h89
             refine xh (t_n (qm ?_))
             refine jk rfl H fun H => ?_
             refine rtp 0 (.int .i64 k) H ?_
             refine rtp 1 (.bool (decide ((k : Int) > 0))) H ?_
             refine rtp 2 (.bool (decide ((k : Int) > 0))) H ?_
             cases h91 : (decide ((k : Int) > 0))
             ·skip
              replace h91 := of_decide_eq_false h91
              refine zC [3, 4, 5, 6, 7, 8, 9, 10, 11, 12, 13, 14, 15, 16] 14 (H) ?_
              refine rtp 17 (.bool false) H ?_
              refine xO (by kernel_rfl) (t_n ?_)
              refine qV false rfl (fun h => absurd h (by decide)) (fun _ => ?_)
              refine xh (b_n (t_n (qy ?_)))
              refine sp (.int .i64 k) ?_
              refine sw (zJ k 1 rfl rfl (by omega) ?_)
              refine sp (.int .i64 (k + 1)) ?_
              refine qw ?_
              refine xF (m' := r.qB.length - (k + 1)) (by omega) ⟨_, k + 1, (by exact qj (qj (qj (rfl) rfl) rfl) rfl), ?_, ?_, rfl, H.sel _ (.refl _) _ (by simp)⟩
              · omega
              · exact i1.succ ⟨‹_›, ‹_›, ‹_›, ‹_›, fun hk => by omega⟩
             replace h91 := of_decide_eq_true h91
             refine rgp 3 (pp br or) 158 H ?_
             refine rgp 4 (pp br or) 158 H ?_
             refine rg 5 (pp br (or + 7)) 158 (xE br (or) 7 Tryz.underlying110 rfl rfl Tryz.sizeOf108 rfl) H ?_
             refine rg 6 (.slice (aa b74 o75) r.qB.length zI) 158 (xm Tryz.isAgg108 rfl (fun _ h => h.xR 5 rfl 7 rfl)) H ?_
             refine rgp 7 (.int .i64 k) 158 H ?_
             refine rg 8 (.int .i64 (k - 1)) 158 (y_sub k 1 rfl rfl (by omega)) H ?_
             obtain ⟨ae92Bag, ce92Bag, Fe92Bag, H⟩ := H.jl 11 rfl (k - 1) (k - 1) (by omega) (by omega) (by omega)
             refine rg 9 (pp b74 (o75 + (k - 1 : Int).toNat * 2)) 158 (xN b74 (o75) r.qB.length zI (k - 1) Tryz.underlying108 ti115 rfl rfl (by omega) (by omega)) (H.sel _ (.refl _) _ (fun _ h => List.mem_cons_of_mem _ (List.mem_cons_of_mem _ (h)))) ?_
             refine rg 10 (pp b74 (o75 + (k - 1 : Int).toNat * 2 + 0)) 158 (xE b74 (o75 + (k - 1 : Int).toNat * 2) 0 Tryz.underlying115 rfl rfl Tryz.sizeOf2 rfl) (H.sel _ (.refl _) _ (fun _ h => List.mem_cons_of_mem _ (List.mem_cons_of_mem _ (h)))) ?_
             refine rgp 12 (pp b74 (o75 + (k : Int).toNat * 2)) 158 (H.sel _ (.refl _) _ (fun _ h => List.mem_cons_of_mem _ (List.mem_cons_of_mem _ (h)))) ?_
             refine rgp 13 (pp b74 (o75 + (k : Int).toNat * 2)) 158 (H.sel _ (.refl _) _ (fun _ h => List.mem_cons_of_mem _ (List.mem_cons_of_mem _ (h)))) ?_
             refine rg 14 (pp b74 (o75 + (k : Int).toNat * 2 + 0)) 158 (xE b74 (o75 + (k : Int).toNat * 2) 0 Tryz.underlying115 rfl rfl Tryz.sizeOf2 rfl) (H.sel _ (.refl _) _ (fun _ h => List.mem_cons_of_mem _ (List.mem_cons_of_mem _ (h)))) ?_
             refine rg 15 (.int .i64 ((r.qB[k]!).qA)) 158 (xm Tryz.isAgg2 rfl (fun _ h => h.xR 1 rfl 0 rfl)) (H.sel _ (.refl _) _ (fun _ h => List.mem_cons_of_mem _ (List.mem_cons_of_mem _ (h)))) ?_
             refine xB [11] (by kernel_rfl) (by simp) (r_opG rfl (e := 158) rfl rfl ?_ xC)
             refine qE (.int .i64 ((r.qB[k - 1]!).qA)) Tryz.isAgg2 rfl (H.xR 1 rfl 0 rfl) ?_
             refine ⟨H.sel _ (.refl _) _ (fun _ h => List.mem_cons_of_mem _ (List.mem_cons_of_mem _ (h))), ?_⟩
             refine rgp 16 (.bool (decide (((r.qB[k - 1]!).qA : Int) ≥ ((r.qB[k]!).qA)))) 158 (H.sel _ (.refl _) _ (fun _ h => List.mem_cons_of_mem _ (List.mem_cons_of_mem _ (h)))) ?_
             refine rtp 17 (.bool (decide (((r.qB[k - 1]!).qA : Int) ≥ ((r.qB[k]!).qA)))) (H.sel _ (.refl _) _ (fun _ h => List.mem_cons_of_mem _ (List.mem_cons_of_mem _ (h)))) ?_
             refine xO (by kernel_rfl) (t_n ?_)
             refine qV (decide (((r.qB[k - 1]!).qA : Int) ≥ ((r.qB[k]!).qA))) rfl (fun h93 => ?_) (fun h93 => ?_)
             ·skip
              replace h93 := of_decide_eq_true h93
              refine qm (qy ?_)
              refine sp (.bool false) ?_
              refine qw (t_n (xx (b_r (t_r (t_r (b_r (t_r ?_)))))))
              refine ret1 (.bool false) rfl rfl ⟨_, rfl, ?_, H.base⟩
              rw [xA (fun h => by obtain ⟨h1, h2, h3, h4, h5, h6, h7, h8, h9, h10, h11⟩ := h; first | contradiction | omega | exact h3 ⟨‹_›, ‹_›⟩ | (obtain ⟨q1, q2, q3, q4, q5⟩ := h11 k (by omega); first | contradiction | omega | (have := q5 (by omega); omega)))]
             replace h93 := of_decide_eq_false h93
             refine xh (b_n (t_n (qy ?_)))
             refine sp (.int .i64 k) ?_
             refine sw (zJ k 1 rfl rfl (by omega) ?_)
             refine sp (.int .i64 (k + 1)) ?_
             refine qw ?_
             refine xF (m' := r.qB.length - (k + 1)) (by omega) ⟨_, k + 1, (by exact qj (qj (qj (rfl) rfl) rfl) rfl), ?_, ?_, rfl, H.sel _ (.refl _) _ (by simp)⟩
             · omega
             · exact i1.succ ⟨‹_›, ‹_›, ‹_›, ‹_›, fun hk => by omega⟩
            replace h86 := xe h86
            replace h86 := zg h86
            refine zC [35, 36, 37, 38, 39, 40] 6 (H) ?_
            refine rtp 41 (.bool true) H ?_
            refine xO (by kernel_rfl) (t_n ?_)
            refine qV true rfl (fun _ => ?_) (fun h => absurd h (by decide))
            refine qm (qy ?_)
            refine sp (.bool false) ?_
            refine qw (t_n (xx (t_r (b_r (t_r (t_r (b_r (t_r ?_))))))))
            refine ret1 (.bool false) rfl rfl ⟨_, rfl, ?_, H.base⟩
            rw [xA (fun h => by obtain ⟨h1, h2, h3, h4, h5, h6, h7, h8, h9, h10, h11⟩ := h; first | contradiction | omega | exact h3 ⟨‹_›, ‹_›⟩ | (obtain ⟨q1, q2, q3, q4, q5⟩ := h11 k (by omega); first | contradiction | omega | (have := q5 (by omega); omega)))]
           replace h83 := xe h83
           replace h83 := zg h83
           refine zC [26, 27, 28, 29, 30, 31, 32] 7 (H) ?_
           refine rtp 33 (.bool true) H ?_
           refine rtp 34 (.bool true) H ?_
           refine zC [35, 36, 37, 38, 39, 40] 6 (H) ?_
           refine rtp 41 (.bool true) H ?_
           refine xO (by kernel_rfl) (t_n ?_)
           refine qV true rfl (fun _ => ?_) (fun h => absurd h (by decide))
           refine qm (qy ?_)
           refine sp (.bool false) ?_
           refine qw (t_n (xx (t_r (b_r (t_r (t_r (b_r (t_r ?_))))))))
           refine ret1 (.bool false) rfl rfl ⟨_, rfl, ?_, H.base⟩
           rw [xA (fun h => by obtain ⟨h1, h2, h3, h4, h5, h6, h7, h8, h9, h10, h11⟩ := h; first | contradiction | omega | exact h3 ⟨‹_›, ‹_›⟩ | (obtain ⟨q1, q2, q3, q4, q5⟩ := h11 k (by omega); first | contradiction | omega | (have := q5 (by omega); omega)))]
          replace h80 := xe h80
          replace h80 := Vd h80
          refine zC [13, 14, 15, 16, 17, 18, 19, 20, 21, 22, 23] 11 (H) ?_
          refine rtp 24 (.bool true) H ?_
          refine rtp 25 (.bool true) H ?_
          refine zC [26, 27, 28, 29, 30, 31, 32] 7 (H) ?_
          refine rtp 33 (.bool true) H ?_
          refine rtp 34 (.bool true) H ?_
          refine zC [35, 36, 37, 38, 39, 40] 6 (H) ?_
          refine rtp 41 (.bool true) H ?_
          refine xO (by kernel_rfl) (t_n ?_)
          refine qV true rfl (fun _ => ?_) (fun h => absurd h (by decide))
          refine qm (qy ?_)
          refine sp (.bool false) ?_
          refine qw (t_n (xx (t_r (b_r (t_r (t_r (b_r (t_r ?_))))))))
          refine ret1 (.bool false) rfl rfl ⟨_, rfl, ?_, H.base⟩
          rw [xA (fun h => by obtain ⟨h1, h2, h3, h4, h5, h6, h7, h8, h9, h10, h11⟩ := h; first | contradiction | omega | exact h3 ⟨‹_›, ‹_›⟩ | (obtain ⟨q1, q2, q3, q4, q5⟩ := h11 k (by omega); first | contradiction | omega | (have := q5 (by omega); omega)))]
         replace h73 := of_decide_eq_false h73
         refine zy (t_x (t_x (b_x (t_n (qm (qy ?_))))))
         refine sp (.bool true) ?_
         refine qw (t_n (xx ?_))
         refine ret1 (.bool true) rfl rfl ⟨_, rfl, ?_, H.base⟩
         obtain rfl : k = r.qB.length := by omega
         rw [yU ⟨by assumption, by omega, by simp_all, by omega, by assumption, by assumption, by assumption, by assumption, by assumption, by assumption, i1⟩]
        replace h67 := xe h67
        replace h67 := zg h67
        refine xY [92, 93, 94, 95, 96, 97] ?_
        refine sp (.bool true) ?_
        refine qw (t_n ?_)
        refine qV true rfl (fun _ => ?_) (fun h => absurd h (by decide))
        refine qm (qy ?_)
        refine sp (.bool false) ?_
        refine qw (t_n (xx (t_r ?_)))
        refine ret1 (.bool false) rfl rfl ⟨_, rfl, ?_, H.base⟩
        rw [xA (fun h => by obtain ⟨h1, h2, h3, h4, h5, h6, h7, h8, h9, h10, h11⟩ := h; first | contradiction | omega | exact h3 ⟨‹_›, ‹_›⟩ | (obtain ⟨q1, q2, q3, q4, q5⟩ := h11 k (by omega); first | contradiction | omega | (have := q5 (by omega); omega)))]
       replace h64 := xe h64
       replace h64 := zg h64
       refine xY [83, 84, 85, 86, 87, 88, 89] ?_
       refine sps [.bool true, .bool true] ?_
       refine xY [92, 93, 94, 95, 96, 97] ?_
       refine sp (.bool true) ?_
       refine qw (t_n ?_)
       refine qV true rfl (fun _ => ?_) (fun h => absurd h (by decide))
       refine qm (qy ?_)
       refine sp (.bool false) ?_
       refine qw (t_n (xx (t_r ?_)))
       refine ret1 (.bool false) rfl rfl ⟨_, rfl, ?_, H.base⟩
       rw [xA (fun h => by obtain ⟨h1, h2, h3, h4, h5, h6, h7, h8, h9, h10, h11⟩ := h; first | contradiction | omega | exact h3 ⟨‹_›, ‹_›⟩ | (obtain ⟨q1, q2, q3, q4, q5⟩ := h11 k (by omega); first | contradiction | omega | (have := q5 (by omega); omega)))]
      replace h61 := xe h61
      replace h61 := zg h61
      refine xY [74, 75, 76, 77, 78, 79, 80] ?_
      refine sps [.bool true, .bool true] ?_
      refine xY [83, 84, 85, 86, 87, 88, 89] ?_
      refine sps [.bool true, .bool true] ?_
      refine xY [92, 93, 94, 95, 96, 97] ?_
      refine sp (.bool true) ?_
      refine qw (t_n ?_)
      refine qV true rfl (fun _ => ?_) (fun h => absurd h (by decide))
      refine qm (qy ?_)
      refine sp (.bool false) ?_
      refine qw (t_n (xx (t_r ?_)))
      refine ret1 (.bool false) rfl rfl ⟨_, rfl, ?_, H.base⟩
      rw [xA (fun h => by obtain ⟨h1, h2, h3, h4, h5, h6, h7, h8, h9, h10, h11⟩ := h; first | contradiction | omega | exact h3 ⟨‹_›, ‹_›⟩ | (obtain ⟨q1, q2, q3, q4, q5⟩ := h11 k (by omega); first | contradiction | omega | (have := q5 (by omega); omega)))]
     replace h58 := xe h58
     replace h58 := zg h58
     refine xY [65, 66, 67, 68, 69, 70, 71] ?_
     refine sps [.bool true, .bool true] ?_
     refine xY [74, 75, 76, 77, 78, 79, 80] ?_
     refine sps [.bool true, .bool true] ?_
     refine xY [83, 84, 85, 86, 87, 88, 89] ?_
     refine sps [.bool true, .bool true] ?_
     refine xY [92, 93, 94, 95, 96, 97] ?_
     refine sp (.bool true) ?_
     refine qw (t_n ?_)
     refine qV true rfl (fun _ => ?_) (fun h => absurd h (by decide))
     refine qm (qy ?_)
     refine sp (.bool false) ?_
     refine qw (t_n (xx (t_r ?_)))
     refine ret1 (.bool false) rfl rfl ⟨_, rfl, ?_, H.base⟩
     rw [xA (fun h => by obtain ⟨h1, h2, h3, h4, h5, h6, h7, h8, h9, h10, h11⟩ := h; first | contradiction | omega | exact h3 ⟨‹_›, ‹_›⟩ | (obtain ⟨q1, q2, q3, q4, q5⟩ := h11 k (by omega); first | contradiction | omega | (have := q5 (by omega); omega)))]
    replace h55 := xe h55
    replace h55 := zg h55
    refine xY [56, 57, 58, 59, 60, 61, 62] ?_
    refine sps [.bool true, .bool true] ?_
    refine xY [65, 66, 67, 68, 69, 70, 71] ?_
    refine sps [.bool true, .bool true] ?_
    refine xY [74, 75, 76, 77, 78, 79, 80] ?_
    refine sps [.bool true, .bool true] ?_
    refine xY [83, 84, 85, 86, 87, 88, 89] ?_
    refine sps [.bool true, .bool true] ?_
    refine xY [92, 93, 94, 95, 96, 97] ?_
    refine sp (.bool true) ?_
    refine qw (t_n ?_)
    refine qV true rfl (fun _ => ?_) (fun h => absurd h (by decide))
    refine qm (qy ?_)
    refine sp (.bool false) ?_
    refine qw (t_n (xx (t_r ?_)))
    refine ret1 (.bool false) rfl rfl ⟨_, rfl, ?_, H.base⟩
    rw [xA (fun h => by obtain ⟨h1, h2, h3, h4, h5, h6, h7, h8, h9, h10, h11⟩ := h; first | contradiction | omega | exact h3 ⟨‹_›, ‹_›⟩ | (obtain ⟨q1, q2, q3, q4, q5⟩ := h11 k (by omega); first | contradiction | omega | (have := q5 (by omega); omega)))]
   replace h51 := eq_of_beq h51
   refine zC [34, 35, 36, 37, 38, 39] 6 (H) ?_
   refine rtp 40 (.bool true) H ?_
   refine xO (by kernel_rfl) (t_n ?_)
   refine qV true rfl (fun _ => ?_) (fun h => absurd h (by decide))
   refine qm (qy ?_)
   refine sp (.bool false) ?_
   refine qw (t_n (xx (t_r ?_)))
   refine ret1 (.bool false) rfl rfl ⟨_, rfl, ?_, H.base⟩
   rw [xA (fun h => by obtain ⟨h1, h2, h3, h4, h5, h6, h7, h8, h9, h10, h11⟩ := h; first | contradiction | omega | exact h3 ⟨‹_›, ‹_›⟩ | (obtain ⟨q1, q2, q3, q4, q5⟩ := h11 k (by omega); first | contradiction | omega | (have := q5 (by omega); omega)))]
  replace h7 := xe h7
  replace h7 := Vd h7
  refine zC [21, 22, 23, 24, 25, 26, 27, 28, 29, 30, 31] 11 (H) ?_
  refine rtp 32 (.bool true) H ?_
  refine rtp 33 (.bool true) H ?_
  refine zC [34, 35, 36, 37, 38, 39] 6 (H) ?_
  refine rtp 40 (.bool true) H ?_
  refine xO (by kernel_rfl) (t_n ?_)
  refine qV true rfl (fun _ => ?_) (fun h => absurd h (by decide))
  refine qm (qy ?_)
  refine sp (.bool false) ?_
  refine qw (t_n (xx (t_r ?_)))
  refine ret1 (.bool false) rfl rfl ⟨_, rfl, ?_, H.base⟩
  rw [xA (fun h => by obtain ⟨h1, h2, h3, h4, h5, h6, h7, h8, h9, h10, h11⟩ := h; first | contradiction | omega | exact h3 ⟨‹_›, ‹_›⟩ | (obtain ⟨q1, q2, q3, q4, q5⟩ := h11 k (by omega); first | contradiction | omega | (have := q5 (by omega); omega)))]
 replace h4 := xe h4
 replace h4 := Vd h4
 refine zC [13, 14, 15, 16, 17, 18] 6 (H) ?_
 refine rtp 19 (.bool true) H ?_
 refine rtp 20 (.bool true) H ?_
 refine zC [21, 22, 23, 24, 25, 26, 27, 28, 29, 30, 31] 11 (H) ?_
 refine rtp 32 (.bool true) H ?_
 refine rtp 33 (.bool true) H ?_
 refine zC [34, 35, 36, 37, 38, 39] 6 (H) ?_
 refine rtp 40 (.bool true) H ?_
 refine xO (by kernel_rfl) (t_n ?_)
 refine qV true rfl (fun _ => ?_) (fun h => absurd h (by decide))
 refine qm (qy ?_)
 refine sp (.bool false) ?_
 refine qw (t_n (xx (t_r ?_)))
 refine ret1 (.bool false) rfl rfl ⟨_, rfl, ?_, H.base⟩
 rw [xA (fun h => by obtain ⟨h1, h2, h3, h4, h5, h6, h7, h8, h9, h10, h11⟩ := h; first | contradiction | omega | exact h3 ⟨‹_›, ‹_›⟩ | (obtain ⟨q1, q2, q3, q4, q5⟩ := h11 k (by omega); first | contradiction | omega | (have := q5 (by omega); omega)))]

theorem l02State_ok (w : World) (s : qU) (t : qP) (bs os : Nat) (qp : Option Addr) (qo : Nat) (qO : List Nat) (qF : Option Addr) (qC : Nat) (xq : List Nat) (bt ot : Nat) (qN : Option Addr) (qH : Nat) (xK : List Nat) (xG : Option Addr) (xy : Nat) (zk : List Nat) (qL : Option Addr) (qK : Nat) (xH : List Nat) (hs : vz w bs os [.int .i64 s.qI, .slice qp s.qf.length qo, .slice qF s.qg.length qC]) (xn : qQ.rep w qO [.slice qp s.qf.length qo] s.qf) (xM : qQ.rep w xq [.slice qF s.qg.length qC] s.qg) (ht : vz w bt ot [.slice qN t.qh.length qH, .slice xG t.qx.length xy, .slice qL t.ql.length qK]) (zl : qQ.rep w xK [.slice qN t.qh.length qH] t.qh) (zV : qQ.rep w zk [.slice xG t.qx.length xy] t.qx) (xX : qQ.rep w xH [.slice qL t.ql.length qK] t.ql) (p0 : jH s) : Calls Tryz.prog 85 #[pp bs os, pp bt ot] w (Ret (fun v w' => v = .bool (dec (zM s t))) w) := by
 refine enter (n := 88) Tryz.func85 rfl Tryz.ntmps85 (Nat.le_of_ble_eq_true rfl) ?_
 have H := (((((((St.start w).arg xX).arg zV).arg zl).argAt ht).arg xM).arg xn).argAt hs
 have vk := qJ xn
 have jr := qJ xM
 have QX := qJ zl
 have XH := qJ zV
 have yZ := qJ xX
 clear hs xn xM ht zl zV xX
 have p1 := p0.2.1
 refine qm (qy ?_)
 refine sp (.bool false) ?_
 refine qw (t_n (qm (qm ?_)))
 refine jk rfl H fun H => ?_
 refine rtp 0 (pp bt ot) H ?_
 refine rtp 1 (pp bt ot) H ?_
 refine rt 2 (pp bt (ot + 0)) (xE bt (ot) 0 Tryz.underlying38 rfl rfl Tryz.sizeOf26 rfl) H ?_
 refine rt 3 (.slice qN t.qh.length qH) (xm Tryz.isAgg26 rfl (fun _ h => h.xR 3 rfl 0 rfl)) H ?_
 refine rt 4 (.int .i64 t.qh.length) (y_len Tryz.underlying26 qN t.qh.length qH rfl) H ?_
 refine rtp 5 (pp bs os) H ?_
 refine rtp 6 (pp bs os) H ?_
 refine rt 7 (pp bs (os + 1)) (xE bs (os) 1 Tryz.underlying36 rfl rfl Tryz.sizeOf22 rfl) H ?_
 refine rt 8 (.slice qp s.qf.length qo) (xm Tryz.isAgg22 rfl (fun _ h => h.xR 0 rfl 1 rfl)) H ?_
 refine rt 9 (.int .i64 s.qf.length) (y_len Tryz.underlying22 qp s.qf.length qo rfl) H ?_
 refine rtp 10 (.bool ((t.qh.length : Int) != s.qf.length)) H ?_
 refine rtp 11 (.bool ((t.qh.length : Int) != s.qf.length)) H ?_
 cases h2 : ((t.qh.length : Int) != s.qf.length)
 ·skip
  replace h2 := xI h2
  refine rgp 12 (pp bt ot) 17 H ?_
  refine rgp 13 (pp bt ot) 17 H ?_
  refine rg 14 (pp bt (ot + 1)) 17 (xE bt (ot) 1 Tryz.underlying38 rfl rfl Tryz.sizeOf27 rfl) H ?_
  refine rg 15 (.slice xG t.qx.length xy) 17 (xm Tryz.isAgg27 rfl (fun _ h => h.xR 3 rfl 1 rfl)) H ?_
  refine rg 16 (.int .i64 t.qx.length) 17 (y_len Tryz.underlying27 xG t.qx.length xy rfl) H ?_
  refine rgp 17 (pp bs os) 17 H ?_
  refine rgp 18 (pp bs os) 17 H ?_
  refine rg 19 (pp bs (os + 1)) 17 (xE bs (os) 1 Tryz.underlying36 rfl rfl Tryz.sizeOf22 rfl) H ?_
  refine rg 20 (.slice qp s.qf.length qo) 17 (xm Tryz.isAgg22 rfl (fun _ h => h.xR 0 rfl 1 rfl)) H ?_
  refine rg 21 (.int .i64 s.qf.length) 17 (y_len Tryz.underlying22 qp s.qf.length qo rfl) H ?_
  refine rgp 22 (.bool ((t.qx.length : Int) != s.qf.length)) 17 H ?_
  refine rtp 23 (.bool ((t.qx.length : Int) != s.qf.length)) H ?_
  refine rtp 24 (.bool ((t.qx.length : Int) != s.qf.length)) H ?_
  cases h3 : ((t.qx.length : Int) != s.qf.length)
  ·skip
   replace h3 := xI h3
   refine rgp 25 (pp bt ot) 30 H ?_
   refine rgp 26 (pp bt ot) 30 H ?_
   refine rg 27 (pp bt (ot + 0)) 30 (xE bt (ot) 0 Tryz.underlying38 rfl rfl Tryz.sizeOf26 rfl) H ?_
   refine rg 28 (.slice qN t.qh.length qH) 30 (xm Tryz.isAgg26 rfl (fun _ h => h.xR 3 rfl 0 rfl)) H ?_
   obtain ⟨b4, o5, rfl⟩ := H.addr 4 rfl (by omega)
   refine rg 29 (pp b4 (o5 + (0 : Int).toNat * 1)) 30 (xN b4 (o5) t.qh.length qH 0 Tryz.underlying26 ti4 rfl rfl (by omega) (by omega)) H ?_
   refine rg 30 (.bool (t.qh[0]!)) 30 (xm Tryz.isAgg4 rfl (fun _ h => h.Qg 4 rfl 0 (by omega) (by omega))) H ?_
   refine rgp 31 (.bool (!(t.qh[0]!))) 30 H ?_
   refine rtp 32 (.bool (!(t.qh[0]!))) H ?_
   refine rtp 33 (.bool (!(t.qh[0]!))) H ?_
   cases h6 : (!(t.qh[0]!))
   ·skip
    replace h6 := qX h6
    refine rgp 34 (pp bs os) 39 H ?_
    refine rgp 35 (pp bt ot) 39 H ?_
    refine rgp 36 (pp bt ot) 39 H ?_
    refine rg 37 (pp bt (ot + 2)) 39 (xE bt (ot) 2 Tryz.underlying38 rfl rfl Tryz.sizeOf22 rfl) H ?_
    refine rg 38 (.slice qL t.ql.length qK) 39 (xm Tryz.isAgg22 rfl (fun _ h => h.xR 3 rfl 2 rfl)) H ?_
    refine xB [39] (by kernel_rfl) (by simp) (r_opG rfl (e := 39) rfl rfl ?_ xC)
    refine xf #[pp bs os, .slice qL t.ql.length qK] rfl rfl Tryz.call136 (QY w.drew s t.ql bs os qp qo qO qF qC xq qL qK xH (qG (H.get 0 rfl) 0 3) (H.get 1 rfl).1 (H.get 2 rfl).1 (H.get 6 rfl).1) ?_
    rintro _ w7 rfl x8
    replace H := H.ext x8
    refine ⟨H, ?_⟩
    refine rgp 40 (.bool (!(dec (zK s.qI t.ql)))) 39 H ?_
    refine rtp 41 (.bool (!(dec (zK s.qI t.ql)))) H ?_
    refine xO (by kernel_rfl) (t_n ?_)
    refine qV (!(dec (zK s.qI t.ql))) rfl (fun h9 => ?_) (fun h9 => ?_)
    ·skip
     replace h9 := xe h9
     replace h9 := zg h9
     refine qm (qy ?_)
     refine sp (.bool false) ?_
     refine qw (t_n (xx (t_r ?_)))
     refine ret1 (.bool false) rfl rfl ⟨_, rfl, ?_, H.base⟩
     rw [xA (fun h => by obtain ⟨h1, h2, h3, h4, h5⟩ := h; first | contradiction | omega | (simp_all; done) | (obtain ⟨q1, q2⟩ := h5 k (by omega); first | contradiction | (have := q2 (by assumption); omega)))]
    replace h9 := qX h9
    replace h9 := jA h9
    refine xh (t_n (qm (qm (qy ?_))))
    refine sp (.int .i64 0) ?_
    refine qw (t_n (xu ?_))
    refine zG (fun m' ρ w10 => ∃ (junk : Env) (k : Nat), ρ = upd (upd (upd junk 0 (pp bs os)) 1 (pp bt ot)) 5 (.int .i64 k) ∧ (k ≤ t.qx.length) ∧ (BagsTo s t k) ∧ m' = t.qx.length - k ∧ St w w10 [] [atF bs os [.int .i64 s.qI, .slice qp s.qf.length qo, .slice qF s.qg.length qC], isF false qO (.slice qp s.qf.length qo) s.qf, isF false xq (.slice qF s.qg.length qC) s.qg, atF bt ot [.slice (aa b4 o5) t.qh.length qH, .slice xG t.qx.length xy, .slice qL t.ql.length qK], isF false xK (.slice (aa b4 o5) t.qh.length qH) t.qh, isF false zk (.slice xG t.qx.length xy) t.qx, isF false xH (.slice qL t.ql.length qK) t.ql]) (t.qx.length - 0) ⟨_, 0, (by exact qj (qj (qj (rfl) rfl) rfl) rfl), (by omega), (by exact fun j hj => by omega), rfl, H⟩ ?_
    clear H
    rintro m' ρ w11 ⟨junk, k, rfl, i0, i1, rfl, H⟩
    refine qm (qm (qy ?_))
    refine sps [.int .i64 k, pp bt ot, pp bt ot] ?_
    refine sw (qM bt (ot) 1 Tryz.underlying38 rfl rfl Tryz.sizeOf27 rfl ?_)
    refine sw (qE (.slice xG t.qx.length xy) Tryz.isAgg27 rfl (H.xR 3 rfl 1 rfl) ?_)
    refine sw (zD Tryz.underlying27 xG t.qx.length xy rfl ?_)
    refine sp (.bool (decide ((k : Int) < t.qx.length))) ?_
    refine qw (t_n ?_)
    refine qV (decide ((k : Int) < t.qx.length)) rfl (fun h12 => ?_) (fun h12 => ?_)
    ·skip
     replace h12 := of_decide_eq_true h12
     refine xh (t_n (qm (xu (qm (qy ?_)))))
     refine sps [pp bs os, pp bt ot, pp bt ot] ?_
     refine sw (qM bt (ot) 1 Tryz.underlying38 rfl rfl Tryz.sizeOf27 rfl ?_)
     refine sw (qE (.slice xG t.qx.length xy) Tryz.isAgg27 rfl (H.xR 3 rfl 1 rfl) ?_)
     refine sp (.int .i64 k) ?_
     obtain ⟨b13, o14, rfl⟩ := H.addr 5 rfl (by omega)
     obtain ⟨ae15, ce15, Fe15, H⟩ := H.jC 5 rfl k k (by omega) (by omega) (by omega)
     refine sw (xJ k Tryz.underlying27 ti22 rfl rfl (by omega) (by omega) ?_)
     refine sw (qE (.slice ae15 ((t.qx[k]!).length) ce15) Tryz.isAgg22 rfl (H.xR 1 rfl 0 rfl) ?_)
     refine sw (xf #[pp bs os, .slice ae15 ((t.qx[k]!).length) ce15] rfl rfl Tryz.call136 (QY w11 s (t.qx[k]!) bs os qp qo qO qF qC xq ae15 ce15 Fe15 (qG (H.get 2 rfl) 0 3) (H.get 3 rfl).1 (H.get 4 rfl).1 (H.get 0 rfl).1) ?_)
     rintro _ w16 rfl x17
     replace H := H.ext x17
     refine sps [.bool (!(dec (zK s.qI (t.qx[k]!)))), .bool (!(dec (zK s.qI (t.qx[k]!))))] ?_
     cases h18 : (!(dec (zK s.qI (t.qx[k]!))))
     ·skip
      replace h18 := qX h18
      replace h18 := jA h18
      refine qR 67 rfl rfl ?_
      refine sp (pp bt ot) ?_
      refine qR 67 rfl rfl ?_
      refine sp (pp bt ot) ?_
      refine qR 67 rfl rfl ?_
      refine sw (qM bt (ot) 0 Tryz.underlying38 rfl rfl Tryz.sizeOf26 rfl ?_)
      refine qR 67 rfl rfl ?_
      refine sw (qE (.slice (aa b4 o5) t.qh.length qH) Tryz.isAgg26 rfl (H.xR 5 rfl 0 rfl) ?_)
      refine qR 67 rfl rfl ?_
      refine sp (.int .i64 k) ?_
      refine qR 67 rfl rfl ?_
      refine sw (xJ k Tryz.underlying26 ti4 rfl rfl (by omega) (by omega) ?_)
      refine qR 67 rfl rfl ?_
      refine sw (qE (.bool (t.qh[k]!)) Tryz.isAgg4 rfl (H.Qg 6 rfl k (by omega) (by omega)) ?_)
      refine qR 67 rfl rfl ?_
      refine sp (.bool (!(t.qh[k]!))) ?_
      refine qR 67 rfl rfl ?_
      refine sp (.bool (!(t.qh[k]!))) ?_
      cases h19 : (!(t.qh[k]!))
      ·skip
       replace h19 := qX h19
       refine xY [77, 78, 79, 80, 81, 82, 83, 84, 85] ?_
       refine qR 67 rfl rfl ?_
       refine sps [.bool false, .bool false] ?_
       refine qw (t_n ?_)
       refine qV false rfl (fun h => absurd h (by decide)) (fun _ => ?_)
       refine xh (b_n (t_n (qy ?_)))
       refine sp (.int .i64 k) ?_
       refine sw (zJ k 1 rfl rfl (by omega) ?_)
       refine sp (.int .i64 (k + 1)) ?_
       refine qw ?_
       refine xF (m' := t.qx.length - (k + 1)) (by omega) ⟨_, k + 1, (by exact qj (qj (qj (rfl) rfl) rfl) rfl), ?_, ?_, rfl, H.sel _ (.refl _) _ (by simp)⟩
       · omega
       · exact i1.succ ‹_› (fun hk => by first | omega | simp_all)
      replace h19 := xe h19
      refine qR 76 rfl rfl ?_
      refine sp (pp bt ot) ?_
      refine qR 76 rfl rfl ?_
      refine sp (pp bt ot) ?_
      refine qR 76 rfl rfl ?_
      refine sw (qM bt (ot) 1 Tryz.underlying38 rfl rfl Tryz.sizeOf27 rfl ?_)
      refine qR 76 rfl rfl ?_
      refine sw (qE (.slice (aa b13 o14) t.qx.length xy) Tryz.isAgg27 rfl (H.xR 5 rfl 1 rfl) ?_)
      refine qR 76 rfl rfl ?_
      refine sp (.int .i64 k) ?_
      refine qR 76 rfl rfl ?_
      refine sw (xJ k Tryz.underlying27 ti22 rfl rfl (by omega) (by omega) ?_)
      refine qR 76 rfl rfl ?_
      refine sw (qE (.slice ae15 ((t.qx[k]!).length) ce15) Tryz.isAgg22 rfl (H.xR 1 rfl 0 rfl) ?_)
      refine qR 76 rfl rfl ?_
      refine sw (xf #[.slice ae15 ((t.qx[k]!).length) ce15] rfl rfl Tryz.call137 (l01Size_ok w16 (t.qx[k]!) ae15 ce15 Fe15 (H.get 0 rfl).1 (by first | assumption | exact jd (by assumption) | exact Xh (by assumption))) ?_)
      rintro _ w20 rfl x21
      replace H := H.ext x21
      refine qR 76 rfl rfl ?_
      refine sp (.bool (decide ((sumL (t.qx[k]!) : Int) > 0))) ?_
      refine qR 67 rfl rfl ?_
      refine sps [.bool (decide ((sumL (t.qx[k]!) : Int) > 0)), .bool (decide ((sumL (t.qx[k]!) : Int) > 0))] ?_
      refine qw (t_n ?_)
      refine qV (decide ((sumL (t.qx[k]!) : Int) > 0)) rfl (fun h22 => ?_) (fun h22 => ?_)
      ·skip
       replace h22 := of_decide_eq_true h22
       refine qm (qy ?_)
       refine sp (.bool false) ?_
       refine qw (t_n (xx (b_r (t_r (t_r (b_r (t_r ?_)))))))
       refine ret1 (.bool false) rfl rfl ⟨_, rfl, ?_, H.base⟩
       rw [xA (fun h => by obtain ⟨h1, h2, h3, h4, h5⟩ := h; first | contradiction | omega | (simp_all; done) | (obtain ⟨q1, q2⟩ := h5 k (by omega); first | contradiction | (have := q2 (by assumption); omega)))]
      replace h22 := of_decide_eq_false h22
      refine xh (b_n (t_n (qy ?_)))
      refine sp (.int .i64 k) ?_
      refine sw (zJ k 1 rfl rfl (by omega) ?_)
      refine sp (.int .i64 (k + 1)) ?_
      refine qw ?_
      refine xF (m' := t.qx.length - (k + 1)) (by omega) ⟨_, k + 1, (by exact qj (qj (qj (rfl) rfl) rfl) rfl), ?_, ?_, rfl, H.sel _ (.refl _) _ (by simp)⟩
      · omega
      · exact i1.succ ‹_› (fun hk => by first | omega | simp_all)
     replace h18 := xe h18
     replace h18 := zg h18
     refine xY [68, 69, 70, 71, 72, 73, 74, 75, 76, 77, 78, 79, 80, 81, 82, 83, 84, 85, 86] ?_
     refine sp (.bool true) ?_
     refine qw (t_n ?_)
     refine qV true rfl (fun _ => ?_) (fun h => absurd h (by decide))
     refine qm (qy ?_)
     refine sp (.bool false) ?_
     refine qw (t_n (xx (b_r (t_r (t_r (b_r (t_r ?_)))))))
     refine ret1 (.bool false) rfl rfl ⟨_, rfl, ?_, H.base⟩
     rw [xA (fun h => by obtain ⟨h1, h2, h3, h4, h5⟩ := h; first | contradiction | omega | (simp_all; done) | (obtain ⟨q1, q2⟩ := h5 k (by omega); first | contradiction | (have := q2 (by assumption); omega)))]
    replace h12 := of_decide_eq_false h12
    refine zy (t_x (t_x (b_x (t_n (qm (qy ?_))))))
    refine sp (.bool true) ?_
    refine qw (t_n (xx ?_))
    refine ret1 (.bool true) rfl rfl ⟨_, rfl, ?_, H.base⟩
    obtain rfl : k = t.qx.length := by omega
    rw [yU ⟨by omega, by omega, by first | assumption | simp_all, by assumption, i1⟩]
   replace h6 := xe h6
   refine zC [34, 35, 36, 37, 38, 39, 40] 7 (H) ?_
   refine rtp 41 (.bool true) H ?_
   refine xO (by kernel_rfl) (t_n ?_)
   refine qV true rfl (fun _ => ?_) (fun h => absurd h (by decide))
   refine qm (qy ?_)
   refine sp (.bool false) ?_
   refine qw (t_n (xx (t_r ?_)))
   refine ret1 (.bool false) rfl rfl ⟨_, rfl, ?_, H.base⟩
   rw [xA (fun h => by obtain ⟨h1, h2, h3, h4, h5⟩ := h; first | contradiction | omega | (simp_all; done) | (obtain ⟨q1, q2⟩ := h5 k (by omega); first | contradiction | (have := q2 (by assumption); omega)))]
  replace h3 := bne_iff_ne.1 h3
  refine zC [25, 26, 27, 28, 29, 30, 31] 7 (H) ?_
  refine rtp 32 (.bool true) H ?_
  refine rtp 33 (.bool true) H ?_
  refine zC [34, 35, 36, 37, 38, 39, 40] 7 (H) ?_
  refine rtp 41 (.bool true) H ?_
  refine xO (by kernel_rfl) (t_n ?_)
  refine qV true rfl (fun _ => ?_) (fun h => absurd h (by decide))
  refine qm (qy ?_)
  refine sp (.bool false) ?_
  refine qw (t_n (xx (t_r ?_)))
  refine ret1 (.bool false) rfl rfl ⟨_, rfl, ?_, H.base⟩
  rw [xA (fun h => by obtain ⟨h1, h2, h3, h4, h5⟩ := h; first | contradiction | omega | (simp_all; done) | (obtain ⟨q1, q2⟩ := h5 k (by omega); first | contradiction | (have := q2 (by assumption); omega)))]
 replace h2 := bne_iff_ne.1 h2
 refine zC [12, 13, 14, 15, 16, 17, 18, 19, 20, 21, 22] 11 (H) ?_
 refine rtp 23 (.bool true) H ?_
 refine rtp 24 (.bool true) H ?_
 refine zC [25, 26, 27, 28, 29, 30, 31] 7 (H) ?_
 refine rtp 32 (.bool true) H ?_
 refine rtp 33 (.bool true) H ?_
 refine zC [34, 35, 36, 37, 38, 39, 40] 7 (H) ?_
 refine rtp 41 (.bool true) H ?_
 refine xO (by kernel_rfl) (t_n ?_)
 refine qV true rfl (fun _ => ?_) (fun h => absurd h (by decide))
 refine qm (qy ?_)
 refine sp (.bool false) ?_
 refine qw (t_n (xx (t_r ?_)))
 refine ret1 (.bool false) rfl rfl ⟨_, rfl, ?_, H.base⟩
 rw [xA (fun h => by obtain ⟨h1, h2, h3, h4, h5⟩ := h; first | contradiction | omega | (simp_all; done) | (obtain ⟨q1, q2⟩ := h5 k (by omega); first | contradiction | (have := q2 (by assumption); omega)))]

theorem l02Parent_ok (w : World) (s : qU) (t : qP) (c : Int) (bs os : Nat) (qp : Option Addr) (qo : Nat) (qO : List Nat) (qF : Option Addr) (qC : Nat) (xq : List Nat) (bt ot : Nat) (qN : Option Addr) (qH : Nat) (xK : List Nat) (xG : Option Addr) (xy : Nat) (zk : List Nat) (qL : Option Addr) (qK : Nat) (xH : List Nat) (hs : vz w bs os [.int .i64 s.qI, .slice qp s.qf.length qo, .slice qF s.qg.length qC]) (xn : qQ.rep w qO [.slice qp s.qf.length qo] s.qf) (xM : qQ.rep w xq [.slice qF s.qg.length qC] s.qg) (ht : vz w bt ot [.slice qN t.qh.length qH, .slice xG t.qx.length xy, .slice qL t.ql.length qK]) (zl : qQ.rep w xK [.slice qN t.qh.length qH] t.qh) (zV : qQ.rep w zk [.slice xG t.qx.length xy] t.qx) (xX : qQ.rep w xH [.slice qL t.ql.length qK] t.ql) (p0 : jH s) (p1 : CellIn s c) (p2 : t.qh.length = s.qf.length) : Calls Tryz.prog 107 #[pp bs os, pp bt ot, .int .i64 c] w (Ret (fun v w' => v = .int .i64 (qZ s t c)) w) := by
 refine enter (n := 35) Tryz.func107 rfl Tryz.ntmps107 (Nat.le_of_ble_eq_true rfl) ?_
 have H := (((((((St.start w).arg xX).arg zV).arg zl).argAt ht).arg xM).arg xn).argAt hs
 have vk := qJ xn
 have jr := qJ xM
 have QX := qJ zl
 have XH := qJ zV
 have yZ := qJ xX
 clear hs xn xM ht zl zV xX
 have p3 := p0.step p1.1 p1.2
 refine qm (qy ?_)
 refine sp (.int .i64 0) ?_
 refine qw (t_n (qm (qy ?_)))
 refine sps [pp bs os, pp bs os] ?_
 refine sw (qM bs (os) 1 Tryz.underlying36 rfl rfl Tryz.sizeOf22 rfl ?_)
 refine sw (qE (.slice qp s.qf.length qo) Tryz.isAgg22 rfl (H.xR 0 rfl 1 rfl) ?_)
 refine sp (.int .i64 c) ?_
 obtain ⟨b1, o2, rfl⟩ := H.addr 1 rfl (by omega)
 refine sw (xJ c Tryz.underlying22 ti2 rfl rfl (by omega) (by omega) ?_)
 refine sw (qE (.int .i64 (s.qf[c.toNat]!)) Tryz.isAgg2 rfl (H.vP 1 rfl c (by omega) (by omega)) ?_)
 refine sp (.int .i64 (s.qf[c.toNat]!)) ?_
 refine qw (t_n (qm (xu ?_)))
 refine zG (fun m' ρ w3 => ∃ (junk : Env) (y : Int) (n : Nat), ρ = upd (upd (upd (upd junk 0 (pp bs os)) 1 (pp bt ot)) 6 (.int .i64 0)) 7 (.int .i64 y) ∧ (-1 ≤ y ∧ y ≤ (s.qf.length : Int) - 1) ∧ (y < n) ∧ (qZ s t c = climb s.qf t.qh n y) ∧ m' = (y + 1).toNat ∧ St w w3 [] [atF bs os [.int .i64 s.qI, .slice (aa b1 o2) s.qf.length qo, .slice qF s.qg.length qC], isF false qO (.slice (aa b1 o2) s.qf.length qo) s.qf, isF false xq (.slice qF s.qg.length qC) s.qg, atF bt ot [.slice qN t.qh.length qH, .slice xG t.qx.length xy, .slice qL t.ql.length qK], isF false xK (.slice qN t.qh.length qH) t.qh, isF false zk (.slice xG t.qx.length xy) t.qx, isF false xH (.slice qL t.ql.length qK) t.ql]) (((s.qf[c.toNat]!) + 1).toNat) ⟨_, s.qf[c.toNat]!, s.qf.length, (by exact qj (qj (qj (qj (rfl) rfl) rfl) rfl) rfl), (by omega), (by omega), (by rfl), rfl, H⟩ ?_
 clear H
 rintro m' ρ w4 ⟨junk, y, n, rfl, i0, i1, i2, rfl, H⟩
 have up := fun h => p0.step (c := y) h i0.2
 refine qm (qm (qy ?_))
 refine sps [.int .i64 y, .bool (decide ((y : Int) ≥ 0)), .bool (decide ((y : Int) ≥ 0))] ?_
 cases h5 : (decide ((y : Int) ≥ 0))
 ·skip
  replace h5 := of_decide_eq_false h5
  refine xY [18, 19, 20, 21, 22, 23, 24, 25] ?_
  refine sp (.bool false) ?_
  refine qw (t_n ?_)
  refine qV false rfl (fun h => absurd h (by decide)) (fun _ => ?_)
  refine zy (t_x (t_x (b_x (t_n (qm (qy ?_))))))
  refine sps [.int .i64 y, .int .i64 y] ?_
  refine qw (t_n (xx ?_))
  refine ret1 (.int .i64 y) rfl rfl ⟨_, rfl, ?_, H.base⟩
  rw [i2, climb_end (by first | omega | simp_all)]
 replace h5 := of_decide_eq_true h5
 refine qR 17 rfl rfl ?_
 refine sp (pp bt ot) ?_
 refine qR 17 rfl rfl ?_
 refine sp (pp bt ot) ?_
 refine qR 17 rfl rfl ?_
 refine sw (qM bt (ot) 0 Tryz.underlying38 rfl rfl Tryz.sizeOf26 rfl ?_)
 refine qR 17 rfl rfl ?_
 refine sw (qE (.slice qN t.qh.length qH) Tryz.isAgg26 rfl (H.xR 3 rfl 0 rfl) ?_)
 refine qR 17 rfl rfl ?_
 refine sp (.int .i64 y) ?_
 refine qR 17 rfl rfl ?_
 obtain ⟨b6, o7, rfl⟩ := H.addr 4 rfl (by omega)
 refine sw (xJ y Tryz.underlying26 ti4 rfl rfl (by omega) (by omega) ?_)
 refine qR 17 rfl rfl ?_
 refine sw (qE (.bool (t.qh[y.toNat]!)) Tryz.isAgg4 rfl (H.Qg 4 rfl y (by omega) (by omega)) ?_)
 refine qR 17 rfl rfl ?_
 refine sps [.bool (!(t.qh[y.toNat]!)), .bool (!(t.qh[y.toNat]!))] ?_
 refine qw (t_n ?_)
 refine qV (!(t.qh[y.toNat]!)) rfl (fun h8 => ?_) (fun h8 => ?_)
 ·skip
  replace h8 := xe h8
  refine xh (t_n (xu (qy ?_)))
  refine sps [pp bs os, pp bs os] ?_
  refine sw (qM bs (os) 1 Tryz.underlying36 rfl rfl Tryz.sizeOf22 rfl ?_)
  refine sw (qE (.slice (aa b1 o2) s.qf.length qo) Tryz.isAgg22 rfl (H.xR 0 rfl 1 rfl) ?_)
  refine sp (.int .i64 y) ?_
  refine sw (xJ y Tryz.underlying22 ti2 rfl rfl (by omega) (by omega) ?_)
  refine sw (qE (.int .i64 (s.qf[y.toNat]!)) Tryz.isAgg2 rfl (H.vP 1 rfl y (by omega) (by omega)) ?_)
  refine sp (.int .i64 (s.qf[y.toNat]!)) ?_
  refine qw (b_n ?_)
  have up1 := up (by omega)
  refine xF (m' := ((s.qf[y.toNat]!) + 1).toNat) (by omega) ⟨_, (s.qf[y.toNat]!), n - 1, (by exact qj (qj (qj (qj (rfl) rfl) rfl) rfl) rfl), ?_, ?_, ?_, rfl, H⟩
  · omega
  · omega
  · exact i2.trans (climb_go (by omega) (by omega) ‹_›)
 replace h8 := qX h8
 refine zy (t_x (t_x (b_x (t_n (qm (qy ?_))))))
 refine sps [.int .i64 y, .int .i64 y] ?_
 refine qw (t_n (xx ?_))
 refine ret1 (.int .i64 y) rfl rfl ⟨_, rfl, ?_, H.base⟩
 rw [i2, climb_end (by first | omega | simp_all)]

theorem l02Ok_ok (w : World) (s : qU) (bs os : Nat) (qp : Option Addr) (qo : Nat) (qO : List Nat) (qF : Option Addr) (qC : Nat) (xq : List Nat) (hs : vz w bs os [.int .i64 s.qI, .slice qp s.qf.length qo, .slice qF s.qg.length qC]) (xn : qQ.rep w qO [.slice qp s.qf.length qo] s.qf) (xM : qQ.rep w xq [.slice qF s.qg.length qC] s.qg) : Calls Tryz.prog 41 #[pp bs os] w (Ret (fun v w' => v = .bool (dec (Qb s))) w) := by
 refine enter (n := 65) Tryz.func41 rfl Tryz.ntmps41 (Nat.le_of_ble_eq_true rfl) ?_
 have H := (((St.start w).arg xM).arg xn).argAt hs
 have vk := qJ xn
 have jr := qJ xM
 clear hs xn xM
 have p1 := fun h : jH s => h.2.1
 refine qm (qy ?_)
 refine sp (.bool false) ?_
 refine qw (t_n (qm (qm (qy ?_))))
 refine sp (pp bs os) ?_
 refine sw (xf #[pp bs os] rfl rfl Tryz.call83 (l02Frame_ok w s bs os qp qo qO qF qC xq (qG (H.get 0 rfl) 0 3) (H.get 1 rfl).1 (H.get 2 rfl).1) ?_)
 rintro _ w1 rfl x2
 replace H := H.ext x2
 refine sps [.bool (!(dec (jH s))), .bool (!(dec (jH s)))] ?_
 cases h3 : (!(dec (jH s)))
 ·skip
  replace h3 := qX h3
  replace h3 := jA h3
  refine qR 8 rfl rfl ?_
  refine sp (pp bs os) ?_
  refine qR 8 rfl rfl ?_
  refine sp (pp bs os) ?_
  refine qR 8 rfl rfl ?_
  refine sw (qM bs (os) 2 Tryz.underlying36 rfl rfl Tryz.sizeOf34 rfl ?_)
  refine qR 8 rfl rfl ?_
  refine sw (qE (.slice qF s.qg.length qC) Tryz.isAgg34 rfl (H.xR 0 rfl 2 rfl) ?_)
  refine qR 8 rfl rfl ?_
  refine sw (zD Tryz.underlying34 qF s.qg.length qC rfl ?_)
  refine qR 8 rfl rfl ?_
  refine sps [.bool (decide ((s.qg.length : Int) > 16)), .bool (decide ((s.qg.length : Int) > 16))] ?_
  refine qw (t_n ?_)
  refine qV (decide ((s.qg.length : Int) > 16)) rfl (fun h4 => ?_) (fun h4 => ?_)
  ·skip
   replace h4 := of_decide_eq_true h4
   refine qm (qy ?_)
   refine sp (.bool false) ?_
   refine qw (t_n (xx (t_r ?_)))
   refine ret1 (.bool false) rfl rfl ⟨_, rfl, ?_, H.base⟩
   rw [xA (fun h => by obtain ⟨h1, h2, h3⟩ := h; first | contradiction | omega | (obtain ⟨q1, q2⟩ := h3 k (by omega); first | contradiction | (have := Vz (k := k + 1) q; omega)))]
  replace h4 := of_decide_eq_false h4
  have p2 := p1 (by assumption)
  refine xh (t_n (qm (qy ?_)))
  refine sps [pp bs os, pp bs os] ?_
  refine sw (qM bs (os) 1 Tryz.underlying36 rfl rfl Tryz.sizeOf22 rfl ?_)
  refine sw (qE (.slice qp s.qf.length qo) Tryz.isAgg22 rfl (H.xR 0 rfl 1 rfl) ?_)
  refine sw (zD Tryz.underlying22 qp s.qf.length qo rfl ?_)
  refine sw (o_make1 H Tryz.underlying22 ti2 rfl s.qf.length rfl rfl (by omega) (by omega) fun b5 w6 H => ?_)
  replace H : St _ _ [.box b5 (List.replicate s.qf.length (.int .i64 0)) 2] _ := H
  refine sp (.slice (aa b5 0) s.qf.length s.qf.length) ?_
  refine qw (t_n (qm (qm (qy ?_))))
  refine sp (.int .i64 0) ?_
  refine qw (t_n (xu ?_))
  rw [ints_zero, counts_zero] at H
  refine zG (fun m' ρ w7 => ∃ (junk : Env) (k : Nat), ρ = upd (upd (upd junk 0 (pp bs os)) 3 (.slice (aa b5 0) s.qf.length s.qf.length)) 4 (.int .i64 k) ∧ (k ≤ s.qg.length) ∧ (RulesTo s k) ∧ m' = s.qg.length - k ∧ St w w7 [.box b5 ((counts s k).map (Value.int .i64)) 2] [atF bs os [.int .i64 s.qI, .slice qp s.qf.length qo, .slice qF s.qg.length qC], isF false qO (.slice qp s.qf.length qo) s.qf, isF false xq (.slice qF s.qg.length qC) s.qg]) (s.qg.length - 0) ⟨_, 0, (by exact qj (qj (qj (rfl) rfl) rfl) rfl), (by omega), (by exact fun j hj => by omega), rfl, H⟩ ?_
  clear H
  rintro m' ρ w8 ⟨junk, k, rfl, i0, i1, rfl, H⟩
  refine qm (qm (qy ?_))
  refine sps [.int .i64 k, pp bs os, pp bs os] ?_
  refine sw (qM bs (os) 2 Tryz.underlying36 rfl rfl Tryz.sizeOf34 rfl ?_)
  refine sw (qE (.slice qF s.qg.length qC) Tryz.isAgg34 rfl (H.xR 0 rfl 2 rfl) ?_)
  refine sw (zD Tryz.underlying34 qF s.qg.length qC rfl ?_)
  refine sp (.bool (decide ((k : Int) < s.qg.length))) ?_
  refine qw (t_n ?_)
  refine qV (decide ((k : Int) < s.qg.length)) rfl (fun h9 => ?_) (fun h9 => ?_)
  ·skip
   replace h9 := of_decide_eq_true h9
   refine xh (t_n (qm (xu (qm (qm (qy ?_))))))
   refine sps [pp bs os, pp bs os, pp bs os] ?_
   refine sw (qM bs (os) 2 Tryz.underlying36 rfl rfl Tryz.sizeOf34 rfl ?_)
   refine sw (qE (.slice qF s.qg.length qC) Tryz.isAgg34 rfl (H.xR 0 rfl 2 rfl) ?_)
   refine sp (.int .i64 k) ?_
   obtain ⟨b10, o11, rfl⟩ := H.addr 2 rfl (by omega)
   obtain ⟨ae12Need, ce12Need, Fe12Need, ae12Have, ce12Have, Fe12Have, ae12Lack, ce12Lack, Fe12Lack, ae12Here, ce12Here, Fe12Here, ae12Out, ce12Out, Fe12Out, ae12Into, ce12Into, Fe12Into, H⟩ := H.yE 2 rfl k k (by omega) (by omega) (by omega)
   refine sw (xJ k Tryz.underlying34 ti110 rfl rfl (by omega) (by omega) ?_)
   refine sw (xf #[pp bs os, pp b10 (o11 + (k : Int).toNat * 9)] rfl rfl Tryz.call84 (l02Rule_ok w8 s (s.qg[k]!) bs os qp qo qO (aa b10 o11) qC xq b10 (o11 + (k : Int).toNat * 9) ae12Need ce12Need Fe12Need ae12Have ce12Have Fe12Have ae12Lack ce12Lack Fe12Lack ae12Here ce12Here Fe12Here ae12Out ce12Out Fe12Out ae12Into ce12Into Fe12Into (qG (H.get 7 rfl) 0 3) (H.get 8 rfl).1 (H.get 9 rfl).1 (qG (H.get 6 rfl) 0 9) (H.get 0 rfl).1 (H.get 1 rfl).1 (H.get 2 rfl).1 (H.get 3 rfl).1 (H.get 4 rfl).1 (H.get 5 rfl).1 (by assumption)) ?_)
   rintro _ w13 rfl x14
   replace H := H.ext x14
   refine sp (.bool (!(dec (RuleOk s (s.qg[k]!))))) ?_
   refine qw (t_n ?_)
   refine qV (!(dec (RuleOk s (s.qg[k]!)))) rfl (fun h15 => ?_) (fun h15 => ?_)
   ·skip
    replace h15 := xe h15
    replace h15 := zg h15
    refine qm (qy ?_)
    refine sp (.bool false) ?_
    refine qw (t_n (xx (t_r (b_r (t_r (t_r (b_r (t_r ?_))))))))
    refine ret1 (.bool false) rfl rfl ⟨_, rfl, ?_, H.base⟩
    rw [xA (fun h => by obtain ⟨h1, h2, h3⟩ := h; first | contradiction | omega | (obtain ⟨q1, q2⟩ := h3 k (by omega); first | contradiction | (have := Vz (k := k + 1) q; omega)))]
   replace h15 := qX h15
   replace h15 := jA h15
   have q := (h15).1
   refine xh (t_n (qm (qy ?_)))
   refine sps [.slice (aa b5 0) s.qf.length s.qf.length, pp bs os, pp bs os] ?_
   refine sw (qM bs (os) 2 Tryz.underlying36 rfl rfl Tryz.sizeOf34 rfl ?_)
   refine sw (qE (.slice (aa b10 o11) s.qg.length qC) Tryz.isAgg34 rfl (H.xR 7 rfl 2 rfl) ?_)
   refine sp (.int .i64 k) ?_
   refine sw (xJ k Tryz.underlying34 ti110 rfl rfl (by omega) (by omega) ?_)
   refine sw (qM b10 (o11 + (k : Int).toNat * 9) 0 Tryz.underlying110 rfl rfl Tryz.sizeOf2 rfl ?_)
   refine sw (qE (.int .i64 ((s.qg[k]!).qA)) Tryz.isAgg2 rfl (H.xR 6 rfl 0 rfl) ?_)
   refine sw (xJ ((s.qg[k]!).qA) Tryz.underlying22 ti2 rfl rfl (by omega) (by omega) ?_)
   refine sw (qE (.int .i64 ((counts s k)[((s.qg[k]!).qA : Int).toNat]!)) Tryz.isAgg2 rfl (H.cell 0 rfl (ints_get (by rw [counts_len]; omega))) ?_)
   refine sw (zJ ((counts s k)[((s.qg[k]!).qA : Int).toNat]!) 1 rfl rfl (by (first | omega | (rw [Vz q]; have := ofCell_bd s.qg (s.qg[k]!).qA k; omega))) ?_)
   refine sw (xJ ((s.qg[k]!).qA) Tryz.underlying22 ti2 rfl rfl (by omega) (by omega) ?_)
   refine sw (yw H 0 rfl (.int .i64 (((counts s k)[((s.qg[k]!).qA : Int).toNat]!) + 1)) Tryz.sizeOf2 rfl rfl rfl (ints_lt (by rw [counts_len]; omega)) fun w16 H => ?_)
   rw [ints_set] at H
   rw [counts_succ q] at H
   replace H : St _ _ [.box b5 ((counts s (k + 1)).map (Value.int .i64)) 2] _ := H
   refine qw (t_n (qm (qy ?_)))
   refine sps [.slice (aa b5 0) s.qf.length s.qf.length, pp bs os, pp bs os] ?_
   refine sw (qM bs (os) 2 Tryz.underlying36 rfl rfl Tryz.sizeOf34 rfl ?_)
   refine sw (qE (.slice (aa b10 o11) s.qg.length qC) Tryz.isAgg34 rfl (H.xR 7 rfl 2 rfl) ?_)
   refine sp (.int .i64 k) ?_
   refine sw (xJ k Tryz.underlying34 ti110 rfl rfl (by omega) (by omega) ?_)
   refine sw (qM b10 (o11 + (k : Int).toNat * 9) 0 Tryz.underlying110 rfl rfl Tryz.sizeOf2 rfl ?_)
   refine sw (qE (.int .i64 ((s.qg[k]!).qA)) Tryz.isAgg2 rfl (H.xR 6 rfl 0 rfl) ?_)
   refine sw (xJ ((s.qg[k]!).qA) Tryz.underlying22 ti2 rfl rfl (by omega) (by omega) ?_)
   refine sw (qE (.int .i64 ((counts s (k + 1))[((s.qg[k]!).qA : Int).toNat]!)) Tryz.isAgg2 rfl (H.cell 0 rfl (ints_get (by rw [counts_len]; omega))) ?_)
   refine sp (.bool (decide (((counts s (k + 1))[((s.qg[k]!).qA : Int).toNat]! : Int) > 8))) ?_
   refine qw (t_n ?_)
   refine qV (decide (((counts s (k + 1))[((s.qg[k]!).qA : Int).toNat]! : Int) > 8)) rfl (fun h17 => ?_) (fun h17 => ?_)
   ·skip
    replace h17 := of_decide_eq_true h17
    refine qm (qy ?_)
    refine sp (.bool false) ?_
    refine qw (t_n (xx (b_r (t_r (t_r (b_r (t_r ?_)))))))
    refine ret1 (.bool false) rfl rfl ⟨_, rfl, ?_, H.base⟩
    rw [xA (fun h => by obtain ⟨h1, h2, h3⟩ := h; first | contradiction | omega | (obtain ⟨q1, q2⟩ := h3 k (by omega); first | contradiction | (have := Vz (k := k + 1) q; omega)))]
   replace h17 := of_decide_eq_false h17
   refine xh (b_n (t_n (qy ?_)))
   refine sp (.int .i64 k) ?_
   refine sw (zJ k 1 rfl rfl (by (first | omega | (rw [Vz q]; have := ofCell_bd s.qg (s.qg[k]!).qA k; omega))) ?_)
   refine sp (.int .i64 (k + 1)) ?_
   refine qw ?_
   refine xF (m' := s.qg.length - (k + 1)) (by omega) ⟨_, k + 1, (by exact qj (qj (qj (rfl) rfl) rfl) rfl), ?_, ?_, rfl, H.sel _ (.refl _) _ (by simp)⟩
   · omega
   · exact i1.succ ‹_› (by have := Vz (k := k + 1) q; omega)
  replace h9 := of_decide_eq_false h9
  refine zy (t_x (t_x (b_x (t_n (qm (qy ?_))))))
  refine sp (.bool true) ?_
  refine qw (t_n (xx ?_))
  refine ret1 (.bool true) rfl rfl ⟨_, rfl, ?_, H.base⟩
  obtain rfl : k = s.qg.length := by omega
  rw [yU ⟨by assumption, by omega, i1⟩]
 replace h3 := xe h3
 replace h3 := zg h3
 refine xY [9, 10, 11, 12, 13, 14] ?_
 refine sp (.bool true) ?_
 refine qw (t_n ?_)
 refine qV true rfl (fun _ => ?_) (fun h => absurd h (by decide))
 refine qm (qy ?_)
 refine sp (.bool false) ?_
 refine qw (t_n (xx (t_r ?_)))
 refine ret1 (.bool false) rfl rfl ⟨_, rfl, ?_, H.base⟩
 rw [xA (fun h => by obtain ⟨h1, h2, h3⟩ := h; first | contradiction | omega | (obtain ⟨q1, q2⟩ := h3 k (by omega); first | contradiction | (have := Vz (k := k + 1) q; omega)))]

end Go.Proofs.YtkmlihdacnfhdaaGreat
