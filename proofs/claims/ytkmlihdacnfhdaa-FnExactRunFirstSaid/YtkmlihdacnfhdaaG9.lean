/- Walks, printed by program (wip/tools/gv.py): what each function comes to, for all arguments. -/
import Derived.Test.YtkmlihdacnfhdaaG5
import Derived.Test.YtkmlihdacnfhdaaP6
namespace Go.Proofs.Ytkmlihdacnfhdaa
open Go.Proofs.Ytkmlihdacnfhdaa.Tot (tot)
open Go.Proofs.Ytkmlihdacnfhdaa.Mark (cnt mrk mkd mkd_mark cnt_mark)
open Go.RowKit
set_option linter.unusedVariables false
set_option linter.unusedSimpArgs false
set_option maxRecDepth 100000
set_option maxHeartbeats 4000000



theorem l00Max_ok (w : World) (a : Int) (b : Int) : Calls Try.prog 99 #[.int .i64 a, .int .i64 b] w (Ret (fun v w' => v = .int .i64 (max a b)) w) := by
 refine enter (n := 10) Try.func99 rfl Try.ntmps99 (Nat.le_of_ble_eq_true rfl) ?_
 have H := St.start w
 have N := Fresh.nil w.heap.size
 refine qo (qB ?_)
 refine sp (.int .i64 0) ?_
 refine qA (t_n (qo (qo (qB ?_))))
 refine sps [.int .i64 a, .int .i64 b, .bool (decide ((a : Int) > b))] ?_
 refine qA (t_n ?_)
 refine qX (decide ((a : Int) > b)) rfl (fun h1 => ?_) (fun h1 => ?_)
 ·skip
  replace h1 := of_decide_eq_true h1
  refine qo (qB ?_)
  refine sps [.int .i64 a, .int .i64 a] ?_
  refine qA (t_n (xE (t_r ?_)))
  refine ret1 (.int .i64 a) rfl rfl ⟨_, rfl, ?_, H.base⟩
  refine congrArg (Value.int .i64) ?_
  omega
 replace h1 := of_decide_eq_false h1
 refine xy (t_n (qo (qB ?_)))
 refine sps [.int .i64 b, .int .i64 b] ?_
 refine qA (t_n (xE ?_))
 refine ret1 (.int .i64 b) rfl rfl ⟨_, rfl, ?_, H.base⟩
 refine congrArg (Value.int .i64) ?_
 omega

theorem l01Within_ok (w : World) (l : List Int) (m : List Int) (al : Option Addr) (cl : Nat) (Fl : List Nat) (am : Option Addr) (cm : Nat) (Fm : List Nat) (hl : qW.rep w Fl [.slice al l.length cl] l) (hm : qW.rep w Fm [.slice am m.length cm] m) (p0 : l.length ≤ m.length) : Calls Try.prog 121 #[.slice al l.length cl, .slice am m.length cm] w (Ret (fun v w' => v = .bool (within l m)) w) := by
 refine enter (n := 21) Try.func121 rfl Try.ntmps121 (Nat.le_of_ble_eq_true rfl) ?_
 have H := ((St.start w).arg hm).arg hl
 have nhl := qN hl
 have nhm := qN hm
 clear hl hm
 have N := Fresh.nil w.heap.size
 refine qo (qB ?_)
 refine sp (.bool false) ?_
 refine qA (t_n (qo (qo (qB ?_))))
 refine sp (.int .i64 0) ?_
 refine qA (t_n (xC ?_))
 refine vw (fun m' ρ w1 => ∃ (junk : Env) (i : Nat), ρ = upd (upd (upd junk 0 (.slice al l.length cl)) 1 (.slice am m.length cm)) 5 (.int .i64 i) ∧ ((i : Int) ≤ l.length) ∧ (withinTo l m i) ∧ m' = (l.length - (i : Int)).toNat ∧ Fresh w.heap.size [] ∧ St w w1 [] [isF false Fl (.slice al l.length cl) l, isF false Fm (.slice am m.length cm) m]) ((l.length - (0 : Int)).toNat) ⟨_, 0, (by exact qj (qj (qj (rfl) rfl) rfl) rfl), (by omega), (by exact withinTo_zero l m), rfl, N, H⟩ ?_
 clear H N
 rintro m' ρ w2 ⟨junk, i, rfl, i0, i1, rfl, N, H⟩
 refine qo (qo (qB ?_))
 refine sps [.int .i64 i, .slice al l.length cl] ?_
 refine sw (vI Try.underlying22 al l.length cl rfl ?_)
 refine sp (.bool (decide ((i : Int) < l.length))) ?_
 refine qA (t_n ?_)
 refine qX (decide ((i : Int) < l.length)) rfl (fun h3 => ?_) (fun h3 => ?_)
 ·skip
  replace h3 := of_decide_eq_true h3
  refine xy (t_n (qo (xC (qo ?_))))
  refine yg rfl H fun H => ?_
  refine rtp 0 (.slice al l.length cl) H ?_
  refine rtp 1 (.int .i64 i) H ?_
  obtain ⟨b5, o6, rfl⟩ := H.addr 0 rfl (by omega)
  refine rt 2 (pp b5 (o6 + (i : Int).toNat * 1)) (xK b5 (o6) l.length cl i Try.underlying22 ti2 rfl rfl (by omega) (by omega)) H ?_
  refine rt 3 (.int .i64 (l[i]!)) (xm Try.isAgg2 rfl (fun _ h => h.vX 0 rfl i (by omega) (by omega))) H ?_
  refine rtp 4 (.slice am m.length cm) H ?_
  refine rtp 5 (.int .i64 i) H ?_
  obtain ⟨b8, o9, rfl⟩ := H.addr 1 rfl (by omega)
  refine rt 6 (pp b8 (o9 + (i : Int).toNat * 1)) (xK b8 (o9) m.length cm i Try.underlying22 ti2 rfl rfl (by omega) (by omega)) H ?_
  refine rt 7 (.int .i64 (m[i]!)) (xm Try.isAgg2 rfl (fun _ h => h.vX 1 rfl i (by omega) (by omega))) H ?_
  refine rtp 8 (.bool (decide ((l[i]! : Int) > (m[i]!)))) H ?_
  refine xM (by kernel_rfl) (t_n ?_)
  refine qX (decide ((l[i]! : Int) > (m[i]!))) rfl (fun h11 => ?_) (fun h11 => ?_)
  ·skip
   replace h11 := of_decide_eq_true h11
   refine qo (qB ?_)
   refine sp (.bool false) ?_
   refine qA (t_n (xE (b_r (t_r (t_r (b_r (t_r ?_)))))))
   refine ret1 (.bool false) rfl rfl ⟨_, rfl, ?_, H.base⟩
   rw [within_no (k := i) ‹_› (by omega)]
  replace h11 := of_decide_eq_false h11
  refine xy (b_n (t_n (qB ?_)))
  refine sp (.int .i64 i) ?_
  refine sw (vz i 1 rfl rfl (by omega) ?_)
  refine sp (.int .i64 (i + 1)) ?_
  refine qA ?_
  refine xH (m' := (l.length - ((i + 1) : Int)).toNat) (by omega) ⟨_, i + 1, (by exact qj (qj (qj (rfl) rfl) rfl) rfl), ?_, ?_, rfl, N, H⟩
  · omega
  · exact withinTo_succ ‹_› (by omega)
 replace h3 := of_decide_eq_false h3
 refine ve (t_x (t_x (b_x (t_n (qo (qB ?_))))))
 refine sp (.bool true) ?_
 refine qA (t_n (xE ?_))
 refine ret1 (.bool true) rfl rfl ⟨_, rfl, ?_, H.base⟩
 rw [within_yes ‹_› (by omega)]

theorem l01Times_ok (w : World) (l : List Int) (m : List Int) (al : Option Addr) (cl : Nat) (Fl : List Nat) (am : Option Addr) (cm : Nat) (Fm : List Nat) (hl : qW.rep w Fl [.slice al l.length cl] l) (hm : qW.rep w Fm [.slice am m.length cm] m) (p0 : l.length ≤ m.length) (p2 : ∀ k, k < l.length → 0 ≤ m[k]! ∧ m[k]! ≤ 1000) (p3 : ∃ j, j < l.length ∧ 0 < l[j]!) : Calls Try.prog 88 #[.slice al l.length cl, .slice am m.length cm] w (Ret (fun v w' => v = .int .i64 (yR l m)) w) := by
 refine enter (n := 45) Try.func88 rfl Try.ntmps88 (Nat.le_of_ble_eq_true rfl) ?_
 have H := ((St.start w).arg hm).arg hl
 have nhl := qN hl
 have nhm := qN hm
 clear hl hm
 have N := Fresh.nil w.heap.size
 refine qo (qB ?_)
 refine sp (.int .i64 0) ?_
 refine qA (t_n (qo (qB ?_)))
 refine sp (.int .i64 (-1)) ?_
 refine qA (t_n (qo (qo (qB ?_))))
 refine sp (.int .i64 0) ?_
 refine qA (t_n (xC ?_))
 refine vw (fun m' ρ w1 => ∃ (junk : Env) (best : Int) (i : Nat), ρ = upd (upd (upd (upd junk 0 (.slice al l.length cl)) 1 (.slice am m.length cm)) 5 (.int .i64 best)) 6 (.int .i64 i) ∧ ((i : Int) ≤ l.length) ∧ (Xg l m i best) ∧ m' = (l.length - (i : Int)).toNat ∧ Fresh w.heap.size [] ∧ St w w1 [] [isF false Fl (.slice al l.length cl) l, isF false Fm (.slice am m.length cm) m]) ((l.length - (0 : Int)).toNat) ⟨_, (-1), 0, (by exact qj (qj (qj (qj (rfl) rfl) rfl) rfl) rfl), (by omega), (by exact Xg.zero l m), rfl, N, H⟩ ?_
 clear H N
 rintro m' ρ w2 ⟨junk, best, i, rfl, i0, i1, rfl, N, H⟩
 refine qo (qo (qB ?_))
 refine sps [.int .i64 i, .slice al l.length cl] ?_
 refine sw (vI Try.underlying22 al l.length cl rfl ?_)
 refine sp (.bool (decide ((i : Int) < l.length))) ?_
 refine qA (t_n ?_)
 refine qX (decide ((i : Int) < l.length)) rfl (fun h3 => ?_) (fun h3 => ?_)
 ·skip
  replace h3 := of_decide_eq_true h3
  refine xy (t_n (qo (xC (qo ?_))))
  refine yg rfl H fun H => ?_
  refine rtp 0 (.slice al l.length cl) H ?_
  refine rtp 1 (.int .i64 i) H ?_
  obtain ⟨b5, o6, rfl⟩ := H.addr 0 rfl (by omega)
  refine rt 2 (pp b5 (o6 + (i : Int).toNat * 1)) (xK b5 (o6) l.length cl i Try.underlying22 ti2 rfl rfl (by omega) (by omega)) H ?_
  refine rt 3 (.int .i64 (l[i]!)) (xm Try.isAgg2 rfl (fun _ h => h.vX 0 rfl i (by omega) (by omega))) H ?_
  refine rtp 4 (.bool (decide ((l[i]! : Int) > 0))) H ?_
  refine rtp 5 (.bool (decide ((l[i]! : Int) > 0))) H ?_
  cases h8 : (decide ((l[i]! : Int) > 0))
  ·skip
   replace h8 := of_decide_eq_false h8
   refine zS [6, 7, 8, 9, 10, 11, 12, 13, 14, 15, 16, 17, 18, 19, 20] 15 (H) ?_
   refine rtp 21 (.bool false) H ?_
   refine xM (by kernel_rfl) (t_n ?_)
   refine qX false rfl (fun h => absurd h (by decide)) (fun _ => ?_)
   refine xy (b_n (t_n (qB ?_)))
   refine sp (.int .i64 i) ?_
   refine sw (vz i 1 rfl rfl (by (have := p2 i (by omega); omega)) ?_)
   refine sp (.int .i64 (i + 1)) ?_
   refine qA ?_
   refine xH (m' := (l.length - ((i + 1) : Int)).toNat) (by omega) ⟨_, best, i + 1, (by exact qj (qj (qj (qj (rfl) rfl) rfl) rfl) rfl), ?_, ?_, rfl, N, H⟩
   · omega
   · first | exact i1.take (p2 i (by omega)) (by omega) (by omega) (Vu (fun k hk => (p2 k hk).1) i (by omega)).1 | exact i1.keep (by omega) | exact i1.keep2 (by omega) (by omega) (by omega)
  replace h8 := of_decide_eq_true h8
  refine rgp 6 (.int .i64 best) 18 H ?_
  refine rgp 7 (.bool (decide ((best : Int) < 0))) 18 H ?_
  refine rgp 8 (.bool (decide ((best : Int) < 0))) 18 H ?_
  cases h9 : (decide ((best : Int) < 0))
  ·skip
   replace h9 := of_decide_eq_false h9
   refine rgp 9 (.slice am m.length cm) 21 H ?_
   refine rgp 10 (.int .i64 i) 21 H ?_
   obtain ⟨b10, o11, rfl⟩ := H.addr 1 rfl (by omega)
   refine rg 11 (pp b10 (o11 + (i : Int).toNat * 1)) 21 (xK b10 (o11) m.length cm i Try.underlying22 ti2 rfl rfl (by omega) (by omega)) H ?_
   refine rg 12 (.int .i64 (m[i]!)) 21 (xm Try.isAgg2 rfl (fun _ h => h.vX 1 rfl i (by omega) (by omega))) H ?_
   refine rgp 13 (.slice (aa b5 o6) l.length cl) 21 H ?_
   refine rgp 14 (.int .i64 i) 21 H ?_
   refine rg 15 (pp b5 (o6 + (i : Int).toNat * 1)) 21 (xK b5 (o6) l.length cl i Try.underlying22 ti2 rfl rfl (by omega) (by omega)) H ?_
   refine rg 16 (.int .i64 (l[i]!)) 21 (xm Try.isAgg2 rfl (fun _ h => h.vX 0 rfl i (by omega) (by omega))) H ?_
   refine rg 17 (.int .i64 ((m[i]!) / (l[i]!))) 21 (y_quo (m[i]!) (l[i]!) rfl rfl (by (have := p2 i (by omega); omega)) (by (have := p2 i (by omega); omega))) H ?_
   refine rgp 18 (.int .i64 best) 21 H ?_
   refine rgp 19 (.bool (decide (((m[i]!) / (l[i]!) : Int) < best))) 21 H ?_
   refine rgp 20 (.bool (decide (((m[i]!) / (l[i]!) : Int) < best))) 18 H ?_
   refine rtp 21 (.bool (decide (((m[i]!) / (l[i]!) : Int) < best))) H ?_
   refine xM (by kernel_rfl) (t_n ?_)
   refine qX (decide (((m[i]!) / (l[i]!) : Int) < best)) rfl (fun h13 => ?_) (fun h13 => ?_)
   ·skip
    replace h13 := of_decide_eq_true h13
    refine yg rfl H fun H => ?_
    refine rtp 0 (.slice (aa b10 o11) m.length cm) H ?_
    refine rtp 1 (.int .i64 i) H ?_
    refine rt 2 (pp b10 (o11 + (i : Int).toNat * 1)) (xK b10 (o11) m.length cm i Try.underlying22 ti2 rfl rfl (by omega) (by omega)) H ?_
    refine rt 3 (.int .i64 (m[i]!)) (xm Try.isAgg2 rfl (fun _ h => h.vX 1 rfl i (by omega) (by omega))) H ?_
    refine rtp 4 (.slice (aa b5 o6) l.length cl) H ?_
    refine rtp 5 (.int .i64 i) H ?_
    refine rt 6 (pp b5 (o6 + (i : Int).toNat * 1)) (xK b5 (o6) l.length cl i Try.underlying22 ti2 rfl rfl (by omega) (by omega)) H ?_
    refine rt 7 (.int .i64 (l[i]!)) (xm Try.isAgg2 rfl (fun _ h => h.vX 0 rfl i (by omega) (by omega))) H ?_
    refine rt 8 (.int .i64 ((m[i]!) / (l[i]!))) (y_quo (m[i]!) (l[i]!) rfl rfl (by (have := p2 i (by omega); omega)) (by (have := p2 i (by omega); omega))) H ?_
    refine rtp 9 (.int .i64 ((m[i]!) / (l[i]!))) H ?_
    refine xM (by kernel_rfl) (b_n (t_n ?_))
    refine qB ?_
    refine sp (.int .i64 i) ?_
    refine sw (vz i 1 rfl rfl (by (have := p2 i (by omega); omega)) ?_)
    refine sp (.int .i64 (i + 1)) ?_
    refine qA ?_
    refine xH (m' := (l.length - ((i + 1) : Int)).toNat) (by omega) ⟨_, (m[i]!) / (l[i]!), i + 1, (by exact qj (qj (qj (qj (rfl) rfl) rfl) rfl) rfl), ?_, ?_, rfl, N, H⟩
    · omega
    · first | exact i1.take (p2 i (by omega)) (by omega) (by omega) (Vu (fun k hk => (p2 k hk).1) i (by omega)).1 | exact i1.keep (by omega) | exact i1.keep2 (by omega) (by omega) (by omega)
   replace h13 := of_decide_eq_false h13
   refine xy (b_n (t_n (qB ?_)))
   refine sp (.int .i64 i) ?_
   refine sw (vz i 1 rfl rfl (by (have := p2 i (by omega); omega)) ?_)
   refine sp (.int .i64 (i + 1)) ?_
   refine qA ?_
   refine xH (m' := (l.length - ((i + 1) : Int)).toNat) (by omega) ⟨_, best, i + 1, (by exact qj (qj (qj (qj (rfl) rfl) rfl) rfl) rfl), ?_, ?_, rfl, N, H⟩
   · omega
   · first | exact i1.take (p2 i (by omega)) (by omega) (by omega) (Vu (fun k hk => (p2 k hk).1) i (by omega)).1 | exact i1.keep (by omega) | exact i1.keep2 (by omega) (by omega) (by omega)
  replace h9 := of_decide_eq_true h9
  refine zS [9, 10, 11, 12, 13, 14, 15, 16, 17, 18, 19] 11 (H) ?_
  refine rgp 20 (.bool true) 18 H ?_
  refine rtp 21 (.bool true) H ?_
  refine xM (by kernel_rfl) (t_n ?_)
  refine qX true rfl (fun _ => ?_) (fun h => absurd h (by decide))
  refine yg rfl H fun H => ?_
  refine rtp 0 (.slice am m.length cm) H ?_
  refine rtp 1 (.int .i64 i) H ?_
  obtain ⟨b16, o17, rfl⟩ := H.addr 1 rfl (by omega)
  refine rt 2 (pp b16 (o17 + (i : Int).toNat * 1)) (xK b16 (o17) m.length cm i Try.underlying22 ti2 rfl rfl (by omega) (by omega)) H ?_
  refine rt 3 (.int .i64 (m[i]!)) (xm Try.isAgg2 rfl (fun _ h => h.vX 1 rfl i (by omega) (by omega))) H ?_
  refine rtp 4 (.slice (aa b5 o6) l.length cl) H ?_
  refine rtp 5 (.int .i64 i) H ?_
  refine rt 6 (pp b5 (o6 + (i : Int).toNat * 1)) (xK b5 (o6) l.length cl i Try.underlying22 ti2 rfl rfl (by omega) (by omega)) H ?_
  refine rt 7 (.int .i64 (l[i]!)) (xm Try.isAgg2 rfl (fun _ h => h.vX 0 rfl i (by omega) (by omega))) H ?_
  refine rt 8 (.int .i64 ((m[i]!) / (l[i]!))) (y_quo (m[i]!) (l[i]!) rfl rfl (by (have := p2 i (by omega); omega)) (by (have := p2 i (by omega); omega))) H ?_
  refine rtp 9 (.int .i64 ((m[i]!) / (l[i]!))) H ?_
  refine xM (by kernel_rfl) (b_n (t_n ?_))
  refine qB ?_
  refine sp (.int .i64 i) ?_
  refine sw (vz i 1 rfl rfl (by (have := p2 i (by omega); omega)) ?_)
  refine sp (.int .i64 (i + 1)) ?_
  refine qA ?_
  refine xH (m' := (l.length - ((i + 1) : Int)).toNat) (by omega) ⟨_, (m[i]!) / (l[i]!), i + 1, (by exact qj (qj (qj (qj (rfl) rfl) rfl) rfl) rfl), ?_, ?_, rfl, N, H⟩
  · omega
  · first | exact i1.take (p2 i (by omega)) (by omega) (by omega) (Vu (fun k hk => (p2 k hk).1) i (by omega)).1 | exact i1.keep (by omega) | exact i1.keep2 (by omega) (by omega) (by omega)
 replace h3 := of_decide_eq_false h3
 refine ve (t_x (t_x (b_x (t_n (qo (qB ?_))))))
 refine sps [.int .i64 best, .int .i64 best] ?_
 refine qA (t_n (xE ?_))
 refine ret1 (.int .i64 best) rfl rfl ⟨_, rfl, ?_, H.base⟩
 obtain rfl : i = l.length := by omega
 rw [i1.done p3]; rfl

theorem l03Both_ok (w : World) (s : qV) (t : qQ) (bs os : Nat) (qw : Option Addr) (qm : Nat) (qM : List Nat) (qG : Option Addr) (qC : Nat) (xu : List Nat) (bt ot : Nat) (qP : Option Addr) (qJ : Nat) (xJ : List Nat) (xG : Option Addr) (xA : Nat) (zF : List Nat) (qL : Option Addr) (qK : Nat) (xI : List Nat) (hs : jd w bs os [.int .i64 s.qI, .slice qw s.qf.length qm, .slice qG s.qg.length qC]) (xx : qW.rep w qM [.slice qw s.qf.length qm] s.qf) (xN : qW.rep w xu [.slice qG s.qg.length qC] s.qg) (ht : jd w bt ot [.slice qP t.qh.length qJ, .slice xG t.qp.length xA, .slice qL t.ql.length qK]) (zA : qW.rep w xJ [.slice qP t.qh.length qJ] t.qh) (vC : qW.rep w zF [.slice xG t.qp.length xA] t.qp) (xZ : qW.rep w xI [.slice qL t.ql.length qK] t.ql) : Calls Try.prog 54 #[pp bs os, pp bt ot] w (Ret (fun v w' => v = .bool (dec (yP s ∧ zJ s t))) w) := by
 refine enter (n := 12) Try.func54 rfl Try.ntmps54 (Nat.le_of_ble_eq_true rfl) ?_
 have H := (((((((St.start w).arg xZ).arg vC).arg zA).argAt ht).arg xN).arg xx).argAt hs
 have vW := qN xx
 have yh := qN xN
 have QU := qN zA
 have XA := qN vC
 have Qa := qN xZ
 clear hs xx xN ht zA vC xZ
 have N := Fresh.nil w.heap.size
 refine qo (qB ?_)
 refine sp (.bool false) ?_
 refine qA (t_n (qo (qB ?_)))
 refine sp (pp bs os) ?_
 refine sw (xf #[pp bs os] rfl rfl Try.call65 (l02Ok_ok w s bs os qw qm qM qG qC xu (qH (H.get 0 rfl) 0 3) (H.get 1 rfl).1 (H.get 2 rfl).1) ?_)
 rintro _ w1 rfl x2
 replace H := H.ext x2
 refine sp (.bool (dec (yP s))) ?_
 cases h3 : (dec (yP s))
 ·skip
  replace h3 := zt h3
  refine zi [8, 9, 10] ?_
  refine sps [.bool false, .bool false] ?_
  refine qA (t_n (xE ?_))
  refine ret1 (.bool false) rfl rfl ⟨_, rfl, ?_, H.base⟩
  rw [xB (fun h => ‹¬ yP s› h.1)]
 replace h3 := jZ h3
 refine qU 7 rfl rfl ?_
 refine sp (pp bs os) ?_
 refine qU 7 rfl rfl ?_
 refine sp (pp bt ot) ?_
 refine qU 7 rfl rfl ?_
 refine sw (xf #[pp bs os, pp bt ot] rfl rfl Try.call76 (l02State_ok w1 s t bs os qw qm qM qG qC xu bt ot qP qJ xJ xG xA zF qL qK xI (qH (H.get 0 rfl) 0 3) (H.get 1 rfl).1 (H.get 2 rfl).1 (qH (H.get 3 rfl) 0 3) (H.get 4 rfl).1 (H.get 5 rfl).1 (H.get 6 rfl).1 (by first | assumption | exact (And.left (by assumption : yP _)))) ?_)
 rintro _ w4 rfl x5
 replace H := H.ext x5
 refine sps [.bool (dec (zJ s t)), .bool (dec (zJ s t))] ?_
 refine qA (t_n (xE ?_))
 refine ret1 (.bool (dec (zJ s t))) rfl rfl ⟨_, rfl, ?_, H.base⟩
 refine congrArg Value.bool (dec_eq ?_)
 first | exact ⟨fun h => ⟨‹_›, jZ h⟩, fun h => yZ h.2⟩ | (simp_all; done)

theorem l03Enabled_ok (w : World) (s : qV) (t : qQ) (r : QK) (bs os : Nat) (qw : Option Addr) (qm : Nat) (qM : List Nat) (qG : Option Addr) (qC : Nat) (xu : List Nat) (bt ot : Nat) (qP : Option Addr) (qJ : Nat) (xJ : List Nat) (xG : Option Addr) (xA : Nat) (zF : List Nat) (qL : Option Addr) (qK : Nat) (xI : List Nat) (br or : Nat) (vP : Option Addr) (vO : Nat) (Q5 : List Nat) (jv : Option Addr) (jr : Nat) (Xw : List Nat) (jb : Option Addr) (ja : Nat) (Xn : List Nat) (jL : Option Addr) (jK : Nat) (XM : List Nat) (Qy : Option Addr) (Qx : Nat) (FrOut : List Nat) (vF : Option Addr) (zU : Nat) (FrInto : List Nat) (hs : jd w bs os [.int .i64 s.qI, .slice qw s.qf.length qm, .slice qG s.qg.length qC]) (xx : qW.rep w qM [.slice qw s.qf.length qm] s.qf) (xN : qW.rep w xu [.slice qG s.qg.length qC] s.qg) (ht : jd w bt ot [.slice qP t.qh.length qJ, .slice xG t.qp.length xA, .slice qL t.ql.length qK]) (zA : qW.rep w xJ [.slice qP t.qh.length qJ] t.qh) (vC : qW.rep w zF [.slice xG t.qp.length xA] t.qp) (xZ : qW.rep w xI [.slice qL t.ql.length qK] t.ql) (hr : jd w br or [.int .i64 r.qy, .int .i64 r.zk, .slice vP r.qR.length vO, .slice jv r.xg.length jr, .slice jb r.xk.length ja, .slice jL r.xw.length jK, .slice Qy r.zo.length Qx, .slice vF r.qE.length zU, .bool r.xQ]) (hrNeed : qW.rep w Q5 [.slice vP r.qR.length vO] r.qR) (hrHave : qW.rep w Xw [.slice jv r.xg.length jr] r.xg) (hrLack : qW.rep w Xn [.slice jb r.xk.length ja] r.xk) (hrHere : qW.rep w XM [.slice jL r.xw.length jK] r.xw) (hrOut : qW.rep w FrOut [.slice Qy r.zo.length Qx] r.zo) (hrInto : qW.rep w FrInto [.slice vF r.qE.length zU] r.qE) (p0 : yP s) (p1 : zJ s t) (p2 : RuleOk s r) : Calls Try.prog 109 #[pp bs os, pp bt ot, pp br or] w (Ret (fun v w' => v = .bool (dec (EnOk s t r))) w) := by
 refine enter (n := 99) Try.func109 rfl Try.ntmps109 (Nat.le_of_ble_eq_true rfl) ?_
 have H := ((((((((((((((St.start w).arg hrInto).arg hrOut).arg hrHere).arg hrLack).arg hrHave).arg hrNeed).argAt hr).arg xZ).arg vC).arg zA).argAt ht).arg xN).arg xx).argAt hs
 have vW := qN xx
 have yh := qN xN
 have QU := qN zA
 have XA := qN vC
 have Qa := qN xZ
 have nhrNeed := qN hrNeed
 have nhrHave := qN hrHave
 have nhrLack := qN hrLack
 have nhrHere := qN hrHere
 have nhrOut := qN hrOut
 have nhrInto := qN hrInto
 clear hs xx xN ht zA vC xZ hr hrNeed hrHave hrLack hrHere hrOut hrInto
 have N := Fresh.nil w.heap.size
 have p3 := p2.1
 have p4 := p1.1
 have p5 := p1.2.1
 have p6 := (p1.bagLen (k := r.qy.toNat) (by omega)).len
 have p7 := p2.2.2.2.2.1.len
 have p8 := p2.2.2.2.2.2.1.len
 have p9 := p2.2.2.2.2.2.2.1.len
 have p10 := jF p2.2.2.2.2.2.2.1
 have p11 := p0.1
 have p12 := p2.2.2.2.2.2.2.2.2.2.2
 refine qo (qB ?_)
 refine sp (.bool false) ?_
 refine qA (t_n (qo (qo ?_)))
 refine yg rfl H fun H => ?_
 refine rtp 0 (pp bt ot) H ?_
 refine rtp 1 (pp bt ot) H ?_
 refine rt 2 (pp bt (ot + 0)) (xF bt (ot) 0 Try.underlying41 rfl rfl Try.sizeOf36 rfl) H ?_
 refine rt 3 (.slice qP t.qh.length qJ) (xm Try.isAgg36 rfl (fun _ h => h.zh 3 rfl 0 rfl)) H ?_
 refine rtp 4 (pp br or) H ?_
 refine rtp 5 (pp br or) H ?_
 refine rt 6 (pp br (or + 0)) (xF br (or) 0 Try.underlying92 rfl rfl Try.sizeOf2 rfl) H ?_
 refine rt 7 (.int .i64 r.qy) (xm Try.isAgg2 rfl (fun _ h => h.zh 7 rfl 0 rfl)) H ?_
 obtain ⟨b2, o3, rfl⟩ := H.addr 4 rfl (by omega)
 refine rt 8 (pp b2 (o3 + (r.qy : Int).toNat * 1)) (xK b2 (o3) t.qh.length qJ r.qy Try.underlying36 ti4 rfl rfl (by omega) (by omega)) H ?_
 refine rt 9 (.bool (t.qh[r.qy.toNat]!)) (xm Try.isAgg4 rfl (fun _ h => h.Xd 4 rfl r.qy (by omega) (by omega))) H ?_
 refine rtp 10 (.bool (!(t.qh[r.qy.toNat]!))) H ?_
 refine xM (by kernel_rfl) (t_n ?_)
 refine qX (!(t.qh[r.qy.toNat]!)) rfl (fun h5 => ?_) (fun h5 => ?_)
 ·skip
  replace h5 := xh h5
  refine qo (qB ?_)
  refine sp (.bool false) ?_
  refine qA (t_n (xE (t_r ?_)))
  refine ret1 (.bool false) rfl rfl ⟨_, rfl, ?_, H.base⟩
  rw [xB (fun h => by obtain ⟨h1, h2, h3, h4, h5⟩ := h; first | exact ft h1 ‹_› | exact ft h2 ‹_› | exact ft h3 ‹_› | exact h4 ⟨‹_›, ‹_›⟩ | (obtain ⟨q1, q2⟩ := h5 i (by omega); first | exact ft q1 ‹_› | exact absurd q2 ‹_›))]
 replace h5 := qY h5
 refine xy (t_n (qo ?_))
 refine yg rfl H fun H => ?_
 refine rtp 0 (pp bt ot) H ?_
 refine rtp 1 (pp bt ot) H ?_
 refine rt 2 (pp bt (ot + 1)) (xF bt (ot) 1 Try.underlying41 rfl rfl Try.sizeOf37 rfl) H ?_
 refine rt 3 (.slice xG t.qp.length xA) (xm Try.isAgg37 rfl (fun _ h => h.zh 3 rfl 1 rfl)) H ?_
 refine rtp 4 (pp br or) H ?_
 refine rtp 5 (pp br or) H ?_
 refine rt 6 (pp br (or + 0)) (xF br (or) 0 Try.underlying92 rfl rfl Try.sizeOf2 rfl) H ?_
 refine rt 7 (.int .i64 r.qy) (xm Try.isAgg2 rfl (fun _ h => h.zh 7 rfl 0 rfl)) H ?_
 obtain ⟨b7, o8, rfl⟩ := H.addr 5 rfl (by omega)
 obtain ⟨ae10, ce10, Fe10, H⟩ := H.yY 5 rfl r.qy r.qy.toNat (by omega) (by omega) (by omega)
 refine rt 8 (pp b7 (o8 + (r.qy : Int).toNat * 1)) (xK b7 (o8) t.qp.length xA r.qy Try.underlying37 ti22 rfl rfl (by omega) (by omega)) (H.pick [] [2, 3, 4, 5, 6, 7, 8, 9, 10, 11, 12, 13, 14, 15]) ?_
 refine xn [9] (by kernel_rfl) (by simp) (zg rfl ?_ xq)
 refine qF (.slice ae10 ((t.qp[r.qy.toNat]!).length) ce10) Try.isAgg22 rfl (H.zh 1 rfl 0 rfl) ?_
 refine ⟨H.pick [] [2, 3, 4, 5, 6, 7, 8, 9, 10, 11, 12, 13, 14, 15], ?_⟩
 refine rtp 10 (.slice ae10 ((t.qp[r.qy.toNat]!).length) ce10) (H.pick [] [2, 3, 4, 5, 6, 7, 8, 9, 10, 11, 12, 13, 14, 15]) ?_
 refine xM (by kernel_rfl) (t_n ?_)
 refine qo (qo (qB ?_))
 refine sps [pp br or, pp br or] ?_
 refine sw (qO br (or) 2 Try.underlying92 rfl rfl Try.sizeOf22 rfl ?_)
 refine sw (qF (.slice vP r.qR.length vO) Try.isAgg22 rfl (H.zh 9 rfl 2 rfl) ?_)
 refine sp (.slice ae10 ((t.qp[r.qy.toNat]!).length) ce10) ?_
 refine sw (xf #[.slice vP r.qR.length vO, .slice ae10 ((t.qp[r.qy.toNat]!).length) ce10] rfl rfl Try.call121 (l01Within_ok w.drew.drew r.qR (t.qp[r.qy.toNat]!) vP vO Q5 ae10 ce10 Fe10 (H.get 10 rfl).1 (H.get 0 rfl).1 (by first | assumption | omega)) ?_)
 rintro _ w12 rfl x13
 replace H := H.ext x13
 refine sps [.bool (!(within r.qR (t.qp[r.qy.toNat]!))), .bool (!(within r.qR (t.qp[r.qy.toNat]!)))] ?_
 cases h14 : (!(within r.qR (t.qp[r.qy.toNat]!)))
 ·skip
  replace h14 := qY h14
  refine qU 38 rfl rfl ?_
  refine sp (pp br or) ?_
  refine qU 38 rfl rfl ?_
  refine sp (pp br or) ?_
  refine qU 38 rfl rfl ?_
  refine sw (qO br (or) 3 Try.underlying92 rfl rfl Try.sizeOf22 rfl ?_)
  refine qU 38 rfl rfl ?_
  refine sw (qF (.slice jv r.xg.length jr) Try.isAgg22 rfl (H.zh 9 rfl 3 rfl) ?_)
  refine qU 38 rfl rfl ?_
  refine sp (.slice ae10 ((t.qp[r.qy.toNat]!).length) ce10) ?_
  refine qU 38 rfl rfl ?_
  refine sw (xf #[.slice jv r.xg.length jr, .slice ae10 ((t.qp[r.qy.toNat]!).length) ce10] rfl rfl Try.call121 (l01Within_ok w12 r.xg (t.qp[r.qy.toNat]!) jv jr Xw ae10 ce10 Fe10 (H.get 11 rfl).1 (H.get 0 rfl).1 (by first | assumption | omega)) ?_)
  rintro _ w16 rfl x17
  replace H := H.ext x17
  refine qU 38 rfl rfl ?_
  refine sps [.bool (!(within r.xg (t.qp[r.qy.toNat]!))), .bool (!(within r.xg (t.qp[r.qy.toNat]!))), .bool (!(within r.xg (t.qp[r.qy.toNat]!)))] ?_
  cases h18 : (!(within r.xg (t.qp[r.qy.toNat]!)))
  ·skip
   replace h18 := qY h18
   refine qU 47 rfl rfl ?_
   refine sp (pp br or) ?_
   refine qU 47 rfl rfl ?_
   refine sp (pp br or) ?_
   refine qU 47 rfl rfl ?_
   refine sw (qO br (or) 4 Try.underlying92 rfl rfl Try.sizeOf22 rfl ?_)
   refine qU 47 rfl rfl ?_
   refine sw (qF (.slice jb r.xk.length ja) Try.isAgg22 rfl (H.zh 9 rfl 4 rfl) ?_)
   refine qU 47 rfl rfl ?_
   refine sw (xf #[.slice jb r.xk.length ja] rfl rfl Try.call106 (l01Size_ok w16 r.xk jb ja Xn (H.get 12 rfl).1 (by first | assumption | exact jF (by assumption) | exact Xm (by assumption))) ?_)
   rintro _ w19 rfl x20
   replace H := H.ext x20
   refine qU 47 rfl rfl ?_
   refine sp (.bool (decide ((sumL r.xk : Int) > 0))) ?_
   refine qU 47 rfl rfl ?_
   refine sp (.bool (decide ((sumL r.xk : Int) > 0))) ?_
   cases h21 : (decide ((sumL r.xk : Int) > 0))
   ·skip
    replace h21 := of_decide_eq_false h21
    refine zi [55, 56, 57, 58, 59, 60] ?_
    refine qU 47 rfl rfl ?_
    refine sps [.bool false, .bool false] ?_
    refine qA (t_n ?_)
    refine qX false rfl (fun h => absurd h (by decide)) (fun _ => ?_)
    refine xy (t_n (qo (qo (qB ?_))))
    refine sp (.int .i64 0) ?_
    refine qA (t_n (xC ?_))
    refine vw (fun m' ρ w22 => ∃ (junk : Env) (i : Nat), ρ = upd (upd (upd (upd junk 0 (pp bs os)) 1 (pp bt ot)) 2 (pp br or)) 8 (.int .i64 i) ∧ ((i : Int) ≤ r.qE.length) ∧ (IntoUp s t r i) ∧ m' = (r.qE.length - (i : Int)).toNat ∧ Fresh w.heap.size [] ∧ St w w22 [] [isF false Fe10 (.slice ae10 ((t.qp[r.qy.toNat]!).length) ce10) (t.qp[r.qy.toNat]!), atF b7 (o8 + (r.qy : Int).toNat * 1) [.slice ae10 ((t.qp[r.qy.toNat]!).length) ce10], atF bs os [.int .i64 s.qI, .slice qw s.qf.length qm, .slice qG s.qg.length qC], isF false qM (.slice qw s.qf.length qm) s.qf, isF false xu (.slice qG s.qg.length qC) s.qg, atF bt ot [.slice (aa b2 o3) t.qh.length qJ, .slice (aa b7 o8) t.qp.length xA, .slice qL t.ql.length qK], isF false xJ (.slice (aa b2 o3) t.qh.length qJ) t.qh, isF false zF (.slice (aa b7 o8) t.qp.length xA) t.qp, isF false xI (.slice qL t.ql.length qK) t.ql, atF br or [.int .i64 r.qy, .int .i64 r.zk, .slice vP r.qR.length vO, .slice jv r.xg.length jr, .slice jb r.xk.length ja, .slice jL r.xw.length jK, .slice Qy r.zo.length Qx, .slice vF r.qE.length zU, .bool r.xQ], isF false Q5 (.slice vP r.qR.length vO) r.qR, isF false Xw (.slice jv r.xg.length jr) r.xg, isF false Xn (.slice jb r.xk.length ja) r.xk, isF false XM (.slice jL r.xw.length jK) r.xw, isF false FrOut (.slice Qy r.zo.length Qx) r.zo, isF false FrInto (.slice vF r.qE.length zU) r.qE]) ((r.qE.length - (0 : Int)).toNat) ⟨_, 0, (by exact qj (qj (qj (qj (rfl) rfl) rfl) rfl) rfl), (by omega), (by exact fun j hj => by omega), rfl, N, H⟩ ?_
    clear H N
    rintro m' ρ w23 ⟨junk, i, rfl, i0, i1, rfl, N, H⟩
    refine qo (qo (qB ?_))
    refine sps [.int .i64 i, pp br or, pp br or] ?_
    refine sw (qO br (or) 7 Try.underlying92 rfl rfl Try.sizeOf90 rfl ?_)
    refine sw (qF (.slice vF r.qE.length zU) Try.isAgg90 rfl (H.zh 9 rfl 7 rfl) ?_)
    refine sw (vI Try.underlying90 vF r.qE.length zU rfl ?_)
    refine sp (.bool (decide ((i : Int) < r.qE.length))) ?_
    refine qA (t_n ?_)
    refine qX (decide ((i : Int) < r.qE.length)) rfl (fun h24 => ?_) (fun h24 => ?_)
    ·skip
     replace h24 := of_decide_eq_true h24
     have q := (p12 i (by omega)).1
     have q1 := q.1
     have q2 := q.2
     refine xy (t_n (qo (xC (qo (qB ?_)))))
     refine sps [pp br or, pp br or] ?_
     refine sw (qO br (or) 7 Try.underlying92 rfl rfl Try.sizeOf90 rfl ?_)
     refine sw (qF (.slice vF r.qE.length zU) Try.isAgg90 rfl (H.zh 9 rfl 7 rfl) ?_)
     refine sp (.int .i64 i) ?_
     obtain ⟨b25, o26, rfl⟩ := H.addr 15 rfl (by omega)
     obtain ⟨ae28Bag, ce28Bag, Fe28Bag, H⟩ := H.jQ 15 rfl i i (by omega) (by omega) (by omega)
     refine sw (xO i Try.underlying90 ti108 rfl rfl (by omega) (by omega) ?_)
     refine sw (qO b25 (o26 + (i : Int).toNat * 2) 0 Try.underlying108 rfl rfl Try.sizeOf2 rfl ?_)
     refine sw (qF (.int .i64 ((r.qE[i]!).qy)) Try.isAgg2 rfl (H.zh 1 rfl 0 rfl) ?_)
     refine sp (.int .i64 ((r.qE[i]!).qy)) ?_
     refine qA (t_n (qo ?_))
     refine yg rfl H fun H => ?_
     refine rtp 0 (pp bt ot) H ?_
     refine rtp 1 (pp bt ot) H ?_
     refine rt 2 (pp bt (ot + 0)) (xF bt (ot) 0 Try.underlying41 rfl rfl Try.sizeOf36 rfl) H ?_
     refine rt 3 (.slice (aa b2 o3) t.qh.length qJ) (xm Try.isAgg36 rfl (fun _ h => h.zh 7 rfl 0 rfl)) H ?_
     refine rtp 4 (.int .i64 ((r.qE[i]!).qy)) H ?_
     refine rt 5 (pp b2 (o3 + ((r.qE[i]!).qy : Int).toNat * 1)) (xK b2 (o3) t.qh.length qJ ((r.qE[i]!).qy) Try.underlying36 ti4 rfl rfl (by omega) (by omega)) H ?_
     refine rt 6 (.bool (t.qh[((r.qE[i]!).qy).toNat]!)) (xm Try.isAgg4 rfl (fun _ h => h.Xd 8 rfl ((r.qE[i]!).qy) (by omega) (by omega))) H ?_
     refine rtp 7 (.bool (!(t.qh[((r.qE[i]!).qy).toNat]!))) H ?_
     refine rtp 8 (.bool (!(t.qh[((r.qE[i]!).qy).toNat]!))) H ?_
     cases h30 : (!(t.qh[((r.qE[i]!).qy).toNat]!))
     ·skip
      replace h30 := qY h30
      refine rgp 9 (pp bs os) 88 H ?_
      refine rgp 10 (pp bt ot) 88 H ?_
      refine rgp 11 (.int .i64 ((r.qE[i]!).qy)) 88 H ?_
      refine rgp 13 (pp br or) 88 H ?_
      refine rgp 14 (pp br or) 88 H ?_
      refine rg 15 (pp br (or + 0)) 88 (xF br (or) 0 Try.underlying92 rfl rfl Try.sizeOf2 rfl) H ?_
      refine rg 16 (.int .i64 r.qy) 88 (xm Try.isAgg2 rfl (fun _ h => h.zh 11 rfl 0 rfl)) H ?_
      refine xn [12] (by kernel_rfl) (by simp) (r_opG rfl (e := 88) rfl rfl ?_ xq)
      refine xf #[pp bs os, pp bt ot, .int .i64 ((r.qE[i]!).qy)] rfl rfl Try.call78 (l02Parent_ok w23.drew s t ((r.qE[i]!).qy) bs os qw qm qM qG qC xu bt ot (aa b2 o3) qJ xJ (aa b7 o8) xA zF qL qK xI (qH (H.get 4 rfl) 0 3) (H.get 5 rfl).1 (H.get 6 rfl).1 (qH (H.get 7 rfl) 0 3) (H.get 8 rfl).1 (H.get 9 rfl).1 (H.get 10 rfl).1 (by assumption) (by assumption) (by assumption)) ?_
      rintro _ w31 rfl x32
      replace H := H.ext x32
      refine ⟨H, ?_⟩
      refine rgp 17 (.bool ((xe s t ((r.qE[i]!).qy) : Int) != r.qy)) 88 H ?_
      refine rtp 18 (.bool ((xe s t ((r.qE[i]!).qy) : Int) != r.qy)) H ?_
      refine xM (by kernel_rfl) (t_n ?_)
      refine qX ((xe s t ((r.qE[i]!).qy) : Int) != r.qy) rfl (fun h33 => ?_) (fun h33 => ?_)
      ·skip
       replace h33 := bne_iff_ne.1 h33
       refine qo (qB ?_)
       refine sp (.bool false) ?_
       refine qA (t_n (xE (b_r (t_r (t_r (b_r (t_r ?_)))))))
       refine ret1 (.bool false) rfl rfl ⟨_, rfl, ?_, H.base⟩
       rw [xB (fun h => by obtain ⟨h1, h2, h3, h4, h5⟩ := h; first | exact ft h1 ‹_› | exact ft h2 ‹_› | exact ft h3 ‹_› | exact h4 ⟨‹_›, ‹_›⟩ | (obtain ⟨q1, q2⟩ := h5 i (by omega); first | exact ft q1 ‹_› | exact absurd q2 ‹_›))]
      replace h33 := xP h33
      refine xy (b_n (t_n (qB ?_)))
      refine sp (.int .i64 i) ?_
      refine sw (vz i 1 rfl rfl (by omega) ?_)
      refine sp (.int .i64 (i + 1)) ?_
      refine qA ?_
      refine xH (m' := (r.qE.length - ((i + 1) : Int)).toNat) (by omega) ⟨_, i + 1, (by exact qj (qj (qj (qj (rfl) rfl) rfl) rfl) rfl), ?_, ?_, rfl, N, H.pick [] [2, 3, 4, 5, 6, 7, 8, 9, 10, 11, 12, 13, 14, 15, 16, 17]⟩
      · omega
      · exact i1.succ ‹_› ‹_›
     replace h30 := xh h30
     refine zS [9, 10, 11, 12, 13, 14, 15, 16, 17] 9 (H) ?_
     refine rtp 18 (.bool true) H ?_
     refine xM (by kernel_rfl) (t_n ?_)
     refine qX true rfl (fun _ => ?_) (fun h => absurd h (by decide))
     refine qo (qB ?_)
     refine sp (.bool false) ?_
     refine qA (t_n (xE (b_r (t_r (t_r (b_r (t_r ?_)))))))
     refine ret1 (.bool false) rfl rfl ⟨_, rfl, ?_, H.base⟩
     rw [xB (fun h => by obtain ⟨h1, h2, h3, h4, h5⟩ := h; first | exact ft h1 ‹_› | exact ft h2 ‹_› | exact ft h3 ‹_› | exact h4 ⟨‹_›, ‹_›⟩ | (obtain ⟨q1, q2⟩ := h5 i (by omega); first | exact ft q1 ‹_› | exact absurd q2 ‹_›))]
    replace h24 := of_decide_eq_false h24
    refine ve (t_x (t_x (b_x (t_n (qo (qB ?_))))))
    refine sp (.bool true) ?_
    refine qA (t_n (xE ?_))
    refine ret1 (.bool true) rfl rfl ⟨_, rfl, ?_, H.base⟩
    rw [yZ ⟨by assumption, by assumption, by assumption, fun ⟨u, v⟩ => by first | omega | exact ft v ‹_›, (show i = r.qE.length by omega) ▸ i1⟩]
   replace h21 := of_decide_eq_true h21
   refine qU 54 rfl rfl ?_
   refine sp (pp br or) ?_
   refine qU 54 rfl rfl ?_
   refine sp (pp br or) ?_
   refine qU 54 rfl rfl ?_
   refine sw (qO br (or) 4 Try.underlying92 rfl rfl Try.sizeOf22 rfl ?_)
   refine qU 54 rfl rfl ?_
   refine sw (qF (.slice jb r.xk.length ja) Try.isAgg22 rfl (H.zh 9 rfl 4 rfl) ?_)
   refine qU 54 rfl rfl ?_
   refine sp (.slice ae10 ((t.qp[r.qy.toNat]!).length) ce10) ?_
   refine qU 54 rfl rfl ?_
   refine sw (xf #[.slice jb r.xk.length ja, .slice ae10 ((t.qp[r.qy.toNat]!).length) ce10] rfl rfl Try.call121 (l01Within_ok w19 r.xk (t.qp[r.qy.toNat]!) jb ja Xn ae10 ce10 Fe10 (H.get 12 rfl).1 (H.get 0 rfl).1 (by first | assumption | omega)) ?_)
   rintro _ w35 rfl x36
   replace H := H.ext x36
   refine qU 47 rfl rfl ?_
   refine sps [.bool (within r.xk (t.qp[r.qy.toNat]!)), .bool (within r.xk (t.qp[r.qy.toNat]!))] ?_
   refine qA (t_n ?_)
   refine qX (within r.xk (t.qp[r.qy.toNat]!)) rfl (fun h37 => ?_) (fun h37 => ?_)
   ·skip
    refine qo (qB ?_)
    refine sp (.bool false) ?_
    refine qA (t_n (xE (t_r ?_)))
    refine ret1 (.bool false) rfl rfl ⟨_, rfl, ?_, H.base⟩
    rw [xB (fun h => by obtain ⟨h1, h2, h3, h4, h5⟩ := h; first | exact ft h1 ‹_› | exact ft h2 ‹_› | exact ft h3 ‹_› | exact h4 ⟨‹_›, ‹_›⟩ | (obtain ⟨q1, q2⟩ := h5 i (by omega); first | exact ft q1 ‹_› | exact absurd q2 ‹_›))]
   refine xy (t_n (qo (qo (qB ?_))))
   refine sp (.int .i64 0) ?_
   refine qA (t_n (xC ?_))
   refine vw (fun m' ρ w38 => ∃ (junk : Env) (i : Nat), ρ = upd (upd (upd (upd junk 0 (pp bs os)) 1 (pp bt ot)) 2 (pp br or)) 8 (.int .i64 i) ∧ ((i : Int) ≤ r.qE.length) ∧ (IntoUp s t r i) ∧ m' = (r.qE.length - (i : Int)).toNat ∧ Fresh w.heap.size [] ∧ St w w38 [] [isF false Fe10 (.slice ae10 ((t.qp[r.qy.toNat]!).length) ce10) (t.qp[r.qy.toNat]!), atF b7 (o8 + (r.qy : Int).toNat * 1) [.slice ae10 ((t.qp[r.qy.toNat]!).length) ce10], atF bs os [.int .i64 s.qI, .slice qw s.qf.length qm, .slice qG s.qg.length qC], isF false qM (.slice qw s.qf.length qm) s.qf, isF false xu (.slice qG s.qg.length qC) s.qg, atF bt ot [.slice (aa b2 o3) t.qh.length qJ, .slice (aa b7 o8) t.qp.length xA, .slice qL t.ql.length qK], isF false xJ (.slice (aa b2 o3) t.qh.length qJ) t.qh, isF false zF (.slice (aa b7 o8) t.qp.length xA) t.qp, isF false xI (.slice qL t.ql.length qK) t.ql, atF br or [.int .i64 r.qy, .int .i64 r.zk, .slice vP r.qR.length vO, .slice jv r.xg.length jr, .slice jb r.xk.length ja, .slice jL r.xw.length jK, .slice Qy r.zo.length Qx, .slice vF r.qE.length zU, .bool r.xQ], isF false Q5 (.slice vP r.qR.length vO) r.qR, isF false Xw (.slice jv r.xg.length jr) r.xg, isF false Xn (.slice jb r.xk.length ja) r.xk, isF false XM (.slice jL r.xw.length jK) r.xw, isF false FrOut (.slice Qy r.zo.length Qx) r.zo, isF false FrInto (.slice vF r.qE.length zU) r.qE]) ((r.qE.length - (0 : Int)).toNat) ⟨_, 0, (by exact qj (qj (qj (qj (rfl) rfl) rfl) rfl) rfl), (by omega), (by exact fun j hj => by omega), rfl, N, H⟩ ?_
   clear H N
   rintro m' ρ w39 ⟨junk, i, rfl, i0, i1, rfl, N, H⟩
   refine qo (qo (qB ?_))
   refine sps [.int .i64 i, pp br or, pp br or] ?_
   refine sw (qO br (or) 7 Try.underlying92 rfl rfl Try.sizeOf90 rfl ?_)
   refine sw (qF (.slice vF r.qE.length zU) Try.isAgg90 rfl (H.zh 9 rfl 7 rfl) ?_)
   refine sw (vI Try.underlying90 vF r.qE.length zU rfl ?_)
   refine sp (.bool (decide ((i : Int) < r.qE.length))) ?_
   refine qA (t_n ?_)
   refine qX (decide ((i : Int) < r.qE.length)) rfl (fun h40 => ?_) (fun h40 => ?_)
   ·skip
    replace h40 := of_decide_eq_true h40
    have q := (p12 i (by omega)).1
    have q1 := q.1
    have q2 := q.2
    refine xy (t_n (qo (xC (qo (qB ?_)))))
    refine sps [pp br or, pp br or] ?_
    refine sw (qO br (or) 7 Try.underlying92 rfl rfl Try.sizeOf90 rfl ?_)
    refine sw (qF (.slice vF r.qE.length zU) Try.isAgg90 rfl (H.zh 9 rfl 7 rfl) ?_)
    refine sp (.int .i64 i) ?_
    obtain ⟨b41, o42, rfl⟩ := H.addr 15 rfl (by omega)
    obtain ⟨ae44Bag, ce44Bag, Fe44Bag, H⟩ := H.jQ 15 rfl i i (by omega) (by omega) (by omega)
    refine sw (xO i Try.underlying90 ti108 rfl rfl (by omega) (by omega) ?_)
    refine sw (qO b41 (o42 + (i : Int).toNat * 2) 0 Try.underlying108 rfl rfl Try.sizeOf2 rfl ?_)
    refine sw (qF (.int .i64 ((r.qE[i]!).qy)) Try.isAgg2 rfl (H.zh 1 rfl 0 rfl) ?_)
    refine sp (.int .i64 ((r.qE[i]!).qy)) ?_
    refine qA (t_n (qo ?_))
    refine yg rfl H fun H => ?_
    refine rtp 0 (pp bt ot) H ?_
    refine rtp 1 (pp bt ot) H ?_
    refine rt 2 (pp bt (ot + 0)) (xF bt (ot) 0 Try.underlying41 rfl rfl Try.sizeOf36 rfl) H ?_
    refine rt 3 (.slice (aa b2 o3) t.qh.length qJ) (xm Try.isAgg36 rfl (fun _ h => h.zh 7 rfl 0 rfl)) H ?_
    refine rtp 4 (.int .i64 ((r.qE[i]!).qy)) H ?_
    refine rt 5 (pp b2 (o3 + ((r.qE[i]!).qy : Int).toNat * 1)) (xK b2 (o3) t.qh.length qJ ((r.qE[i]!).qy) Try.underlying36 ti4 rfl rfl (by omega) (by omega)) H ?_
    refine rt 6 (.bool (t.qh[((r.qE[i]!).qy).toNat]!)) (xm Try.isAgg4 rfl (fun _ h => h.Xd 8 rfl ((r.qE[i]!).qy) (by omega) (by omega))) H ?_
    refine rtp 7 (.bool (!(t.qh[((r.qE[i]!).qy).toNat]!))) H ?_
    refine rtp 8 (.bool (!(t.qh[((r.qE[i]!).qy).toNat]!))) H ?_
    cases h46 : (!(t.qh[((r.qE[i]!).qy).toNat]!))
    ·skip
     replace h46 := qY h46
     refine rgp 9 (pp bs os) 88 H ?_
     refine rgp 10 (pp bt ot) 88 H ?_
     refine rgp 11 (.int .i64 ((r.qE[i]!).qy)) 88 H ?_
     refine rgp 13 (pp br or) 88 H ?_
     refine rgp 14 (pp br or) 88 H ?_
     refine rg 15 (pp br (or + 0)) 88 (xF br (or) 0 Try.underlying92 rfl rfl Try.sizeOf2 rfl) H ?_
     refine rg 16 (.int .i64 r.qy) 88 (xm Try.isAgg2 rfl (fun _ h => h.zh 11 rfl 0 rfl)) H ?_
     refine xn [12] (by kernel_rfl) (by simp) (r_opG rfl (e := 88) rfl rfl ?_ xq)
     refine xf #[pp bs os, pp bt ot, .int .i64 ((r.qE[i]!).qy)] rfl rfl Try.call78 (l02Parent_ok w39.drew s t ((r.qE[i]!).qy) bs os qw qm qM qG qC xu bt ot (aa b2 o3) qJ xJ (aa b7 o8) xA zF qL qK xI (qH (H.get 4 rfl) 0 3) (H.get 5 rfl).1 (H.get 6 rfl).1 (qH (H.get 7 rfl) 0 3) (H.get 8 rfl).1 (H.get 9 rfl).1 (H.get 10 rfl).1 (by assumption) (by assumption) (by assumption)) ?_
     rintro _ w47 rfl x48
     replace H := H.ext x48
     refine ⟨H, ?_⟩
     refine rgp 17 (.bool ((xe s t ((r.qE[i]!).qy) : Int) != r.qy)) 88 H ?_
     refine rtp 18 (.bool ((xe s t ((r.qE[i]!).qy) : Int) != r.qy)) H ?_
     refine xM (by kernel_rfl) (t_n ?_)
     refine qX ((xe s t ((r.qE[i]!).qy) : Int) != r.qy) rfl (fun h49 => ?_) (fun h49 => ?_)
     ·skip
      replace h49 := bne_iff_ne.1 h49
      refine qo (qB ?_)
      refine sp (.bool false) ?_
      refine qA (t_n (xE (b_r (t_r (t_r (b_r (t_r ?_)))))))
      refine ret1 (.bool false) rfl rfl ⟨_, rfl, ?_, H.base⟩
      rw [xB (fun h => by obtain ⟨h1, h2, h3, h4, h5⟩ := h; first | exact ft h1 ‹_› | exact ft h2 ‹_› | exact ft h3 ‹_› | exact h4 ⟨‹_›, ‹_›⟩ | (obtain ⟨q1, q2⟩ := h5 i (by omega); first | exact ft q1 ‹_› | exact absurd q2 ‹_›))]
     replace h49 := xP h49
     refine xy (b_n (t_n (qB ?_)))
     refine sp (.int .i64 i) ?_
     refine sw (vz i 1 rfl rfl (by omega) ?_)
     refine sp (.int .i64 (i + 1)) ?_
     refine qA ?_
     refine xH (m' := (r.qE.length - ((i + 1) : Int)).toNat) (by omega) ⟨_, i + 1, (by exact qj (qj (qj (qj (rfl) rfl) rfl) rfl) rfl), ?_, ?_, rfl, N, H.pick [] [2, 3, 4, 5, 6, 7, 8, 9, 10, 11, 12, 13, 14, 15, 16, 17]⟩
     · omega
     · exact i1.succ ‹_› ‹_›
    replace h46 := xh h46
    refine zS [9, 10, 11, 12, 13, 14, 15, 16, 17] 9 (H) ?_
    refine rtp 18 (.bool true) H ?_
    refine xM (by kernel_rfl) (t_n ?_)
    refine qX true rfl (fun _ => ?_) (fun h => absurd h (by decide))
    refine qo (qB ?_)
    refine sp (.bool false) ?_
    refine qA (t_n (xE (b_r (t_r (t_r (b_r (t_r ?_)))))))
    refine ret1 (.bool false) rfl rfl ⟨_, rfl, ?_, H.base⟩
    rw [xB (fun h => by obtain ⟨h1, h2, h3, h4, h5⟩ := h; first | exact ft h1 ‹_› | exact ft h2 ‹_› | exact ft h3 ‹_› | exact h4 ⟨‹_›, ‹_›⟩ | (obtain ⟨q1, q2⟩ := h5 i (by omega); first | exact ft q1 ‹_› | exact absurd q2 ‹_›))]
   replace h40 := of_decide_eq_false h40
   refine ve (t_x (t_x (b_x (t_n (qo (qB ?_))))))
   refine sp (.bool true) ?_
   refine qA (t_n (xE ?_))
   refine ret1 (.bool true) rfl rfl ⟨_, rfl, ?_, H.base⟩
   rw [yZ ⟨by assumption, by assumption, by assumption, fun ⟨u, v⟩ => by first | omega | exact ft v ‹_›, (show i = r.qE.length by omega) ▸ i1⟩]
  replace h18 := xh h18
  refine zi [48, 49, 50, 51, 52, 53, 54, 55, 56, 57, 58, 59, 60, 61] ?_
  refine sp (.bool true) ?_
  refine qA (t_n ?_)
  refine qX true rfl (fun _ => ?_) (fun h => absurd h (by decide))
  refine qo (qB ?_)
  refine sp (.bool false) ?_
  refine qA (t_n (xE (t_r ?_)))
  refine ret1 (.bool false) rfl rfl ⟨_, rfl, ?_, H.base⟩
  rw [xB (fun h => by obtain ⟨h1, h2, h3, h4, h5⟩ := h; first | exact ft h1 ‹_› | exact ft h2 ‹_› | exact ft h3 ‹_› | exact h4 ⟨‹_›, ‹_›⟩ | (obtain ⟨q1, q2⟩ := h5 i (by omega); first | exact ft q1 ‹_› | exact absurd q2 ‹_›))]
 replace h14 := xh h14
 refine zi [39, 40, 41, 42, 43, 44, 45] ?_
 refine sps [.bool true, .bool true] ?_
 refine zi [48, 49, 50, 51, 52, 53, 54, 55, 56, 57, 58, 59, 60, 61] ?_
 refine sp (.bool true) ?_
 refine qA (t_n ?_)
 refine qX true rfl (fun _ => ?_) (fun h => absurd h (by decide))
 refine qo (qB ?_)
 refine sp (.bool false) ?_
 refine qA (t_n (xE (t_r ?_)))
 refine ret1 (.bool false) rfl rfl ⟨_, rfl, ?_, H.base⟩
 rw [xB (fun h => by obtain ⟨h1, h2, h3, h4, h5⟩ := h; first | exact ft h1 ‹_› | exact ft h2 ‹_› | exact ft h3 ‹_› | exact h4 ⟨‹_›, ‹_›⟩ | (obtain ⟨q1, q2⟩ := h5 i (by omega); first | exact ft q1 ‹_› | exact absurd q2 ‹_›))]

theorem l03Applicable_ok (w : World) (s : qV) (t : qQ) (bs os : Nat) (qw : Option Addr) (qm : Nat) (qM : List Nat) (qG : Option Addr) (qC : Nat) (xu : List Nat) (bt ot : Nat) (qP : Option Addr) (qJ : Nat) (xJ : List Nat) (xG : Option Addr) (xA : Nat) (zF : List Nat) (qL : Option Addr) (qK : Nat) (xI : List Nat) (hs : jd w bs os [.int .i64 s.qI, .slice qw s.qf.length qm, .slice qG s.qg.length qC]) (xx : qW.rep w qM [.slice qw s.qf.length qm] s.qf) (xN : qW.rep w xu [.slice qG s.qg.length qC] s.qg) (ht : jd w bt ot [.slice qP t.qh.length qJ, .slice xG t.qp.length xA, .slice qL t.ql.length qK]) (zA : qW.rep w xJ [.slice qP t.qh.length qJ] t.qh) (vC : qW.rep w zF [.slice xG t.qp.length xA] t.qp) (xZ : qW.rep w xI [.slice qL t.ql.length qK] t.ql) (p0 : yP s) (p1 : zJ s t) : Calls Try.prog 86 #[pp bs os, pp bt ot] w (Ret (fun v w' => ∃ (ra : Option Addr) (rn : Nat) (rc : Nat), v = .slice ra rn rc ∧ Fresh w.heap.size [] ∧ St w w' [.row (.slice ra rn rc) 4 1 rn ((appl s t).map (Value.bool))] []) w) := by
 refine enter (n := 99) Try.func86 rfl Try.ntmps86 (Nat.le_of_ble_eq_true rfl) ?_
 have H := (((((((St.start w).arg xZ).arg vC).arg zA).argAt ht).arg xN).arg xx).argAt hs
 have vW := qN xx
 have yh := qN xN
 have QU := qN zA
 have XA := qN vC
 have Qa := qN xZ
 clear hs xx xN ht zA vC xZ
 have N := Fresh.nil w.heap.size
 have p2 := p0.2.1
 have p3 := p0.1.2.1
 refine qo (qB ?_)
 refine sp (.slice none 0 0) ?_
 refine qA (t_n (qo (qB ?_)))
 refine sps [pp bs os, pp bs os] ?_
 refine sw (qO bs (os) 1 Try.underlying30 rfl rfl Try.sizeOf22 rfl ?_)
 refine sw (qF (.slice qw s.qf.length qm) Try.isAgg22 rfl (H.zh 0 rfl 1 rfl) ?_)
 refine sw (vI Try.underlying22 qw s.qf.length qm rfl ?_)
 refine sw (o_makeI H Try.underlying22 ti2 s.qf.length rfl rfl (by omega) (by omega) (by omega) fun b1 w2 H => ?_)
 refine sp (.slice (aa b1 0) s.qf.length s.qf.length) ?_
 refine qA (t_n (qo (qB ?_)))
 refine sw (XQ H Try.underlying36 ti4 fun b3 w4 H => ?_)
 refine sp (.slice (aa b3 0) 0 0) ?_
 refine qA (t_n (qo (qo (qB ?_))))
 refine sp (.int .i64 0) ?_
 refine qA (t_n (xC ?_))
 replace H := H.boxRowB 0 [] 0
 try dsimp only [List.set] at H
 refine vw (fun m' ρ w5 => ∃ (junk : Env) (Vf : Option Addr) (Qz : Nat) (XC : Nat) (out : List Bool) (i : Nat) (best : List Int), ρ = upd (upd (upd (upd (upd junk 0 (pp bs os)) 1 (pp bt ot)) 5 (.slice (aa b1 0) s.qf.length s.qf.length)) 6 (.slice Vf Qz XC)) 7 (.int .i64 i) ∧ out = applB s t 0 i ∧ best = bests s t 0 s.qf.length i ∧ ((i : Int) ≤ s.qg.length) ∧ m' = (s.qg.length - (i : Int)).toNat ∧ Fresh w.heap.size [] ∧ St w w5 [.row (.slice Vf Qz XC) 4 1 Qz (out.map (Value.bool)), .row (.slice (aa b1 0) s.qf.length s.qf.length) 2 1 s.qf.length (best.map (Value.int .i64))] [atF bs os [.int .i64 s.qI, .slice qw s.qf.length qm, .slice qG s.qg.length qC], isF false qM (.slice qw s.qf.length qm) s.qf, isF false xu (.slice qG s.qg.length qC) s.qg, atF bt ot [.slice qP t.qh.length qJ, .slice xG t.qp.length xA, .slice qL t.ql.length qK], isF false xJ (.slice qP t.qh.length qJ) t.qh, isF false zF (.slice xG t.qp.length xA) t.qp, isF false xI (.slice qL t.ql.length qK) t.ql]) ((s.qg.length - (0 : Int)).toNat) ⟨_, (aa b3 0), 0, 0, ([] : List Bool), 0, (List.replicate s.qf.length (0 : Int)), (by exact qj (qj (qj (qj (qj (rfl) rfl) rfl) rfl) rfl) rfl), (by rfl), (by exact bests_zero s t 0 _), (by omega), rfl, N, H⟩ ?_
 clear H N
 rintro m' ρ w6 ⟨junk, Vf, Qz, XC, out, i, best, rfl, rfl, rfl, i0, rfl, N, H⟩
 have hn_out := H.QE 0 rfl
 have hn_best := H.QD 1 rfl
 have bl := Xv s t 0 s.qf.length i
 have al := applB_len s t 0 i
 refine qo (qo (qB ?_))
 refine sps [.int .i64 i, pp bs os, pp bs os] ?_
 refine sw (qO bs (os) 2 Try.underlying30 rfl rfl Try.sizeOf28 rfl ?_)
 refine sw (qF (.slice qG s.qg.length qC) Try.isAgg28 rfl (H.zh 0 rfl 2 rfl) ?_)
 refine sw (vI Try.underlying28 qG s.qg.length qC rfl ?_)
 refine sp (.bool (decide ((i : Int) < s.qg.length))) ?_
 refine qA (t_n ?_)
 refine qX (decide ((i : Int) < s.qg.length)) rfl (fun h7 => ?_) (fun h7 => ?_)
 ·skip
  replace h7 := of_decide_eq_true h7
  have q := p0.rule (i := i) (by omega)
  have qc := q.1
  have qk := q.cell
  have qr := q.2.1
  refine xy (t_n (qo (xC (qo (qB ?_)))))
  refine sps [pp bs os, pp bs os] ?_
  refine sw (qO bs (os) 2 Try.underlying30 rfl rfl Try.sizeOf28 rfl ?_)
  refine sw (qF (.slice qG s.qg.length qC) Try.isAgg28 rfl (H.zh 0 rfl 2 rfl) ?_)
  refine sp (.int .i64 i) ?_
  obtain ⟨b8, o9, rfl⟩ := H.addr 2 rfl (by omega)
  obtain ⟨ae11Need, ce11Need, Fe11Need, ae11Have, ce11Have, Fe11Have, ae11Lack, ce11Lack, Fe11Lack, ae11Here, ce11Here, Fe11Here, ae11Out, ce11Out, Fe11Out, ae11Into, ce11Into, Fe11Into, H⟩ := H.yD 2 rfl i i (by omega) (by omega) (by omega)
  refine sw (xO i Try.underlying28 ti92 rfl rfl (by omega) (by omega) ?_)
  refine sp (pp b8 (o9 + (i : Int).toNat * 9)) ?_
  refine qA (t_n (qo (qB ?_)))
  refine sps [pp bs os, pp bt ot, pp b8 (o9 + (i : Int).toNat * 9)] ?_
  refine sw (xf #[pp bs os, pp bt ot, pp b8 (o9 + (i : Int).toNat * 9)] rfl rfl Try.call109 (l03Enabled_ok w6 s t (s.qg[i]!) bs os qw qm qM (aa b8 o9) qC xu bt ot qP qJ xJ xG xA zF qL qK xI b8 (o9 + (i : Int).toNat * 9) ae11Need ce11Need Fe11Need ae11Have ce11Have Fe11Have ae11Lack ce11Lack Fe11Lack ae11Here ce11Here Fe11Here ae11Out ce11Out Fe11Out ae11Into ce11Into Fe11Into (qH (H.get 7 rfl) 0 3) (H.get 8 rfl).1 (H.get 9 rfl).1 (qH (H.get 10 rfl) 0 3) (H.get 11 rfl).1 (H.get 12 rfl).1 (H.get 13 rfl).1 (qH (H.get 6 rfl) 0 9) (H.get 0 rfl).1 (H.get 1 rfl).1 (H.get 2 rfl).1 (H.get 3 rfl).1 (H.get 4 rfl).1 (H.get 5 rfl).1 (by first | assumption | omega) (by first | assumption | omega) (by first | assumption | omega)) ?_)
  rintro _ w13 rfl x14
  replace H := H.ext x14
  refine sp (.bool (dec (EnOk s t (s.qg[i]!)))) ?_
  refine qA (t_n (qo (qB ?_)))
  refine sps [.slice Vf Qz XC, .bool (dec (EnOk s t (s.qg[i]!)))] ?_
  refine sw (QQ H Try.underlying36 ti4 [.bool (dec (EnOk s t (s.qg[i]!)))] fun b15 w16 H => ?_)
  refine sw (QR H 1 rfl 0 rfl Try.underlying36 ti4 rfl (by decide) rfl rfl rfl (by simp [Value.oneCell', Value.cells]) (by unfold maxLen; omega) (by omega) fun a17 c18 w19 H => ?_)
  rw [snocB] at H
  try dsimp only [List.set] at H
  refine sp (.slice a17 (Qz + 1) c18) ?_
  refine qA (t_n (qo (qB ?_)))
  refine sp (.bool (dec (EnOk s t (s.qg[i]!)))) ?_
  refine qA (t_n ?_)
  refine qX (dec (EnOk s t (s.qg[i]!))) rfl (fun h20 => ?_) (fun h20 => ?_)
  ·skip
   replace h20 := jZ h20
   refine yT rfl H [0, 1] fun H => ?_
   have S := H.jP [0, 1] [0, 1, 2, 3, 4, 5, 6, 7, 8, 9, 10, 11, 12, 13]
   refine rtp 0 (.slice (aa b1 0) s.qf.length s.qf.length) S ?_
   refine rtp 1 (pp b8 (o9 + (i : Int).toNat * 9)) S ?_
   refine rtp 2 (pp b8 (o9 + (i : Int).toNat * 9)) S ?_
   refine rt 3 (pp b8 (o9 + (i : Int).toNat * 9 + 0)) (xF b8 (o9 + (i : Int).toNat * 9) 0 Try.underlying92 rfl rfl Try.sizeOf2 rfl) S ?_
   refine rt 4 (.int .i64 ((s.qg[i]!).qy)) (xm Try.isAgg2 rfl (fun _ h => h.zh 6 rfl 0 rfl)) S ?_
   refine rtp 5 (.slice (aa b1 0) s.qf.length s.qf.length) S ?_
   refine rtp 6 (pp b8 (o9 + (i : Int).toNat * 9)) S ?_
   refine rtp 7 (pp b8 (o9 + (i : Int).toNat * 9)) S ?_
   refine rt 8 (pp b8 (o9 + (i : Int).toNat * 9 + 0)) (xF b8 (o9 + (i : Int).toNat * 9) 0 Try.underlying92 rfl rfl Try.sizeOf2 rfl) S ?_
   refine rt 9 (.int .i64 ((s.qg[i]!).qy)) (xm Try.isAgg2 rfl (fun _ h => h.zh 6 rfl 0 rfl)) S ?_
   refine rt 10 (pp b1 (0 + ((s.qg[i]!).qy : Int).toNat * 1)) (xK b1 (0) s.qf.length s.qf.length ((s.qg[i]!).qy) Try.underlying22 ti2 rfl rfl (by omega) (by omega)) S ?_
   refine rtp 12 (pp b8 (o9 + (i : Int).toNat * 9)) S ?_
   refine rtp 13 (pp b8 (o9 + (i : Int).toNat * 9)) S ?_
   refine rt 14 (pp b8 (o9 + (i : Int).toNat * 9 + 1)) (xF b8 (o9 + (i : Int).toNat * 9) 1 Try.underlying92 rfl rfl Try.sizeOf2 rfl) S ?_
   refine rt 15 (.int .i64 ((s.qg[i]!).zk)) (xm Try.isAgg2 rfl (fun _ h => h.zh 6 rfl 1 rfl)) S ?_
   refine xn [11] (by kernel_rfl) (by simp) (zg rfl ?_ xq)
   refine qF (.int .i64 ((bests s t 0 s.qf.length i)[((s.qg[i]!).qy).toNat]!)) Try.isAgg2 rfl (H.rowInt 2 rfl (iv := (s.qg[i]!).qy) (i := (((s.qg[i]!).qy).toNat)) (by omega) (by omega)) ?_
   refine ⟨H.pick [0, 1] [0, 1, 2, 3, 4, 5, 6, 7, 8, 9, 10, 11, 12, 13], ?_⟩
   refine xn [16] (by kernel_rfl) (by simp) (zg rfl ?_ xq)
   refine xf #[.int .i64 ((bests s t 0 s.qf.length i)[((s.qg[i]!).qy).toNat]!), .int .i64 ((s.qg[i]!).zk)] rfl rfl Try.call99 (l00Max_ok w19.drew ((bests s t 0 s.qf.length i)[((s.qg[i]!).qy).toNat]!) ((s.qg[i]!).zk)) ?_
   rintro _ w23 rfl x24
   replace H := H.ext x24
   refine ⟨H.pick [0, 1] [0, 1, 2, 3, 4, 5, 6, 7, 8, 9, 10, 11, 12, 13], ?_⟩
   refine rt 17 (pp b1 (0 + ((s.qg[i]!).qy : Int).toNat * 1)) (xK b1 (0) s.qf.length s.qf.length ((s.qg[i]!).qy) Try.underlying22 ti2 rfl rfl (by omega) (by omega)) (H.pick [0, 1] [0, 1, 2, 3, 4, 5, 6, 7, 8, 9, 10, 11, 12, 13]) ?_
   refine xn [18] (by kernel_rfl) (by simp) (zg rfl ?_ xq)
   refine o_storeInt H 2 rfl (max ((bests s t 0 s.qf.length i)[((s.qg[i]!).qy).toNat]!) ((s.qg[i]!).zk)) Try.sizeOf2 rfl rfl (i := (((s.qg[i]!).qy).toNat)) (by omega) (by omega) fun w25 H => ?_
   try dsimp only [List.set] at H
   refine ⟨H.pick [0, 1] [0, 1, 2, 3, 4, 5, 6, 7, 8, 9, 10, 11, 12, 13], ?_⟩
   refine xM (by kernel_rfl) (b_n (t_n ?_))
   refine qB ?_
   refine sp (.int .i64 i) ?_
   refine sw (vz i 1 rfl rfl (by omega) ?_)
   refine sp (.int .i64 (i + 1)) ?_
   refine qA ?_
   refine xH (m' := (s.qg.length - ((i + 1) : Int)).toNat) (by omega) ⟨_, a17, Qz + 1, c18, ((applB s t 0 i) ++ [dec (EnOk s t (s.qg[i]!))]), i + 1, ((bests s t 0 s.qf.length i).set (((s.qg[i]!).qy).toNat) (max ((bests s t 0 s.qf.length i)[((s.qg[i]!).qy).toNat]!) ((s.qg[i]!).zk))), (by exact qj (qj (qj (qj (qj (rfl) rfl) rfl) rfl) rfl) rfl), ?_, ?_, ?_, rfl, N, H.pick [1, 2] [7, 8, 9, 10, 11, 12, 13]⟩
   · exact applB_snoc s t i
   · first | exact bests_set ‹_› (by omega) | exact bests_skip ‹_›
   · omega
  replace h20 := zt h20
  refine xy (b_n (t_n (qB ?_)))
  refine sp (.int .i64 i) ?_
  refine sw (vz i 1 rfl rfl (by omega) ?_)
  refine sp (.int .i64 (i + 1)) ?_
  refine qA ?_
  refine xH (m' := (s.qg.length - ((i + 1) : Int)).toNat) (by omega) ⟨_, a17, Qz + 1, c18, ((applB s t 0 i) ++ [dec (EnOk s t (s.qg[i]!))]), i + 1, (bests s t 0 s.qf.length i), (by exact qj (qj (qj (qj (qj (rfl) rfl) rfl) rfl) rfl) rfl), ?_, ?_, ?_, rfl, N, H.pick [1, 2] [7, 8, 9, 10, 11, 12, 13]⟩
  · exact applB_snoc s t i
  · first | exact bests_set ‹_› (by omega) | exact bests_skip ‹_›
  · omega
 replace h7 := of_decide_eq_false h7
 refine ve (t_x (t_x (b_x (t_n (qo (qo (qB ?_)))))))
 refine sp (.int .i64 0) ?_
 refine qA (t_n (xC ?_))
 refine vw (fun m' ρ w26 => ∃ (junk : Env) (i_1 : Nat) (out_1 : List Bool), ρ = upd (upd (upd (upd junk 0 (pp bs os)) 5 (.slice (aa b1 0) s.qf.length s.qf.length)) 6 (.slice Vf Qz XC)) 10 (.int .i64 i_1) ∧ out_1 = applB s t i_1 s.qg.length ∧ ((i_1 : Int) ≤ s.qg.length) ∧ m' = (s.qg.length - (i_1 : Int)).toNat ∧ Fresh w.heap.size [] ∧ St w w26 [.row (.slice Vf Qz XC) 4 1 Qz (out_1.map (Value.bool)), .row (.slice (aa b1 0) s.qf.length s.qf.length) 2 1 s.qf.length ((bests s t 0 s.qf.length i).map (Value.int .i64))] [atF bs os [.int .i64 s.qI, .slice qw s.qf.length qm, .slice qG s.qg.length qC], isF false qM (.slice qw s.qf.length qm) s.qf, isF false xu (.slice qG s.qg.length qC) s.qg]) ((s.qg.length - (0 : Int)).toNat) ⟨_, 0, (applB s t 0 i), (by exact qj (qj (qj (qj (rfl) rfl) rfl) rfl) rfl), (by rw [show i = s.qg.length by omega]), (by omega), rfl, N, H.pick [0, 1] [0, 1, 2]⟩ ?_
 clear H N
 rintro m' ρ w27 ⟨junk, i_1, out_1, rfl, rfl, i0, rfl, N, H⟩
 have hn_out := H.QE 0 rfl
 have bl := Xv s t 0 s.qf.length i
 have al := applB_len s t i_1 s.qg.length
 refine qo (qo (qB ?_))
 refine sps [.int .i64 i_1, pp bs os, pp bs os] ?_
 refine sw (qO bs (os) 2 Try.underlying30 rfl rfl Try.sizeOf28 rfl ?_)
 refine sw (qF (.slice qG s.qg.length qC) Try.isAgg28 rfl (H.zh 0 rfl 2 rfl) ?_)
 refine sw (vI Try.underlying28 qG s.qg.length qC rfl ?_)
 refine sp (.bool (decide ((i_1 : Int) < s.qg.length))) ?_
 refine qA (t_n ?_)
 refine qX (decide ((i_1 : Int) < s.qg.length)) rfl (fun h28 => ?_) (fun h28 => ?_)
 ·skip
  replace h28 := of_decide_eq_true h28
  have q := p0.rule (i := i_1) (by omega)
  have qc := q.1
  have qk := q.cell
  have qr := q.2.1
  refine xy (t_n (qo (xC ?_)))
  refine yT rfl H [1] fun H => ?_
  have S := H.jP [1] [0, 1, 2]
  refine rtp 0 (.slice Vf Qz XC) S ?_
  refine rtp 1 (.int .i64 i_1) S ?_
  refine rtp 2 (.slice Vf Qz XC) S ?_
  refine rtp 3 (.int .i64 i_1) S ?_
  obtain ⟨b30, rfl⟩ := H.XI 0 rfl (by omega)
  refine rt 4 (pp b30 (0 + (i_1 : Int).toNat * 1)) (xK b30 (0) Qz XC i_1 Try.underlying36 ti4 rfl rfl (by omega) (by omega)) (H.pick [1] [0, 1, 2]) ?_
  refine xn [5] (by kernel_rfl) (by simp) (zg rfl ?_ xq)
  refine qF (.bool ((applB s t i_1 s.qg.length)[i_1]!)) Try.isAgg4 rfl (H.rowBool 0 rfl (iv := i_1) (i := i_1) (by omega) (by omega)) ?_
  refine ⟨H.pick [1] [0, 1, 2], ?_⟩
  refine rtp 6 (.bool ((applB s t i_1 s.qg.length)[i_1]!)) (H.pick [1] [0, 1, 2]) ?_
  cases h31 : ((applB s t i_1 s.qg.length)[i_1]!)
  ·skip
   refine zS [7, 8, 9, 10, 11, 12, 13, 14, 15, 16, 17, 18, 19, 20, 21, 22, 23, 24, 25, 26] 20 (H.pick [1] [0, 1, 2]) ?_
   have S := H.jP [1] [0, 1, 2]
   refine rtp 27 (.bool false) S ?_
   refine rt 28 (pp b30 (0 + (i_1 : Int).toNat * 1)) (xK b30 (0) Qz XC i_1 Try.underlying36 ti4 rfl rfl (by omega) (by omega)) S ?_
   refine xn [29] (by kernel_rfl) (by simp) (zg rfl ?_ xq)
   refine QP H 0 rfl false Try.sizeOf4 rfl rfl (i := i_1) (by omega) (by omega) fun w32 H => ?_
   try dsimp only [List.set] at H
   refine ⟨H.pick [1] [0, 1, 2], ?_⟩
   refine xM (by kernel_rfl) (b_n (t_n ?_))
   refine qB ?_
   refine sp (.int .i64 i_1) ?_
   refine sw (vz i_1 1 rfl rfl (by omega) ?_)
   refine sp (.int .i64 (i_1 + 1)) ?_
   refine qA ?_
   refine xH (m' := (s.qg.length - ((i_1 + 1) : Int)).toNat) (by omega) ⟨_, i_1 + 1, ((applB s t i_1 s.qg.length).set i_1 false), (by exact qj (qj (qj (qj (rfl) rfl) rfl) rfl) rfl), ?_, ?_, rfl, N, H⟩
   · first | exact applB_set (by omega) (applB_step0 (m := s.qg.length) (by omega) ‹_›) | exact applB_set (by omega) (applB_step1 (m := s.qg.length) (n := s.qf.length) (z := 0) (i := i) (by omega) ‹_› rfl (by omega) (by omega) (by omega))
   · omega
  have S := H.jP [1] [0, 1, 2]
  refine rgp 7 (pp bs os) 75 S ?_
  refine rgp 8 (pp bs os) 75 S ?_
  refine rg 9 (pp bs (os + 2)) 75 (xF bs (os) 2 Try.underlying30 rfl rfl Try.sizeOf28 rfl) S ?_
  refine rg 10 (.slice qG s.qg.length qC) 75 (xm Try.isAgg28 rfl (fun _ h => h.zh 0 rfl 2 rfl)) S ?_
  refine rgp 11 (.int .i64 i_1) 75 S ?_
  obtain ⟨b33, o34, rfl⟩ := H.addr 2 rfl (by omega)
  obtain ⟨ae36Need, ce36Need, Fe36Need, ae36Have, ce36Have, Fe36Have, ae36Lack, ce36Lack, Fe36Lack, ae36Here, ce36Here, Fe36Here, ae36Out, ce36Out, Fe36Out, ae36Into, ce36Into, Fe36Into, H⟩ := H.yD 2 rfl i_1 i_1 (by omega) (by omega) (by omega)
  have S := H.jP [1] [7, 8, 9]
  refine rg 12 (pp b33 (o34 + (i_1 : Int).toNat * 9)) 75 (xK b33 (o34) s.qg.length qC i_1 Try.underlying28 ti92 rfl rfl (by omega) (by omega)) S ?_
  refine rg 13 (pp b33 (o34 + (i_1 : Int).toNat * 9 + 1)) 75 (xF b33 (o34 + (i_1 : Int).toNat * 9) 1 Try.underlying92 rfl rfl Try.sizeOf2 rfl) S ?_
  refine rgp 15 (.slice (aa b1 0) s.qf.length s.qf.length) 75 S ?_
  refine rgp 16 (pp bs os) 75 S ?_
  refine rgp 17 (pp bs os) 75 S ?_
  refine rg 18 (pp bs (os + 2)) 75 (xF bs (os) 2 Try.underlying30 rfl rfl Try.sizeOf28 rfl) S ?_
  refine rg 19 (.slice (aa b33 o34) s.qg.length qC) 75 (xm Try.isAgg28 rfl (fun _ h => h.zh 0 rfl 2 rfl)) S ?_
  refine rgp 20 (.int .i64 i_1) 75 S ?_
  refine rg 21 (pp b33 (o34 + (i_1 : Int).toNat * 9)) 75 (xK b33 (o34) s.qg.length qC i_1 Try.underlying28 ti92 rfl rfl (by omega) (by omega)) S ?_
  refine rg 22 (pp b33 (o34 + (i_1 : Int).toNat * 9 + 0)) 75 (xF b33 (o34 + (i_1 : Int).toNat * 9) 0 Try.underlying92 rfl rfl Try.sizeOf2 rfl) S ?_
  refine xn [14, 23] (by kernel_rfl) (by simp) (r_opG rfl (e := 75) rfl rfl ?_ (r_opG rfl (e := 75) rfl rfl ?_ xq))
  ·skip
   refine qF (.int .i64 ((s.qg[i_1]!).zk)) Try.isAgg2 rfl (H.zh 6 rfl 1 rfl) ?_
   refine ⟨H.pick [1] [7, 8, 9], ?_⟩
   refine xn [23] (by kernel_rfl) (by simp) (r_opG rfl (e := 75) rfl rfl ?_ xq)
   refine qF (.int .i64 ((s.qg[i_1]!).qy)) Try.isAgg2 rfl (H.zh 6 rfl 0 rfl) ?_
   refine ⟨H.pick [1] [7, 8, 9], ?_⟩
   have S := H.jP [1] [7, 8, 9]
   refine rg 24 (pp b1 (0 + ((s.qg[i_1]!).qy : Int).toNat * 1)) 75 (xK b1 (0) s.qf.length s.qf.length ((s.qg[i_1]!).qy) Try.underlying22 ti2 rfl rfl (by omega) (by omega)) S ?_
   refine rg 25 (.int .i64 ((bests s t 0 s.qf.length i)[((s.qg[i_1]!).qy).toNat]!)) 75 (xm Try.isAgg2 rfl (fun _ h => h.rowInt 0 rfl (iv := (s.qg[i_1]!).qy) (i := (((s.qg[i_1]!).qy).toNat)) (by omega) (by omega))) S ?_
   refine rgp 26 (.bool (((s.qg[i_1]!).zk : Int) == ((bests s t 0 s.qf.length i)[((s.qg[i_1]!).qy).toNat]!))) 75 S ?_
   refine rtp 27 (.bool (((s.qg[i_1]!).zk : Int) == ((bests s t 0 s.qf.length i)[((s.qg[i_1]!).qy).toNat]!))) S ?_
   refine rt 28 (pp b30 (0 + (i_1 : Int).toNat * 1)) (xK b30 (0) Qz XC i_1 Try.underlying36 ti4 rfl rfl (by omega) (by omega)) S ?_
   refine xn [29] (by kernel_rfl) (by simp) (zg rfl ?_ xq)
   refine QP H 0 rfl (((s.qg[i_1]!).zk : Int) == ((bests s t 0 s.qf.length i)[((s.qg[i_1]!).qy).toNat]!)) Try.sizeOf4 rfl rfl (i := i_1) (by omega) (by omega) fun w37 H => ?_
   try dsimp only [List.set] at H
   refine ⟨H.pick [1] [7, 8, 9], ?_⟩
   refine xM (by kernel_rfl) (b_n (t_n ?_))
   refine qB ?_
   refine sp (.int .i64 i_1) ?_
   refine sw (vz i_1 1 rfl rfl (by omega) ?_)
   refine sp (.int .i64 (i_1 + 1)) ?_
   refine qA ?_
   refine xH (m' := (s.qg.length - ((i_1 + 1) : Int)).toNat) (by omega) ⟨_, i_1 + 1, ((applB s t i_1 s.qg.length).set i_1 (((s.qg[i_1]!).zk : Int) == ((bests s t 0 s.qf.length i)[((s.qg[i_1]!).qy).toNat]!))), (by exact qj (qj (qj (qj (rfl) rfl) rfl) rfl) rfl), ?_, ?_, rfl, N, H.pick [0, 1] [7, 8, 9]⟩
   · first | exact applB_set (by omega) (applB_step0 (m := s.qg.length) (by omega) ‹_›) | exact applB_set (by omega) (applB_step1 (m := s.qg.length) (n := s.qf.length) (z := 0) (i := i) (by omega) ‹_› rfl (by omega) (by omega) (by omega))
   · omega
  refine qF (.int .i64 ((s.qg[i_1]!).qy)) Try.isAgg2 rfl (H.zh 6 rfl 0 rfl) ?_
  refine ⟨H.pick [1] [7, 8, 9], ?_⟩
  have S := H.jP [1] [7, 8, 9]
  refine rg 24 (pp b1 (0 + ((s.qg[i_1]!).qy : Int).toNat * 1)) 75 (xK b1 (0) s.qf.length s.qf.length ((s.qg[i_1]!).qy) Try.underlying22 ti2 rfl rfl (by omega) (by omega)) S ?_
  refine rg 25 (.int .i64 ((bests s t 0 s.qf.length i)[((s.qg[i_1]!).qy).toNat]!)) 75 (xm Try.isAgg2 rfl (fun _ h => h.rowInt 0 rfl (iv := (s.qg[i_1]!).qy) (i := (((s.qg[i_1]!).qy).toNat)) (by omega) (by omega))) S ?_
  refine xn [14] (by kernel_rfl) (by simp) (r_opG rfl (e := 75) rfl rfl ?_ xq)
  refine qF (.int .i64 ((s.qg[i_1]!).zk)) Try.isAgg2 rfl (H.zh 6 rfl 1 rfl) ?_
  refine ⟨H.pick [1] [7, 8, 9], ?_⟩
  have S := H.jP [1] [7, 8, 9]
  refine rgp 26 (.bool (((s.qg[i_1]!).zk : Int) == ((bests s t 0 s.qf.length i)[((s.qg[i_1]!).qy).toNat]!))) 75 S ?_
  refine rtp 27 (.bool (((s.qg[i_1]!).zk : Int) == ((bests s t 0 s.qf.length i)[((s.qg[i_1]!).qy).toNat]!))) S ?_
  refine rt 28 (pp b30 (0 + (i_1 : Int).toNat * 1)) (xK b30 (0) Qz XC i_1 Try.underlying36 ti4 rfl rfl (by omega) (by omega)) S ?_
  refine xn [29] (by kernel_rfl) (by simp) (zg rfl ?_ xq)
  refine QP H 0 rfl (((s.qg[i_1]!).zk : Int) == ((bests s t 0 s.qf.length i)[((s.qg[i_1]!).qy).toNat]!)) Try.sizeOf4 rfl rfl (i := i_1) (by omega) (by omega) fun w38 H => ?_
  try dsimp only [List.set] at H
  refine ⟨H.pick [1] [7, 8, 9], ?_⟩
  refine xM (by kernel_rfl) (b_n (t_n ?_))
  refine qB ?_
  refine sp (.int .i64 i_1) ?_
  refine sw (vz i_1 1 rfl rfl (by omega) ?_)
  refine sp (.int .i64 (i_1 + 1)) ?_
  refine qA ?_
  refine xH (m' := (s.qg.length - ((i_1 + 1) : Int)).toNat) (by omega) ⟨_, i_1 + 1, ((applB s t i_1 s.qg.length).set i_1 (((s.qg[i_1]!).zk : Int) == ((bests s t 0 s.qf.length i)[((s.qg[i_1]!).qy).toNat]!))), (by exact qj (qj (qj (qj (rfl) rfl) rfl) rfl) rfl), ?_, ?_, rfl, N, H.pick [0, 1] [7, 8, 9]⟩
  · first | exact applB_set (by omega) (applB_step0 (m := s.qg.length) (by omega) ‹_›) | exact applB_set (by omega) (applB_step1 (m := s.qg.length) (n := s.qf.length) (z := 0) (i := i) (by omega) ‹_› rfl (by omega) (by omega) (by omega))
  · omega
 replace h28 := of_decide_eq_false h28
 refine ve (t_x (t_x (b_x (t_n (qo (qB ?_))))))
 refine sps [.slice Vf Qz XC, .slice Vf Qz XC] ?_
 refine qA (t_n (xE ?_))
 refine ret1 (.slice Vf Qz XC) rfl rfl ⟨_, rfl, ?_, H.base⟩
 obtain rfl : i_1 = s.qg.length := by omega
 exact ⟨Vf, Qz, XC, rfl, N, H.pick [0] []⟩

theorem l03Halted_ok (w : World) (s : qV) (t : qQ) (bs os : Nat) (qw : Option Addr) (qm : Nat) (qM : List Nat) (qG : Option Addr) (qC : Nat) (xu : List Nat) (bt ot : Nat) (qP : Option Addr) (qJ : Nat) (xJ : List Nat) (xG : Option Addr) (xA : Nat) (zF : List Nat) (qL : Option Addr) (qK : Nat) (xI : List Nat) (hs : jd w bs os [.int .i64 s.qI, .slice qw s.qf.length qm, .slice qG s.qg.length qC]) (xx : qW.rep w qM [.slice qw s.qf.length qm] s.qf) (xN : qW.rep w xu [.slice qG s.qg.length qC] s.qg) (ht : jd w bt ot [.slice qP t.qh.length qJ, .slice xG t.qp.length xA, .slice qL t.ql.length qK]) (zA : qW.rep w xJ [.slice qP t.qh.length qJ] t.qh) (vC : qW.rep w zF [.slice xG t.qp.length xA] t.qp) (xZ : qW.rep w xI [.slice qL t.ql.length qK] t.ql) (p0 : yP s) (p1 : zJ s t) : Calls Try.prog 56 #[pp bs os, pp bt ot] w (Ret (fun v w' => v = .bool (dec (Halted s t))) w) := by
 refine enter (n := 20) Try.func56 rfl Try.ntmps56 (Nat.le_of_ble_eq_true rfl) ?_
 have H := (((((((St.start w).arg xZ).arg vC).arg zA).argAt ht).arg xN).arg xx).argAt hs
 have vW := qN xx
 have yh := qN xN
 have QU := qN zA
 have XA := qN vC
 have Qa := qN xZ
 clear hs xx xN ht zA vC xZ
 have N := Fresh.nil w.heap.size
 have p2 := p0.2.1
 refine qo (qB ?_)
 refine sp (.bool false) ?_
 refine qA (t_n (qo (qB ?_)))
 refine sps [pp bs os, pp bt ot] ?_
 have sz4 := H.base.size
 refine sw (xf #[pp bs os, pp bt ot] rfl rfl Try.call86 (l03Applicable_ok w s t bs os qw qm qM qG qC xu bt ot qP qJ xJ xG xA zF qL qK xI (qH (H.get 0 rfl) 0 3) (H.get 1 rfl).1 (H.get 2 rfl).1 (qH (H.get 3 rfl) 0 3) (H.get 4 rfl).1 (H.get 5 rfl).1 (H.get 6 rfl).1 (by first | assumption | omega) (by first | assumption | omega)) ?_)
 rintro _ w2 ⟨ra1, rn1, rc1, rfl, M, K⟩ _
 replace H := H.merge K M
 dsimp only [List.cons_append, List.nil_append] at H
 obtain rfl := H.QE 0 rfl
 have al := appl_len s t
 refine sp (.slice ra1 ((appl s t).length) rc1) ?_
 refine qA (t_n (qo (qo (qB ?_))))
 refine sp (.int .i64 0) ?_
 refine qA (t_n (xC ?_))
 refine vw (fun m' ρ w7 => ∃ (junk : Env) (i : Nat), ρ = upd (upd junk 5 (.slice ra1 ((appl s t).length) rc1)) 6 (.int .i64 i) ∧ ((i : Int) ≤ ((appl s t).length)) ∧ (HaltTo s t i) ∧ m' = (((appl s t).length) - (i : Int)).toNat ∧ Fresh w.heap.size [] ∧ St w w7 [.row (.slice ra1 ((appl s t).length) rc1) 4 1 ((appl s t).length) ((appl s t).map (Value.bool))] []) ((((appl s t).length) - (0 : Int)).toNat) ⟨_, 0, (by exact qj (qj (rfl) rfl) rfl), (by omega), (by exact fun j hj => by omega), rfl, N, H.pick [0] []⟩ ?_
 clear H N
 rintro m' ρ w8 ⟨junk, i, rfl, i0, i1, rfl, N, H⟩
 refine qo (qo (qB ?_))
 refine sps [.int .i64 i, .slice ra1 ((appl s t).length) rc1] ?_
 refine sw (vI Try.underlying36 ra1 ((appl s t).length) rc1 rfl ?_)
 refine sp (.bool (decide ((i : Int) < ((appl s t).length)))) ?_
 refine qA (t_n ?_)
 refine qX (decide ((i : Int) < ((appl s t).length))) rfl (fun h9 => ?_) (fun h9 => ?_)
 ·skip
  replace h9 := of_decide_eq_true h9
  refine xy (t_n (qo (xC (qo (qB ?_)))))
  refine sps [.slice ra1 ((appl s t).length) rc1, .int .i64 i] ?_
  obtain ⟨b10, rfl⟩ := H.XI 0 rfl (by omega)
  refine sw (xO i Try.underlying36 ti4 rfl rfl (by omega) (by omega) ?_)
  refine sw (qF (.bool ((appl s t)[i]!)) Try.isAgg4 rfl (H.rowBool 0 rfl (iv := i) (i := i) (by omega) (by omega)) ?_)
  refine qA (t_n ?_)
  refine qX ((appl s t)[i]!) rfl (fun h11 => ?_) (fun h11 => ?_)
  ·skip
   refine qo (qB ?_)
   refine sp (.bool false) ?_
   refine qA (t_n (xE (b_r (t_r (t_r (b_r (t_r ?_)))))))
   refine ret1 (.bool false) rfl rfl ⟨_, rfl, ?_, H.base⟩
   rw [xB (fun h => h i (by omega) (appl_true (by omega) ‹_›))]
  refine xy (b_n (t_n (qB ?_)))
  refine sp (.int .i64 i) ?_
  refine sw (vz i 1 rfl rfl (by omega) ?_)
  refine sp (.int .i64 (i + 1)) ?_
  refine qA ?_
  refine xH (m' := (((appl s t).length) - ((i + 1) : Int)).toNat) (by omega) ⟨_, i + 1, (by exact qj (qj (rfl) rfl) rfl), ?_, ?_, rfl, N, H⟩
  · omega
  · exact i1.succ (appl_false (by omega) ‹_›)
 replace h9 := of_decide_eq_false h9
 refine ve (t_x (t_x (b_x (t_n (qo (qB ?_))))))
 refine sp (.bool true) ?_
 refine qA (t_n (xE ?_))
 refine ret1 (.bool true) rfl rfl ⟨_, rfl, ?_, H.base⟩
 obtain rfl : i = s.qg.length := by omega
 rw [yZ i1]

theorem l03Rest_ok (w : World) (s : qV) (t : qQ) (counts : List Int) (bs os : Nat) (qw : Option Addr) (qm : Nat) (qM : List Nat) (qG : Option Addr) (qC : Nat) (xu : List Nat) (bt ot : Nat) (qP : Option Addr) (qJ : Nat) (xJ : List Nat) (xG : Option Addr) (xA : Nat) (zF : List Nat) (qL : Option Addr) (qK : Nat) (xI : List Nat) (acounts : Option Addr) (ccounts : Nat) (Fcounts : List Nat) (hs : jd w bs os [.int .i64 s.qI, .slice qw s.qf.length qm, .slice qG s.qg.length qC]) (xx : qW.rep w qM [.slice qw s.qf.length qm] s.qf) (xN : qW.rep w xu [.slice qG s.qg.length qC] s.qg) (ht : jd w bt ot [.slice qP t.qh.length qJ, .slice xG t.qp.length xA, .slice qL t.ql.length qK]) (zA : qW.rep w xJ [.slice qP t.qh.length qJ] t.qh) (vC : qW.rep w zF [.slice xG t.qp.length xA] t.qp) (xZ : qW.rep w xI [.slice qL t.ql.length qK] t.ql) (hcounts : qW.rep w Fcounts [.slice acounts counts.length ccounts] counts) (p0 : yP s) (p1 : zJ s t) (p2 : CntOk s counts) : Calls Try.prog 87 #[pp bs os, pp bt ot, .slice acounts counts.length ccounts] w (Ret (fun v w' => ∃ (ra0 : Option Addr) (rn0 : Nat) (rc0 : Nat) (rx0 : List Value) (rF0 : List Nat), v = .tuple #[.slice ra0 rn0 rc0, .bool (dec (IsCh s t counts))] ∧ Fresh w.heap.size [rF0] ∧ St w w' [.row (.slice ra0 rn0 rc0) 22 1 rn0 rx0] [jl true rF0 rx0 (vT s t counts (vY (yQ s t counts) counts.length))]) w) := by
 refine enter (n := 112) Try.func87 rfl Try.ntmps87 (Nat.le_of_ble_eq_true rfl) ?_
 have H := ((((((((St.start w).arg hcounts).arg xZ).arg vC).arg zA).argAt ht).arg xN).arg xx).argAt hs
 have vW := qN xx
 have yh := qN xN
 have QU := qN zA
 have XA := qN vC
 have Qa := qN xZ
 have nhcounts := qN hcounts
 clear hs xx xN ht zA vC xZ hcounts
 have N := Fresh.nil w.heap.size
 have p3 := p0.2.1
 have p6 := p2.1
 have p7 := p1.2.1
 have p8 := kinds_le p0
 have p9 := p0.1.2.1
 have p11 : jg s = s.qf.length := rfl
 refine qo (qB ?_)
 refine sps [.slice none 0 0, .bool false] ?_
 refine qA (t_n (qo (qB ?_)))
 refine sps [pp bs os, pp bt ot] ?_
 have sz4 := H.base.size
 refine sw (xf #[pp bs os, pp bt ot] rfl rfl Try.call86 (l03Applicable_ok w s t bs os qw qm qM qG qC xu bt ot qP qJ xJ xG xA zF qL qK xI (qH (H.get 0 rfl) 0 3) (H.get 1 rfl).1 (H.get 2 rfl).1 (qH (H.get 3 rfl) 0 3) (H.get 4 rfl).1 (H.get 5 rfl).1 (H.get 6 rfl).1 (by first | assumption | omega) (by first | assumption | omega)) ?_)
 rintro _ w2 ⟨ra1, rn1, rc1, rfl, M, K⟩ _
 replace H := H.merge K M
 dsimp only [List.cons_append, List.nil_append] at H
 obtain rfl := H.QE 0 rfl
 have al := appl_len s t
 refine sp (.slice ra1 ((appl s t).length) rc1) ?_
 refine qA (t_n (qo (qB ?_)))
 refine sw (XQ H Try.underlying37 ti22 fun b7 w8 H => ?_)
 refine sp (.slice (aa b7 0) 0 0) ?_
 refine qA (t_n (qo (qo (qB ?_))))
 refine sp (.int .i64 0) ?_
 refine qA (t_n (xC ?_))
 replace H := H.boxRow 0 rfl 1 0 rfl (by decide)
 try dsimp only [List.set] at H
 replace H := H.Xh (α := List Int)
 refine vw (fun m' ρ w9 => ∃ (junk : Env) (QB : Option Addr) (vZ : Nat) (yf : Nat) (rest : List (List Int)) (Vg : List Value) (Xx : List Nat) (c : Nat), ρ = upd (upd (upd (upd (upd (upd junk 0 (pp bs os)) 1 (pp bt ot)) 2 (.slice acounts counts.length ccounts)) 8 (.slice ra1 ((appl s t).length) rc1)) 9 (.slice QB vZ yf)) 10 (.int .i64 c) ∧ rest = t.qp.take c ∧ ((c : Int) ≤ t.qp.length) ∧ m' = (t.qp.length - (c : Int)).toNat ∧ Fresh w.heap.size [Xx] ∧ St w w9 [.row (.slice QB vZ yf) 22 1 vZ Vg, .row (.slice ra1 ((appl s t).length) rc1) 4 1 ((appl s t).length) ((appl s t).map (Value.bool))] [jl true Xx Vg rest, atF bs os [.int .i64 s.qI, .slice qw s.qf.length qm, .slice qG s.qg.length qC], isF false qM (.slice qw s.qf.length qm) s.qf, isF false xu (.slice qG s.qg.length qC) s.qg, atF bt ot [.slice qP t.qh.length qJ, .slice xG t.qp.length xA, .slice qL t.ql.length qK], isF false xJ (.slice qP t.qh.length qJ) t.qh, isF false zF (.slice xG t.qp.length xA) t.qp, isF false xI (.slice qL t.ql.length qK) t.ql, isF false Fcounts (.slice acounts counts.length ccounts) counts]) ((t.qp.length - (0 : Int)).toNat) ⟨_, (aa b7 0), 0, 0, ([] : List (List Int)), [], [], 0, (by exact qj (qj (qj (qj (qj (qj (rfl) rfl) rfl) rfl) rfl) rfl) rfl), (by rfl), (by omega), rfl, N.emp, H⟩ ?_
 clear H N
 rintro m' ρ w10 ⟨junk, QB, vZ, yf, rest, Vg, Xx, c, rfl, rfl, i0, rfl, N, H⟩
 have hn_rest := H.zx (α := List Int) 0 rfl 0 rfl (by decide)
 have p4 := (p1.bagLen (k := c))
 rw [List.length_take_of_le (by omega)] at hn_rest
 refine qo (qo (qB ?_))
 refine sps [.int .i64 c, pp bt ot, pp bt ot] ?_
 refine sw (qO bt (ot) 1 Try.underlying41 rfl rfl Try.sizeOf37 rfl ?_)
 refine sw (qF (.slice xG t.qp.length xA) Try.isAgg37 rfl (H.zh 4 rfl 1 rfl) ?_)
 refine sw (vI Try.underlying37 xG t.qp.length xA rfl ?_)
 refine sp (.bool (decide ((c : Int) < t.qp.length))) ?_
 refine qA (t_n ?_)
 refine qX (decide ((c : Int) < t.qp.length)) rfl (fun h11 => ?_) (fun h11 => ?_)
 ·skip
  replace h11 := of_decide_eq_true h11
  refine xy (t_n (qo (xC (qB ?_))))
  refine sps [.slice QB vZ yf, pp bt ot, pp bt ot] ?_
  refine sw (qO bt (ot) 1 Try.underlying41 rfl rfl Try.sizeOf37 rfl ?_)
  refine sw (qF (.slice xG t.qp.length xA) Try.isAgg37 rfl (H.zh 4 rfl 1 rfl) ?_)
  refine sp (.int .i64 c) ?_
  obtain ⟨b12, o13, rfl⟩ := H.addr 6 rfl (by omega)
  obtain ⟨ae15, ce15, Fe15, H⟩ := H.yY 6 rfl c c (by omega) (by omega) (by omega)
  refine sw (xO c Try.underlying37 ti22 rfl rfl (by omega) (by omega) ?_)
  refine sw (qF (.slice ae15 ((t.qp[c]!).length) ce15) Try.isAgg22 rfl (H.zh 1 rfl 0 rfl) ?_)
  have p5 := (p1.bagLen (k := c) (by omega)).len
  have sz16 := H.base.size
  have lt17 := H.ltN (L := [Xx]) [2]
  refine sw (xf #[.slice ae15 ((t.qp[c]!).length) ce15] rfl rfl Try.call77 (l00Own_ok w10 (t.qp[c]!) ae15 ce15 Fe15 (H.get 0 rfl).1 (by first | assumption | omega)) ?_)
  rintro v21 w19 r21 x20
  replace H := H.zI x20 r21
  obtain ⟨a22, c23, rfl, hc24, hm25⟩ := H.jW 0 rfl
  refine sw (QQ H Try.underlying37 ti22 [.slice a22 ((t.qp[c]!).length) c23] fun b26 w27 H => ?_)
  obtain ⟨G31, N, hn32, H⟩ := H.yN 1 rfl N (H.Vb [2])
  try dsimp only [List.set] at H
  refine sw (QR H 2 rfl 0 rfl Try.underlying37 ti22 rfl (by decide) rfl rfl rfl (by simp [Value.oneCell', Value.cells]) (by unfold maxLen; omega) (by omega) fun a28 c29 w30 H => ?_)
  try dsimp only [List.set] at H
  replace H := H.Vl 3 rfl 0 rfl
  replace N : Fresh w.heap.size [(Xx ++ G31)] := (N.pick [1, 0]).join
  refine sp (.slice a28 (vZ + 1) c29) ?_
  refine qA (b_n (t_n (qB ?_)))
  refine sp (.int .i64 c) ?_
  refine sw (vz c 1 rfl rfl (by omega) ?_)
  refine sp (.int .i64 (c + 1)) ?_
  refine qA ?_
  refine xH (m' := (t.qp.length - ((c + 1) : Int)).toNat) (by omega) ⟨_, a28, vZ + 1, c29, ((t.qp.take c) ++ [(t.qp[c]!)]), Vg ++ [.slice a22 ((t.qp[c]!).length) c23], (Xx ++ G31), c + 1, (by exact qj (qj (qj (qj (qj (qj (rfl) rfl) rfl) rfl) rfl) rfl) rfl), ?_, ?_, rfl, N, H.pick [2, 3] [0, 5, 6, 7, 8, 9, 10, 11, 12]⟩
  · exact take_snoc (by omega)
  · omega
 replace h11 := of_decide_eq_false h11
 refine ve (t_x (t_x (b_x (t_n (qo (qo (qB ?_)))))))
 refine sp (.int .i64 0) ?_
 refine qA (t_n (xC ?_))
 refine vw (fun m' ρ w33 => ∃ (junk : Env) (i : Nat) (rest_1 : List (List Int)) (Xp : List Value) (QX : List Nat), ρ = upd (upd (upd (upd (upd junk 0 (pp bs os)) 2 (.slice acounts counts.length ccounts)) 8 (.slice ra1 ((appl s t).length) rc1)) 9 (.slice QB vZ yf)) 11 (.int .i64 i) ∧ rest_1 = vT s t counts i ∧ ((i : Int) ≤ counts.length) ∧ (GoodTo s t counts i) ∧ m' = (counts.length - (i : Int)).toNat ∧ Fresh w.heap.size [QX] ∧ St w w33 [.row (.slice QB vZ yf) 22 1 vZ Xp, .row (.slice ra1 ((appl s t).length) rc1) 4 1 ((appl s t).length) ((appl s t).map (Value.bool))] [jl true QX Xp rest_1, atF bs os [.int .i64 s.qI, .slice qw s.qf.length qm, .slice qG s.qg.length qC], isF false qM (.slice qw s.qf.length qm) s.qf, isF false xu (.slice qG s.qg.length qC) s.qg, isF false Fcounts (.slice acounts counts.length ccounts) counts]) ((counts.length - (0 : Int)).toNat) ⟨_, 0, (t.qp.take c), Vg, Xx, (by exact qj (qj (qj (qj (qj (rfl) rfl) rfl) rfl) rfl) rfl), (by rw [List.take_of_length_le (by omega)]; rfl), (by omega), (by exact fun j hj => by omega), rfl, N, H.pick [0, 1] [0, 1, 2, 3, 8]⟩ ?_
 clear H N
 rintro m' ρ w34 ⟨junk, i, rest_1, Xp, QX, rfl, rfl, i0, i1, rfl, N, H⟩
 have hn_rest := H.zx (α := List Int) 0 rfl 0 rfl (by decide)
 have rl := restR_len (s := s) (t := t) (counts := counts) i
 refine qo (qo (qB ?_))
 refine sps [.int .i64 i, .slice acounts counts.length ccounts] ?_
 refine sw (vI Try.underlying22 acounts counts.length ccounts rfl ?_)
 refine sp (.bool (decide ((i : Int) < counts.length))) ?_
 refine qA (t_n ?_)
 refine qX (decide ((i : Int) < counts.length)) rfl (fun h35 => ?_) (fun h35 => ?_)
 ·skip
  replace h35 := of_decide_eq_true h35
  have q := p0.rule (i := i) (by omega)
  have qc := q.1
  have qk := q.cell
  have qr := q.2.1
  have b1 := q.2.2.2.2.1
  have p10 := p2.bd (i := i) (by omega)
  refine xy (t_n (qo (xC (qo (qo (qB ?_))))))
  refine sps [.slice acounts counts.length ccounts, .int .i64 i] ?_
  obtain ⟨b36, o37, rfl⟩ := H.addr 4 rfl (by omega)
  refine sw (xO i Try.underlying22 ti2 rfl rfl (by omega) (by omega) ?_)
  refine sw (qF (.int .i64 (counts[i]!)) Try.isAgg2 rfl (H.vX 4 rfl i (by omega) (by omega)) ?_)
  refine sps [.bool (decide ((counts[i]! : Int) > 0)), .bool (decide ((counts[i]! : Int) > 0))] ?_
  cases h39 : (decide ((counts[i]! : Int) > 0))
  ·skip
   replace h39 := of_decide_eq_false h39
   refine zi [51, 52, 53, 54, 55] ?_
   refine sp (.bool false) ?_
   refine qA (t_n ?_)
   refine qX false rfl (fun h => absurd h (by decide)) (fun _ => ?_)
   refine xy (t_n (qo (qB ?_)))
   refine sps [pp bs os, pp bs os] ?_
   refine sw (qO bs (os) 2 Try.underlying30 rfl rfl Try.sizeOf28 rfl ?_)
   refine sw (qF (.slice qG s.qg.length qC) Try.isAgg28 rfl (H.zh 1 rfl 2 rfl) ?_)
   refine sp (.int .i64 i) ?_
   obtain ⟨b40, o41, rfl⟩ := H.addr 3 rfl (by omega)
   obtain ⟨ae43Need, ce43Need, Fe43Need, ae43Have, ce43Have, Fe43Have, ae43Lack, ce43Lack, Fe43Lack, ae43Here, ce43Here, Fe43Here, ae43Out, ce43Out, Fe43Out, ae43Into, ce43Into, Fe43Into, H⟩ := H.yD 3 rfl i i (by omega) (by omega) (by omega)
   refine sw (xO i Try.underlying28 ti92 rfl rfl (by omega) (by omega) ?_)
   refine sw (qO b40 (o41 + (i : Int).toNat * 9) 0 Try.underlying92 rfl rfl Try.sizeOf2 rfl ?_)
   refine sw (qF (.int .i64 ((s.qg[i]!).qy)) Try.isAgg2 rfl (H.zh 6 rfl 0 rfl) ?_)
   refine sp (.int .i64 ((s.qg[i]!).qy)) ?_
   refine qA (t_n ?_)
   refine yT rfl H [1] fun H => ?_
   have S := H.jP [1] [0, 1, 2, 3, 4, 5, 6, 7, 8, 9, 10, 11]
   refine rtp 0 (.slice QB vZ yf) S ?_
   refine rtp 1 (.int .i64 ((s.qg[i]!).qy)) S ?_
   refine rtp 2 (.slice QB vZ yf) S ?_
   refine rtp 3 (.int .i64 ((s.qg[i]!).qy)) S ?_
   obtain ⟨b45, rfl⟩ := H.XI 0 rfl (by omega)
   have S := H.jP [1] [0, 1, 2, 3, 4, 5, 6, 7, 8, 9, 10, 11]
   refine rt 4 (pp b45 (0 + ((s.qg[i]!).qy : Int).toNat * 1)) (xK b45 (0) vZ yf ((s.qg[i]!).qy) Try.underlying37 ti22 rfl rfl (by omega) (by omega)) S ?_
   refine rtp 6 (pp bs os) S ?_
   refine rtp 7 (pp bs os) S ?_
   refine rt 8 (pp bs (os + 2)) (xF bs (os) 2 Try.underlying30 rfl rfl Try.sizeOf28 rfl) S ?_
   refine rt 9 (.slice (aa b40 o41) s.qg.length qC) (xm Try.isAgg28 rfl (fun _ h => h.zh 8 rfl 2 rfl)) S ?_
   refine rtp 10 (.int .i64 i) S ?_
   refine rt 11 (pp b40 (o41 + (i : Int).toNat * 9)) (xK b40 (o41) s.qg.length qC i Try.underlying28 ti92 rfl rfl (by omega) (by omega)) S ?_
   refine rt 12 (pp b40 (o41 + (i : Int).toNat * 9 + 2)) (xF b40 (o41 + (i : Int).toNat * 9) 2 Try.underlying92 rfl rfl Try.sizeOf22 rfl) S ?_
   refine rt 13 (.slice ae43Need (((s.qg[i]!).qR).length) ce43Need) (xm Try.isAgg22 rfl (fun _ h => h.zh 6 rfl 2 rfl)) S ?_
   refine rtp 14 (.slice (aa b36 o37) counts.length ccounts) S ?_
   refine rtp 15 (.int .i64 i) S ?_
   refine rt 16 (pp b36 (o37 + (i : Int).toNat * 1)) (xK b36 (o37) counts.length ccounts i Try.underlying22 ti2 rfl rfl (by omega) (by omega)) S ?_
   refine rt 17 (.int .i64 (counts[i]!)) (xm Try.isAgg2 rfl (fun _ h => h.vX 11 rfl i (by omega) (by omega))) S ?_
   refine rt 18 (.int .i64 (-(counts[i]!))) (y_neg (counts[i]!) rfl (by omega)) S ?_
   refine xn [5] (by kernel_rfl) (by simp) (zg rfl ?_ xq)
   obtain ⟨a46, c47, G48, s49, h50, H⟩ := H.jD 0 rfl 7 rfl (iv := (s.qg[i]!).qy) (((s.qg[i]!).qy).toNat) (by omega) (by omega)
   refine qF (.slice a46 (((vT s t counts i)[((s.qg[i]!).qy).toNat]!).length) c47) Try.isAgg22 rfl (h50) ?_
   refine ⟨H.pick [1] [1, 2, 3, 4, 5, 6, 7, 8, 9, 10, 11, 12], ?_⟩
   refine xn [19] (by kernel_rfl) (by simp) (zg rfl ?_ xq)
   obtain ⟨u1, u2⟩ := restR_row (c := (s.qg[i]!).qy.toNat) p0 p1 p2 (show i ≤ _ by omega) qk
   have u3 := b1.len
   have u4 := b1.yz (t := -(counts[i]!)) (by omega)
   have sz51 := H.base.size
   have lt52 := H.ltN (L := [QX]) [8]
   refine xf #[.slice a46 (((vT s t counts i)[((s.qg[i]!).qy).toNat]!).length) c47, .slice ae43Need (((s.qg[i]!).qR).length) ce43Need, .int .i64 (-(counts[i]!))] rfl rfl Try.call79 (Xy w34.drew ((vT s t counts i)[((s.qg[i]!).qy).toNat]!) ((s.qg[i]!).qR) (-(counts[i]!)) a46 c47 G48 ae43Need ce43Need Fe43Need (H.get 0 rfl).1 (H.get 1 rfl).1 (by first | assumption | omega) (by first | assumption | omega) (by first | assumption | omega)) ?_
   rintro v56 w54 r56 x55
   replace H := H.zI x55 r56
   obtain ⟨a57, c58, rfl, hc59, hm60⟩ := H.jW 0 rfl
   refine ⟨H.pick [2] [1, 2, 3, 4, 5, 6, 7, 8, 9, 10, 11, 12], ?_⟩
   refine rt 20 (pp b45 (0 + ((s.qg[i]!).qy : Int).toNat * 1)) (xK b45 (0) vZ yf ((s.qg[i]!).qy) Try.underlying37 ti22 rfl rfl (by omega) (by omega)) (H.pick [2] [1, 2, 3, 4, 5, 6, 7, 8, 9, 10, 11, 12]) ?_
   refine xn [21] (by kernel_rfl) (by simp) (zg rfl ?_ xq)
   obtain ⟨G62, N, hn63, H⟩ := H.yN 0 rfl N (H.Vb [8])
   try dsimp only [List.set] at H
   refine jw true H 1 rfl 9 rfl (.slice a57 ((yj ((vT s t counts i)[((s.qg[i]!).qy).toNat]!) ((s.qg[i]!).qR) (-(counts[i]!))).length) c58) 0 rfl rfl Try.sizeOf22 rfl rfl (i := (((s.qg[i]!).qy).toNat)) (by omega) (by omega) (by simp) fun w61 xs64 F65 hs66 H => ?_
   replace N : Fresh w.heap.size [F65] := (N.pick [1, 0]).repl hs66
   try dsimp only [List.set] at H
   refine ⟨H.pick [2] [3, 4, 5, 6, 7, 8, 9, 10, 11, 12, 13, 14], ?_⟩
   refine xM (by kernel_rfl) (b_n (t_n ?_))
   refine qB ?_
   refine sp (.int .i64 i) ?_
   refine sw (vz i 1 rfl rfl (by omega) ?_)
   refine sp (.int .i64 (i + 1)) ?_
   refine qA ?_
   refine xH (m' := (counts.length - ((i + 1) : Int)).toNat) (by omega) ⟨_, i + 1, ((vT s t counts i).set (((s.qg[i]!).qy).toNat) (yj ((vT s t counts i)[((s.qg[i]!).qy).toNat]!) ((s.qg[i]!).qR) (-(counts[i]!)))), xs64, F65, (by exact qj (qj (qj (qj (qj (rfl) rfl) rfl) rfl) rfl) rfl), ?_, ?_, ?_, rfl, N, H.pick [1, 2] [0, 11, 12, 13, 14]⟩
   · rfl
   · omega
   · exact i1.succ (fun h => by obtain ⟨u, v⟩ := h; first | omega | exact v (appl_true (by omega) ‹_›))
  replace h39 := of_decide_eq_true h39
  refine qU 50 rfl rfl ?_
  refine sp (.slice ra1 ((appl s t).length) rc1) ?_
  refine qU 50 rfl rfl ?_
  refine sp (.int .i64 i) ?_
  refine qU 50 rfl rfl ?_
  obtain ⟨b67, rfl⟩ := H.XI 1 rfl (by omega)
  refine sw (xO i Try.underlying36 ti4 rfl rfl (by omega) (by omega) ?_)
  refine qU 50 rfl rfl ?_
  refine sw (qF (.bool ((appl s t)[i]!)) Try.isAgg4 rfl (H.rowBool 1 rfl (iv := i) (i := i) (by omega) (by omega)) ?_)
  refine qU 50 rfl rfl ?_
  refine sps [.bool (!((appl s t)[i]!)), .bool (!((appl s t)[i]!))] ?_
  refine qA (t_n ?_)
  refine qX (!((appl s t)[i]!)) rfl (fun h68 => ?_) (fun h68 => ?_)
  ·skip
   replace h68 := xh h68
   refine qo (qB ?_)
   refine sps [.slice QB vZ yf, .slice QB vZ yf, .bool false] ?_
   refine qA (t_n (xE (t_r (b_r (t_r (t_r (b_r (t_r ?_))))))))
   refine ret2 (.slice QB vZ yf) (.bool false) rfl rfl rfl ⟨_, rfl, ?_, H.base⟩
   rw [stop_first (k := i) i1 (by omega) ⟨by omega, appl_false (by omega) ‹_›⟩, xB (fun h => h.1 i (by omega) ⟨by omega, appl_false (by omega) ‹_›⟩)]
   exact ⟨QB, vZ, yf, Xp, QX, rfl, N, H.pick [0] [0]⟩
  replace h68 := qY h68
  refine xy (t_n (qo (qB ?_)))
  refine sps [pp bs os, pp bs os] ?_
  refine sw (qO bs (os) 2 Try.underlying30 rfl rfl Try.sizeOf28 rfl ?_)
  refine sw (qF (.slice qG s.qg.length qC) Try.isAgg28 rfl (H.zh 1 rfl 2 rfl) ?_)
  refine sp (.int .i64 i) ?_
  obtain ⟨b69, o70, rfl⟩ := H.addr 3 rfl (by omega)
  obtain ⟨ae72Need, ce72Need, Fe72Need, ae72Have, ce72Have, Fe72Have, ae72Lack, ce72Lack, Fe72Lack, ae72Here, ce72Here, Fe72Here, ae72Out, ce72Out, Fe72Out, ae72Into, ce72Into, Fe72Into, H⟩ := H.yD 3 rfl i i (by omega) (by omega) (by omega)
  refine sw (xO i Try.underlying28 ti92 rfl rfl (by omega) (by omega) ?_)
  refine sw (qO b69 (o70 + (i : Int).toNat * 9) 0 Try.underlying92 rfl rfl Try.sizeOf2 rfl ?_)
  refine sw (qF (.int .i64 ((s.qg[i]!).qy)) Try.isAgg2 rfl (H.zh 6 rfl 0 rfl) ?_)
  refine sp (.int .i64 ((s.qg[i]!).qy)) ?_
  refine qA (t_n ?_)
  refine yT rfl H [1] fun H => ?_
  have S := H.jP [1] [0, 1, 2, 3, 4, 5, 6, 7, 8, 9, 10, 11]
  refine rtp 0 (.slice QB vZ yf) S ?_
  refine rtp 1 (.int .i64 ((s.qg[i]!).qy)) S ?_
  refine rtp 2 (.slice QB vZ yf) S ?_
  refine rtp 3 (.int .i64 ((s.qg[i]!).qy)) S ?_
  obtain ⟨b74, rfl⟩ := H.XI 0 rfl (by omega)
  have S := H.jP [1] [0, 1, 2, 3, 4, 5, 6, 7, 8, 9, 10, 11]
  refine rt 4 (pp b74 (0 + ((s.qg[i]!).qy : Int).toNat * 1)) (xK b74 (0) vZ yf ((s.qg[i]!).qy) Try.underlying37 ti22 rfl rfl (by omega) (by omega)) S ?_
  refine rtp 6 (pp bs os) S ?_
  refine rtp 7 (pp bs os) S ?_
  refine rt 8 (pp bs (os + 2)) (xF bs (os) 2 Try.underlying30 rfl rfl Try.sizeOf28 rfl) S ?_
  refine rt 9 (.slice (aa b69 o70) s.qg.length qC) (xm Try.isAgg28 rfl (fun _ h => h.zh 8 rfl 2 rfl)) S ?_
  refine rtp 10 (.int .i64 i) S ?_
  refine rt 11 (pp b69 (o70 + (i : Int).toNat * 9)) (xK b69 (o70) s.qg.length qC i Try.underlying28 ti92 rfl rfl (by omega) (by omega)) S ?_
  refine rt 12 (pp b69 (o70 + (i : Int).toNat * 9 + 2)) (xF b69 (o70 + (i : Int).toNat * 9) 2 Try.underlying92 rfl rfl Try.sizeOf22 rfl) S ?_
  refine rt 13 (.slice ae72Need (((s.qg[i]!).qR).length) ce72Need) (xm Try.isAgg22 rfl (fun _ h => h.zh 6 rfl 2 rfl)) S ?_
  refine rtp 14 (.slice (aa b36 o37) counts.length ccounts) S ?_
  refine rtp 15 (.int .i64 i) S ?_
  refine rt 16 (pp b36 (o37 + (i : Int).toNat * 1)) (xK b36 (o37) counts.length ccounts i Try.underlying22 ti2 rfl rfl (by omega) (by omega)) S ?_
  refine rt 17 (.int .i64 (counts[i]!)) (xm Try.isAgg2 rfl (fun _ h => h.vX 11 rfl i (by omega) (by omega))) S ?_
  refine rt 18 (.int .i64 (-(counts[i]!))) (y_neg (counts[i]!) rfl (by omega)) S ?_
  refine xn [5] (by kernel_rfl) (by simp) (zg rfl ?_ xq)
  obtain ⟨a75, c76, G77, s78, h79, H⟩ := H.jD 0 rfl 7 rfl (iv := (s.qg[i]!).qy) (((s.qg[i]!).qy).toNat) (by omega) (by omega)
  refine qF (.slice a75 (((vT s t counts i)[((s.qg[i]!).qy).toNat]!).length) c76) Try.isAgg22 rfl (h79) ?_
  refine ⟨H.pick [1] [1, 2, 3, 4, 5, 6, 7, 8, 9, 10, 11, 12], ?_⟩
  refine xn [19] (by kernel_rfl) (by simp) (zg rfl ?_ xq)
  obtain ⟨u1, u2⟩ := restR_row (c := (s.qg[i]!).qy.toNat) p0 p1 p2 (show i ≤ _ by omega) qk
  have u3 := b1.len
  have u4 := b1.yz (t := -(counts[i]!)) (by omega)
  have sz80 := H.base.size
  have lt81 := H.ltN (L := [QX]) [8]
  refine xf #[.slice a75 (((vT s t counts i)[((s.qg[i]!).qy).toNat]!).length) c76, .slice ae72Need (((s.qg[i]!).qR).length) ce72Need, .int .i64 (-(counts[i]!))] rfl rfl Try.call79 (Xy w34.drew ((vT s t counts i)[((s.qg[i]!).qy).toNat]!) ((s.qg[i]!).qR) (-(counts[i]!)) a75 c76 G77 ae72Need ce72Need Fe72Need (H.get 0 rfl).1 (H.get 1 rfl).1 (by first | assumption | omega) (by first | assumption | omega) (by first | assumption | omega)) ?_
  rintro v85 w83 r85 x84
  replace H := H.zI x84 r85
  obtain ⟨a86, c87, rfl, hc88, hm89⟩ := H.jW 0 rfl
  refine ⟨H.pick [2] [1, 2, 3, 4, 5, 6, 7, 8, 9, 10, 11, 12], ?_⟩
  refine rt 20 (pp b74 (0 + ((s.qg[i]!).qy : Int).toNat * 1)) (xK b74 (0) vZ yf ((s.qg[i]!).qy) Try.underlying37 ti22 rfl rfl (by omega) (by omega)) (H.pick [2] [1, 2, 3, 4, 5, 6, 7, 8, 9, 10, 11, 12]) ?_
  refine xn [21] (by kernel_rfl) (by simp) (zg rfl ?_ xq)
  obtain ⟨G91, N, hn92, H⟩ := H.yN 0 rfl N (H.Vb [8])
  try dsimp only [List.set] at H
  refine jw true H 1 rfl 9 rfl (.slice a86 ((yj ((vT s t counts i)[((s.qg[i]!).qy).toNat]!) ((s.qg[i]!).qR) (-(counts[i]!))).length) c87) 0 rfl rfl Try.sizeOf22 rfl rfl (i := (((s.qg[i]!).qy).toNat)) (by omega) (by omega) (by simp) fun w90 xs93 F94 hs95 H => ?_
  replace N : Fresh w.heap.size [F94] := (N.pick [1, 0]).repl hs95
  try dsimp only [List.set] at H
  refine ⟨H.pick [2] [3, 4, 5, 6, 7, 8, 9, 10, 11, 12, 13, 14], ?_⟩
  refine xM (by kernel_rfl) (b_n (t_n ?_))
  refine qB ?_
  refine sp (.int .i64 i) ?_
  refine sw (vz i 1 rfl rfl (by omega) ?_)
  refine sp (.int .i64 (i + 1)) ?_
  refine qA ?_
  refine xH (m' := (counts.length - ((i + 1) : Int)).toNat) (by omega) ⟨_, i + 1, ((vT s t counts i).set (((s.qg[i]!).qy).toNat) (yj ((vT s t counts i)[((s.qg[i]!).qy).toNat]!) ((s.qg[i]!).qR) (-(counts[i]!)))), xs93, F94, (by exact qj (qj (qj (qj (qj (rfl) rfl) rfl) rfl) rfl) rfl), ?_, ?_, ?_, rfl, N, H.pick [1, 2] [0, 11, 12, 13, 14]⟩
  · rfl
  · omega
  · exact i1.succ (fun h => by obtain ⟨u, v⟩ := h; first | omega | exact v (appl_true (by omega) ‹_›))
 replace h35 := of_decide_eq_false h35
 refine ve (t_x (t_x (b_x (t_n (qo (qo (qB ?_)))))))
 refine sp (.int .i64 0) ?_
 refine qA (t_n (xC ?_))
 refine vw (fun m' ρ w96 => ∃ (junk : Env) (c_1 : Nat), ρ = upd (upd junk 9 (.slice QB vZ yf)) 13 (.int .i64 c_1) ∧ ((c_1 : Int) ≤ vZ) ∧ (NonNeg (vT s t counts i) c_1) ∧ m' = (vZ - (c_1 : Int)).toNat ∧ Fresh w.heap.size [QX] ∧ St w w96 [.row (.slice QB vZ yf) 22 1 vZ Xp, .row (.slice ra1 ((appl s t).length) rc1) 4 1 ((appl s t).length) ((appl s t).map (Value.bool))] [jl true QX Xp (vT s t counts i)]) ((vZ - (0 : Int)).toNat) ⟨_, 0, (by exact qj (qj (rfl) rfl) rfl), (by omega), (by exact fun j hj => by omega), rfl, N, H.pick [0, 1] [0]⟩ ?_
 clear H N
 rintro m' ρ w97 ⟨junk, c_1, rfl, i0, i2, rfl, N, H⟩
 refine qo (qo (qB ?_))
 refine sps [.int .i64 c_1, .slice QB vZ yf] ?_
 refine sw (vI Try.underlying37 QB vZ yf rfl ?_)
 refine sp (.bool (decide ((c_1 : Int) < vZ))) ?_
 refine qA (t_n ?_)
 refine qX (decide ((c_1 : Int) < vZ)) rfl (fun h98 => ?_) (fun h98 => ?_)
 ·skip
  replace h98 := of_decide_eq_true h98
  have r1 := (restR_row (c := c_1) p0 p1 p2 (show i ≤ _ by omega) (show c_1 < jg s by omega)).1
  refine xy (t_n (qo (xC (qo (qB ?_)))))
  refine sp (.int .i64 0) ?_
  refine qA (t_n (xC ?_))
  refine vw (fun m' ρ w99 => ∃ (junk : Env) (k : Nat), ρ = upd (upd (upd junk 9 (.slice QB vZ yf)) 13 (.int .i64 c_1)) 14 (.int .i64 k) ∧ ((k : Int) ≤ (((vT s t counts i)[c_1]!).length)) ∧ (∀ j, j < k → 0 ≤ ((vT s t counts i)[c_1]!)[j]!) ∧ m' = ((((vT s t counts i)[c_1]!).length) - (k : Int)).toNat ∧ Fresh w.heap.size [QX] ∧ St w w99 [.row (.slice QB vZ yf) 22 1 vZ Xp, .row (.slice ra1 ((appl s t).length) rc1) 4 1 ((appl s t).length) ((appl s t).map (Value.bool))] [jl true QX Xp (vT s t counts i)]) (((((vT s t counts i)[c_1]!).length) - (0 : Int)).toNat) ⟨_, 0, (by exact qj (qj (qj (rfl) rfl) rfl) rfl), (by omega), (by exact fun j hj => by omega), rfl, N, H⟩ ?_
  clear H N
  rintro m' ρ w100 ⟨junk, k, rfl, i0, i3, rfl, N, H⟩
  refine qo (qo (qB ?_))
  refine sps [.int .i64 k, .slice QB vZ yf, .int .i64 c_1] ?_
  obtain ⟨b101, rfl⟩ := H.XI 0 rfl (by omega)
  refine sw (xO c_1 Try.underlying37 ti22 rfl rfl (by omega) (by omega) ?_)
  obtain ⟨a102, c103, G104, s105, h106, H⟩ := H.jD 0 rfl 0 rfl (iv := c_1) c_1 (by omega) (by omega)
  refine sw (qF (.slice a102 (((vT s t counts i)[c_1]!).length) c103) Try.isAgg22 rfl (h106) ?_)
  refine sw (vI Try.underlying22 a102 (((vT s t counts i)[c_1]!).length) c103 rfl ?_)
  refine sp (.bool (decide ((k : Int) < (((vT s t counts i)[c_1]!).length)))) ?_
  refine qA (t_n ?_)
  refine qX (decide ((k : Int) < (((vT s t counts i)[c_1]!).length))) rfl (fun h107 => ?_) (fun h107 => ?_)
  ·skip
   replace h107 := of_decide_eq_true h107
   refine xy (t_n (qo (xC (qo (qB ?_)))))
   refine sps [.slice (aa b101 0) vZ yf, .int .i64 c_1] ?_
   refine sw (xO c_1 Try.underlying37 ti22 rfl rfl (by omega) (by omega) ?_)
   obtain ⟨a108, c109, G110, s111, h112, H⟩ := H.jD 0 rfl 1 rfl (iv := c_1) c_1 (by omega) (by omega)
   refine sw (qF (.slice a108 (((vT s t counts i)[c_1]!).length) c109) Try.isAgg22 rfl (h112) ?_)
   refine sp (.int .i64 k) ?_
   obtain ⟨b113, o114, rfl⟩ := H.addr 0 rfl (by omega)
   refine sw (xO k Try.underlying22 ti2 rfl rfl (by omega) (by omega) ?_)
   refine sw (qF (.int .i64 (((vT s t counts i)[c_1]!)[k]!)) Try.isAgg2 rfl (H.vX 0 rfl k (by omega) (by omega)) ?_)
   refine sp (.bool (decide ((((vT s t counts i)[c_1]!)[k]! : Int) < 0))) ?_
   refine qA (t_n ?_)
   refine qX (decide ((((vT s t counts i)[c_1]!)[k]! : Int) < 0)) rfl (fun h116 => ?_) (fun h116 => ?_)
   ·skip
    replace h116 := of_decide_eq_true h116
    refine qo (qB ?_)
    refine sps [.slice (aa b101 0) vZ yf, .slice (aa b101 0) vZ yf, .bool false] ?_
    refine qA (t_n (xE (b_r (t_r (t_r (b_r (b_r (t_r (t_r (b_r (t_r ?_)))))))))))
    refine ret2 (.slice (aa b101 0) vZ yf) (.bool false) rfl rfl rfl ⟨_, rfl, ?_, H.base⟩
    obtain rfl : i = counts.length := by omega
    rw [stop_none (n := counts.length) i1, xB (fun h => by have := h.2 c_1 (by omega) k (by omega); omega)]
    exact ⟨(aa b101 0), vZ, yf, Xp, QX, rfl, N, H.pick [0] [2]⟩
   replace h116 := of_decide_eq_false h116
   refine xy (b_n (t_n (qB ?_)))
   refine sp (.int .i64 k) ?_
   refine sw (vz k 1 rfl rfl (by omega) ?_)
   refine sp (.int .i64 (k + 1)) ?_
   refine qA ?_
   refine xH (m' := ((((vT s t counts i)[c_1]!).length) - ((k + 1) : Int)).toNat) (by omega) ⟨_, k + 1, (by exact qj (qj (qj (rfl) rfl) rfl) rfl), ?_, ?_, rfl, N, H.pick [0, 1] [2]⟩
   · omega
   · exact fun j hj => by (by_cases e : j = k; (subst e; omega); exact i3 j (by omega))
  replace h107 := of_decide_eq_false h107
  refine ve (t_x (t_x (b_x (b_n (t_n (qB ?_))))))
  refine sp (.int .i64 c_1) ?_
  refine sw (vz c_1 1 rfl rfl (by omega) ?_)
  refine sp (.int .i64 (c_1 + 1)) ?_
  refine qA ?_
  refine xH (m' := (vZ - ((c_1 + 1) : Int)).toNat) (by omega) ⟨_, c_1 + 1, (by exact qj (qj (rfl) rfl) rfl), ?_, ?_, rfl, N, H.pick [0, 1] [1]⟩
  · omega
  · exact i2.succ (fun j hj => i3 j (by omega))
 replace h98 := of_decide_eq_false h98
 refine ve (t_x (t_x (b_x (t_n (qo (qB ?_))))))
 refine sps [.slice QB vZ yf, .slice QB vZ yf, .bool true] ?_
 refine qA (t_n (xE ?_))
 refine ret2 (.slice QB vZ yf) (.bool true) rfl rfl rfl ⟨_, rfl, ?_, H.base⟩
 obtain rfl : i = counts.length := by omega
 rw [stop_none (n := counts.length) i1, yZ ⟨i1, (show c_1 = t.qp.length by omega) ▸ i2⟩]
 exact ⟨QB, vZ, yf, Xp, QX, rfl, N, H.pick [0] [0]⟩

end Go.Proofs.Ytkmlihdacnfhdaa
