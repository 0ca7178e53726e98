/- Walks, printed by program (wip/tools/gv.py): what each function comes to, for all arguments. -/
import Derived.Test.YtkmlihdacnfhdaaGreatG5
import Derived.Test.YtkmlihdacnfhdaaGreatP6
namespace Go.Proofs.YtkmlihdacnfhdaaGreat
open Go.Proofs.YtkmlihdacnfhdaaGreat.Tot (tot)
open Go.Proofs.YtkmlihdacnfhdaaGreat.Mark (cnt mrk mkd mkd_mark cnt_mark)
open Go.RowKit
set_option linter.unusedVariables false
set_option linter.unusedSimpArgs false
set_option maxRecDepth 100000
set_option maxHeartbeats 4000000



theorem l00Max_ok (w : World) (a : Int) (b : Int) : Calls Tryz.prog 130 #[.int .i64 a, .int .i64 b] w (Ret (fun v w' => v = .int .i64 (max a b)) w) := by
 refine enter (n := 10) Tryz.func130 rfl Tryz.ntmps130 (Nat.le_of_ble_eq_true rfl) ?_
 have H := St.start w
 have N := Fresh.nil w.heap.size
 refine qh (qp ?_)
 refine sp (.int .i64 0) ?_
 refine qo (t_n (qh (qh (qp ?_))))
 refine sps [.int .i64 a, .int .i64 b, .bool (decide ((a : Int) > b))] ?_
 refine qo (t_n ?_)
 refine qP (decide ((a : Int) > b)) rfl (fun h1 => ?_) (fun h1 => ?_)
 ·skip
  replace h1 := of_decide_eq_true h1
  refine qh (qp ?_)
  refine sps [.int .i64 a, .int .i64 a] ?_
  refine qo (t_n (xh (t_r ?_)))
  refine ret1 (.int .i64 a) rfl rfl ⟨_, rfl, ?_, H.base⟩
  refine congrArg (Value.int .i64) ?_
  omega
 replace h1 := of_decide_eq_false h1
 refine xg (t_n (qh (qp ?_)))
 refine sps [.int .i64 b, .int .i64 b] ?_
 refine qo (t_n (xh ?_))
 refine ret1 (.int .i64 b) rfl rfl ⟨_, rfl, ?_, H.base⟩
 refine congrArg (Value.int .i64) ?_
 omega

theorem l01Within_ok (w : World) (l : List Int) (m : List Int) (al : Option Addr) (cl : Nat) (Fl : List Nat) (am : Option Addr) (cm : Nat) (Fm : List Nat) (hl : qM.rep w Fl [.slice al l.length cl] l) (hm : qM.rep w Fm [.slice am m.length cm] m) (p0 : l.length ≤ m.length) : Calls Tryz.prog 121 #[.slice al l.length cl, .slice am m.length cm] w (Ret (fun v w' => v = .bool (within l m)) w) := by
 refine enter (n := 21) Tryz.func121 rfl Tryz.ntmps121 (Nat.le_of_ble_eq_true rfl) ?_
 have H := ((St.start w).arg hm).arg hl
 have nhl := qJ hl
 have nhm := qJ hm
 clear hl hm
 have N := Fresh.nil w.heap.size
 refine qh (qp ?_)
 refine sp (.bool false) ?_
 refine qo (t_n (qh (qh (qp ?_))))
 refine sp (.int .i64 0) ?_
 refine qo (t_n (xn ?_))
 refine zC (fun m' ρ w1 => ∃ (junk : Env) (i : Nat), ρ = upd (upd (upd junk 0 (.slice al l.length cl)) 1 (.slice am m.length cm)) 5 (.int .i64 i) ∧ ((i : Int) ≤ l.length) ∧ (withinTo l m i) ∧ m' = (l.length - (i : Int)).toNat ∧ Fresh w.heap.size [] ∧ St w w1 [] [isF false Fl (.slice al l.length cl) l, isF false Fm (.slice am m.length cm) m]) ((l.length - (0 : Int)).toNat) ⟨_, 0, (by exact qj (qj (qj (rfl) rfl) rfl) rfl), (by omega), (by exact withinTo_zero l m), rfl, N, H⟩ ?_
 clear H N
 rintro m' ρ w2 ⟨junk, i, rfl, i0, i1, rfl, N, H⟩
 refine qh (qh (qp ?_))
 refine sps [.int .i64 i, .slice al l.length cl] ?_
 refine sw (zK Tryz.underlying22 al l.length cl rfl ?_)
 refine sp (.bool (decide ((i : Int) < l.length))) ?_
 refine qo (t_n ?_)
 refine qP (decide ((i : Int) < l.length)) rfl (fun h3 => ?_) (fun h3 => ?_)
 ·skip
  replace h3 := of_decide_eq_true h3
  refine xg (t_n (qh (xn (qh ?_))))
  refine jf rfl H fun H => ?_
  refine rtp 0 (.slice al l.length cl) H ?_
  refine rtp 1 (.int .i64 i) H ?_
  obtain ⟨b5, o6, rfl⟩ := H.addr 0 rfl (by omega)
  refine rt 2 (pp b5 (o6 + (i : Int).toNat * 1)) (xQ b5 (o6) l.length cl i Tryz.underlying22 ti2 rfl rfl (by omega) (by omega)) H ?_
  refine rt 3 (.int .i64 (l[i]!)) (xw Tryz.isAgg2 rfl (fun _ h => h.vH 0 rfl i (by omega) (by omega))) H ?_
  refine rtp 4 (.slice am m.length cm) H ?_
  refine rtp 5 (.int .i64 i) H ?_
  obtain ⟨b8, o9, rfl⟩ := H.addr 1 rfl (by omega)
  refine rt 6 (pp b8 (o9 + (i : Int).toNat * 1)) (xQ b8 (o9) m.length cm i Tryz.underlying22 ti2 rfl rfl (by omega) (by omega)) H ?_
  refine rt 7 (.int .i64 (m[i]!)) (xw Tryz.isAgg2 rfl (fun _ h => h.vH 1 rfl i (by omega) (by omega))) H ?_
  refine rtp 8 (.bool (decide ((l[i]! : Int) > (m[i]!)))) H ?_
  refine xZ (by kernel_rfl) (t_n ?_)
  refine qP (decide ((l[i]! : Int) > (m[i]!))) rfl (fun h11 => ?_) (fun h11 => ?_)
  ·skip
   replace h11 := of_decide_eq_true h11
   refine qh (qp ?_)
   refine sp (.bool false) ?_
   refine qo (t_n (xh (b_r (t_r (t_r (b_r (t_r ?_)))))))
   refine ret1 (.bool false) rfl rfl ⟨_, rfl, ?_, H.base⟩
   rw [within_no (k := i) ‹_› (by omega)]
  replace h11 := of_decide_eq_false h11
  refine xg (b_n (t_n (qp ?_)))
  refine sp (.int .i64 i) ?_
  refine sw (zD i 1 rfl rfl (by omega) ?_)
  refine sp (.int .i64 (i + 1)) ?_
  refine qo ?_
  refine xy (m' := (l.length - ((i + 1) : Int)).toNat) (by omega) ⟨_, i + 1, (by exact qj (qj (qj (rfl) rfl) rfl) rfl), ?_, ?_, rfl, N, H⟩
  · omega
  · exact withinTo_succ ‹_› (by omega)
 replace h3 := of_decide_eq_false h3
 refine zx (t_x (t_x (b_x (t_n (qh (qp ?_))))))
 refine sp (.bool true) ?_
 refine qo (t_n (xh ?_))
 refine ret1 (.bool true) rfl rfl ⟨_, rfl, ?_, H.base⟩
 rw [within_yes ‹_› (by omega)]

theorem l01Times_ok (w : World) (l : List Int) (m : List Int) (al : Option Addr) (cl : Nat) (Fl : List Nat) (am : Option Addr) (cm : Nat) (Fm : List Nat) (hl : qM.rep w Fl [.slice al l.length cl] l) (hm : qM.rep w Fm [.slice am m.length cm] m) (p0 : l.length ≤ m.length) (p2 : ∀ k, k < l.length → 0 ≤ m[k]! ∧ m[k]! ≤ 1000) (p3 : ∃ j, j < l.length ∧ 0 < l[j]!) : Calls Tryz.prog 139 #[.slice al l.length cl, .slice am m.length cm] w (Ret (fun v w' => v = .int .i64 (jq l m)) w) := by
 refine enter (n := 45) Tryz.func139 rfl Tryz.ntmps139 (Nat.le_of_ble_eq_true rfl) ?_
 have H := ((St.start w).arg hm).arg hl
 have nhl := qJ hl
 have nhm := qJ hm
 clear hl hm
 have N := Fresh.nil w.heap.size
 refine qh (qp ?_)
 refine sp (.int .i64 0) ?_
 refine qo (t_n (qh (qp ?_)))
 refine sp (.int .i64 (-1)) ?_
 refine qo (t_n (qh (qh (qp ?_))))
 refine sp (.int .i64 0) ?_
 refine qo (t_n (xn ?_))
 refine zC (fun m' ρ w1 => ∃ (junk : Env) (best : Int) (i : Nat), ρ = upd (upd (upd (upd junk 0 (.slice al l.length cl)) 1 (.slice am m.length cm)) 5 (.int .i64 best)) 6 (.int .i64 i) ∧ ((i : Int) ≤ l.length) ∧ (Qd l m i best) ∧ m' = (l.length - (i : Int)).toNat ∧ Fresh w.heap.size [] ∧ St w w1 [] [isF false Fl (.slice al l.length cl) l, isF false Fm (.slice am m.length cm) m]) ((l.length - (0 : Int)).toNat) ⟨_, (-1), 0, (by exact qj (qj (qj (qj (rfl) rfl) rfl) rfl) rfl), (by omega), (by exact Qd.zero l m), rfl, N, H⟩ ?_
 clear H N
 rintro m' ρ w2 ⟨junk, best, i, rfl, i0, i1, rfl, N, H⟩
 refine qh (qh (qp ?_))
 refine sps [.int .i64 i, .slice al l.length cl] ?_
 refine sw (zK Tryz.underlying22 al l.length cl rfl ?_)
 refine sp (.bool (decide ((i : Int) < l.length))) ?_
 refine qo (t_n ?_)
 refine qP (decide ((i : Int) < l.length)) rfl (fun h3 => ?_) (fun h3 => ?_)
 ·skip
  replace h3 := of_decide_eq_true h3
  refine xg (t_n (qh (xn (qh ?_))))
  refine jf rfl H fun H => ?_
  refine rtp 0 (.slice al l.length cl) H ?_
  refine rtp 1 (.int .i64 i) H ?_
  obtain ⟨b5, o6, rfl⟩ := H.addr 0 rfl (by omega)
  refine rt 2 (pp b5 (o6 + (i : Int).toNat * 1)) (xQ b5 (o6) l.length cl i Tryz.underlying22 ti2 rfl rfl (by omega) (by omega)) H ?_
  refine rt 3 (.int .i64 (l[i]!)) (xw Tryz.isAgg2 rfl (fun _ h => h.vH 0 rfl i (by omega) (by omega))) H ?_
  refine rtp 4 (.bool (decide ((l[i]! : Int) > 0))) H ?_
  refine rtp 5 (.bool (decide ((l[i]! : Int) > 0))) H ?_
  cases h8 : (decide ((l[i]! : Int) > 0))
  ·skip
   replace h8 := of_decide_eq_false h8
   refine zq [6, 7, 8, 9, 10, 11, 12, 13, 14, 15, 16, 17, 18, 19, 20] 15 (H) ?_
   refine rtp 21 (.bool false) H ?_
   refine xZ (by kernel_rfl) (t_n ?_)
   refine qP false rfl (fun h => absurd h (by decide)) (fun _ => ?_)
   refine xg (b_n (t_n (qp ?_)))
   refine sp (.int .i64 i) ?_
   refine sw (zD i 1 rfl rfl (by (have := p2 i (by omega); omega)) ?_)
   refine sp (.int .i64 (i + 1)) ?_
   refine qo ?_
   refine xy (m' := (l.length - ((i + 1) : Int)).toNat) (by omega) ⟨_, best, i + 1, (by exact qj (qj (qj (qj (rfl) rfl) rfl) rfl) rfl), ?_, ?_, rfl, N, H⟩
   · omega
   · first | exact i1.take (p2 i (by omega)) (by omega) (by omega) (Xr (fun k hk => (p2 k hk).1) i (by omega)).1 | exact i1.keep (by omega) | exact i1.keep2 (by omega) (by omega) (by omega)
  replace h8 := of_decide_eq_true h8
  refine rgp 6 (.int .i64 best) 18 H ?_
  refine rgp 7 (.bool (decide ((best : Int) < 0))) 18 H ?_
  refine rgp 8 (.bool (decide ((best : Int) < 0))) 18 H ?_
  cases h9 : (decide ((best : Int) < 0))
  ·skip
   replace h9 := of_decide_eq_false h9
   refine rgp 9 (.slice am m.length cm) 21 H ?_
   refine rgp 10 (.int .i64 i) 21 H ?_
   obtain ⟨b10, o11, rfl⟩ := H.addr 1 rfl (by omega)
   refine rg 11 (pp b10 (o11 + (i : Int).toNat * 1)) 21 (xQ b10 (o11) m.length cm i Tryz.underlying22 ti2 rfl rfl (by omega) (by omega)) H ?_
   refine rg 12 (.int .i64 (m[i]!)) 21 (xw Tryz.isAgg2 rfl (fun _ h => h.vH 1 rfl i (by omega) (by omega))) H ?_
   refine rgp 13 (.slice (aa b5 o6) l.length cl) 21 H ?_
   refine rgp 14 (.int .i64 i) 21 H ?_
   refine rg 15 (pp b5 (o6 + (i : Int).toNat * 1)) 21 (xQ b5 (o6) l.length cl i Tryz.underlying22 ti2 rfl rfl (by omega) (by omega)) H ?_
   refine rg 16 (.int .i64 (l[i]!)) 21 (xw Tryz.isAgg2 rfl (fun _ h => h.vH 0 rfl i (by omega) (by omega))) H ?_
   refine rg 17 (.int .i64 ((m[i]!) / (l[i]!))) 21 (y_quo (m[i]!) (l[i]!) rfl rfl (by (have := p2 i (by omega); omega)) (by (have := p2 i (by omega); omega))) H ?_
   refine rgp 18 (.int .i64 best) 21 H ?_
   refine rgp 19 (.bool (decide (((m[i]!) / (l[i]!) : Int) < best))) 21 H ?_
   refine rgp 20 (.bool (decide (((m[i]!) / (l[i]!) : Int) < best))) 18 H ?_
   refine rtp 21 (.bool (decide (((m[i]!) / (l[i]!) : Int) < best))) H ?_
   refine xZ (by kernel_rfl) (t_n ?_)
   refine qP (decide (((m[i]!) / (l[i]!) : Int) < best)) rfl (fun h13 => ?_) (fun h13 => ?_)
   ·skip
    replace h13 := of_decide_eq_true h13
    refine jf rfl H fun H => ?_
    refine rtp 0 (.slice (aa b10 o11) m.length cm) H ?_
    refine rtp 1 (.int .i64 i) H ?_
    refine rt 2 (pp b10 (o11 + (i : Int).toNat * 1)) (xQ b10 (o11) m.length cm i Tryz.underlying22 ti2 rfl rfl (by omega) (by omega)) H ?_
    refine rt 3 (.int .i64 (m[i]!)) (xw Tryz.isAgg2 rfl (fun _ h => h.vH 1 rfl i (by omega) (by omega))) H ?_
    refine rtp 4 (.slice (aa b5 o6) l.length cl) H ?_
    refine rtp 5 (.int .i64 i) H ?_
    refine rt 6 (pp b5 (o6 + (i : Int).toNat * 1)) (xQ b5 (o6) l.length cl i Tryz.underlying22 ti2 rfl rfl (by omega) (by omega)) H ?_
    refine rt 7 (.int .i64 (l[i]!)) (xw Tryz.isAgg2 rfl (fun _ h => h.vH 0 rfl i (by omega) (by omega))) H ?_
    refine rt 8 (.int .i64 ((m[i]!) / (l[i]!))) (y_quo (m[i]!) (l[i]!) rfl rfl (by (have := p2 i (by omega); omega)) (by (have := p2 i (by omega); omega))) H ?_
    refine rtp 9 (.int .i64 ((m[i]!) / (l[i]!))) H ?_
    refine xZ (by kernel_rfl) (b_n (t_n ?_))
    refine qp ?_
    refine sp (.int .i64 i) ?_
    refine sw (zD i 1 rfl rfl (by (have := p2 i (by omega); omega)) ?_)
    refine sp (.int .i64 (i + 1)) ?_
    refine qo ?_
    refine xy (m' := (l.length - ((i + 1) : Int)).toNat) (by omega) ⟨_, (m[i]!) / (l[i]!), i + 1, (by exact qj (qj (qj (qj (rfl) rfl) rfl) rfl) rfl), ?_, ?_, rfl, N, H⟩
    · omega
    · first | exact i1.take (p2 i (by omega)) (by omega) (by omega) (Xr (fun k hk => (p2 k hk).1) i (by omega)).1 | exact i1.keep (by omega) | exact i1.keep2 (by omega) (by omega) (by omega)
   replace h13 := of_decide_eq_false h13
   refine xg (b_n (t_n (qp ?_)))
   refine sp (.int .i64 i) ?_
   refine sw (zD i 1 rfl rfl (by (have := p2 i (by omega); omega)) ?_)
   refine sp (.int .i64 (i + 1)) ?_
   refine qo ?_
   refine xy (m' := (l.length - ((i + 1) : Int)).toNat) (by omega) ⟨_, best, i + 1, (by exact qj (qj (qj (qj (rfl) rfl) rfl) rfl) rfl), ?_, ?_, rfl, N, H⟩
   · omega
   · first | exact i1.take (p2 i (by omega)) (by omega) (by omega) (Xr (fun k hk => (p2 k hk).1) i (by omega)).1 | exact i1.keep (by omega) | exact i1.keep2 (by omega) (by omega) (by omega)
  replace h9 := of_decide_eq_true h9
  refine zq [9, 10, 11, 12, 13, 14, 15, 16, 17, 18, 19] 11 (H) ?_
  refine rgp 20 (.bool true) 18 H ?_
  refine rtp 21 (.bool true) H ?_
  refine xZ (by kernel_rfl) (t_n ?_)
  refine qP true rfl (fun _ => ?_) (fun h => absurd h (by decide))
  refine jf rfl H fun H => ?_
  refine rtp 0 (.slice am m.length cm) H ?_
  refine rtp 1 (.int .i64 i) H ?_
  obtain ⟨b16, o17, rfl⟩ := H.addr 1 rfl (by omega)
  refine rt 2 (pp b16 (o17 + (i : Int).toNat * 1)) (xQ b16 (o17) m.length cm i Tryz.underlying22 ti2 rfl rfl (by omega) (by omega)) H ?_
  refine rt 3 (.int .i64 (m[i]!)) (xw Tryz.isAgg2 rfl (fun _ h => h.vH 1 rfl i (by omega) (by omega))) H ?_
  refine rtp 4 (.slice (aa b5 o6) l.length cl) H ?_
  refine rtp 5 (.int .i64 i) H ?_
  refine rt 6 (pp b5 (o6 + (i : Int).toNat * 1)) (xQ b5 (o6) l.length cl i Tryz.underlying22 ti2 rfl rfl (by omega) (by omega)) H ?_
  refine rt 7 (.int .i64 (l[i]!)) (xw Tryz.isAgg2 rfl (fun _ h => h.vH 0 rfl i (by omega) (by omega))) H ?_
  refine rt 8 (.int .i64 ((m[i]!) / (l[i]!))) (y_quo (m[i]!) (l[i]!) rfl rfl (by (have := p2 i (by omega); omega)) (by (have := p2 i (by omega); omega))) H ?_
  refine rtp 9 (.int .i64 ((m[i]!) / (l[i]!))) H ?_
  refine xZ (by kernel_rfl) (b_n (t_n ?_))
  refine qp ?_
  refine sp (.int .i64 i) ?_
  refine sw (zD i 1 rfl rfl (by (have := p2 i (by omega); omega)) ?_)
  refine sp (.int .i64 (i + 1)) ?_
  refine qo ?_
  refine xy (m' := (l.length - ((i + 1) : Int)).toNat) (by omega) ⟨_, (m[i]!) / (l[i]!), i + 1, (by exact qj (qj (qj (qj (rfl) rfl) rfl) rfl) rfl), ?_, ?_, rfl, N, H⟩
  · omega
  · first | exact i1.take (p2 i (by omega)) (by omega) (by omega) (Xr (fun k hk => (p2 k hk).1) i (by omega)).1 | exact i1.keep (by omega) | exact i1.keep2 (by omega) (by omega) (by omega)
 replace h3 := of_decide_eq_false h3
 refine zx (t_x (t_x (b_x (t_n (qh (qp ?_))))))
 refine sps [.int .i64 best, .int .i64 best] ?_
 refine qo (t_n (xh ?_))
 refine ret1 (.int .i64 best) rfl rfl ⟨_, rfl, ?_, H.base⟩
 obtain rfl : i = l.length := by omega
 rw [i1.done p3]; rfl

theorem l03Enabled_ok (w : World) (s : qR) (t : xF) (r : yB) (bs os : Nat) (qm : Option Addr) (ql : Nat) (qL : List Nat) (qE : Option Addr) (qA : Nat) (xk : List Nat) (bt ot : Nat) (xu : Option Addr) (qZ : Nat) (xY : List Nat) (xB : Option Addr) (xx : Nat) (zG : List Nat) (qV : Option Addr) (qU : Nat) (xJ : List Nat) (br or : Nat) (zJ : Option Addr) (zI : Nat) (yV : List Nat) (ve : Option Addr) (zZ : Nat) (Qw : List Nat) (zQ : Option Addr) (zO : Nat) (Qk : List Nat) (vJ : Option Addr) (vI : Nat) (QK : List Nat) (yj : Option Addr) (yh : Nat) (FrOut : List Nat) (zy : Option Addr) (zh : Nat) (FrInto : List Nat) (hs : vg w bs os [.int .i64 s.qF, .slice qm s.qg.length ql, .slice qE s.qf.length qA]) (qY : qM.rep w qL [.slice qm s.qg.length ql] s.qg) (xA : qM.rep w xk [.slice qE s.qf.length qA] s.qf) (ht : vg w bt ot [.slice xu t.qy.length qZ, .slice xB t.qG.length xx, .slice qV t.qB.length qU]) (zo : qM.rep w xY [.slice xu t.qy.length qZ] t.qy) (zT : qM.rep w zG [.slice xB t.qG.length xx] t.qG) (xR : qM.rep w xJ [.slice qV t.qB.length qU] t.qB) (hr : vg w br or [.int .i64 r.qw, .int .i64 r.xM, .slice zJ r.qI.length zI, .slice ve r.qW.length zZ, .slice zQ r.qX.length zO, .slice vJ r.xe.length vI, .slice yj r.xO.length yh, .slice zy r.qx.length zh, .bool r.xG]) (hrNeed : qM.rep w yV [.slice zJ r.qI.length zI] r.qI) (hrHave : qM.rep w Qw [.slice ve r.qW.length zZ] r.qW) (hrLack : qM.rep w Qk [.slice zQ r.qX.length zO] r.qX) (hrHere : qM.rep w QK [.slice vJ r.xe.length vI] r.xe) (hrOut : qM.rep w FrOut [.slice yj r.xO.length yh] r.xO) (hrInto : qM.rep w FrInto [.slice zy r.qx.length zh] r.qx) (p0 : Qj s) (p1 : zY s t) (p2 : RuleOk s r) : Calls Tryz.prog 129 #[pp bs os, pp bt ot, pp br or] w (Ret (fun v w' => v = .bool (dec (EnOk s t r))) w) := by
 refine enter (n := 99) Tryz.func129 rfl Tryz.ntmps129 (Nat.le_of_ble_eq_true rfl) ?_
 have H := ((((((((((((((St.start w).arg hrInto).arg hrOut).arg hrHere).arg hrLack).arg hrHave).arg hrNeed).argAt hr).arg xR).arg zT).arg zo).argAt ht).arg xA).arg qY).argAt hs
 have zH := qJ qY
 have vN := qJ xA
 have QB := qJ zo
 have nhtBags := qJ zT
 have yS := qJ xR
 have nhrNeed := qJ hrNeed
 have nhrHave := qJ hrHave
 have nhrLack := qJ hrLack
 have nhrHere := qJ hrHere
 have nhrOut := qJ hrOut
 have nhrInto := qJ hrInto
 clear hs qY xA ht zo zT xR hr hrNeed hrHave hrLack hrHere hrOut hrInto
 have N := Fresh.nil w.heap.size
 have p3 := p2.1
 have p4 := p1.1
 have p5 := p1.2.1
 have p6 := (p1.bagLen (k := r.qw.toNat) (by omega)).len
 have p7 := p2.2.2.2.2.1.len
 have p8 := p2.2.2.2.2.2.1.len
 have p9 := p2.2.2.2.2.2.2.1.len
 have p10 := vG p2.2.2.2.2.2.2.1
 have p11 := p0.1
 have p12 := p2.2.2.2.2.2.2.2.2.2.2
 refine qh (qp ?_)
 refine sp (.bool false) ?_
 refine qo (t_n (qh (qh ?_)))
 refine jf rfl H fun H => ?_
 refine rtp 0 (pp bt ot) H ?_
 refine rtp 1 (pp bt ot) H ?_
 refine rt 2 (pp bt (ot + 0)) (xH bt (ot) 0 Tryz.underlying38 rfl rfl Tryz.sizeOf26 rfl) H ?_
 refine rt 3 (.slice xu t.qy.length qZ) (xw Tryz.isAgg26 rfl (fun _ h => h.xU 3 rfl 0 rfl)) H ?_
 refine rtp 4 (pp br or) H ?_
 refine rtp 5 (pp br or) H ?_
 refine rt 6 (pp br (or + 0)) (xH br (or) 0 Tryz.underlying110 rfl rfl Tryz.sizeOf2 rfl) H ?_
 refine rt 7 (.int .i64 r.qw) (xw Tryz.isAgg2 rfl (fun _ h => h.xU 7 rfl 0 rfl)) H ?_
 obtain ⟨b2, o3, rfl⟩ := H.addr 4 rfl (by omega)
 refine rt 8 (pp b2 (o3 + (r.qw : Int).toNat * 1)) (xQ b2 (o3) t.qy.length qZ r.qw Tryz.underlying26 ti4 rfl rfl (by omega) (by omega)) H ?_
 refine rt 9 (.bool (t.qy[r.qw.toNat]!)) (xw Tryz.isAgg4 rfl (fun _ h => h.yU 4 rfl r.qw (by omega) (by omega))) H ?_
 refine rtp 10 (.bool (!(t.qy[r.qw.toNat]!))) H ?_
 refine xZ (by kernel_rfl) (t_n ?_)
 refine qP (!(t.qy[r.qw.toNat]!)) rfl (fun h5 => ?_) (fun h5 => ?_)
 ·skip
  replace h5 := qQ h5
  refine qh (qp ?_)
  refine sp (.bool false) ?_
  refine qo (t_n (xh (t_r ?_)))
  refine ret1 (.bool false) rfl rfl ⟨_, rfl, ?_, H.base⟩
  rw [xf (fun h => by obtain ⟨h1, h2, h3, h4, h5⟩ := h; first | exact ft h1 ‹_› | exact ft h2 ‹_› | exact ft h3 ‹_› | exact h4 ⟨‹_›, ‹_›⟩ | (obtain ⟨q1, q2⟩ := h5 i (by omega); first | exact ft q1 ‹_› | exact absurd q2 ‹_›))]
 replace h5 := qN h5
 refine xg (t_n (qh ?_))
 refine jf rfl H fun H => ?_
 refine rtp 0 (pp bt ot) H ?_
 refine rtp 1 (pp bt ot) H ?_
 refine rt 2 (pp bt (ot + 1)) (xH bt (ot) 1 Tryz.underlying38 rfl rfl Tryz.sizeOf27 rfl) H ?_
 refine rt 3 (.slice xB t.qG.length xx) (xw Tryz.isAgg27 rfl (fun _ h => h.xU 3 rfl 1 rfl)) H ?_
 refine rtp 4 (pp br or) H ?_
 refine rtp 5 (pp br or) H ?_
 refine rt 6 (pp br (or + 0)) (xH br (or) 0 Tryz.underlying110 rfl rfl Tryz.sizeOf2 rfl) H ?_
 refine rt 7 (.int .i64 r.qw) (xw Tryz.isAgg2 rfl (fun _ h => h.xU 7 rfl 0 rfl)) H ?_
 obtain ⟨b7, o8, rfl⟩ := H.addr 5 rfl (by omega)
 obtain ⟨ae10, ce10, Fe10, H⟩ := H.Xk 5 rfl r.qw r.qw.toNat (by omega) (by omega) (by omega)
 refine rt 8 (pp b7 (o8 + (r.qw : Int).toNat * 1)) (xQ b7 (o8) t.qG.length xx r.qw Tryz.underlying27 ti22 rfl rfl (by omega) (by omega)) (H.pick [] [2, 3, 4, 5, 6, 7, 8, 9, 10, 11, 12, 13, 14, 15]) ?_
 refine zt [9] (by kernel_rfl) (by simp) (yF rfl ?_ zu)
 refine qC (.slice ae10 ((t.qG[r.qw.toNat]!).length) ce10) Tryz.isAgg22 rfl (H.xU 1 rfl 0 rfl) ?_
 refine ⟨H.pick [] [2, 3, 4, 5, 6, 7, 8, 9, 10, 11, 12, 13, 14, 15], ?_⟩
 refine rtp 10 (.slice ae10 ((t.qG[r.qw.toNat]!).length) ce10) (H.pick [] [2, 3, 4, 5, 6, 7, 8, 9, 10, 11, 12, 13, 14, 15]) ?_
 refine xZ (by kernel_rfl) (t_n ?_)
 refine qh (qh (qp ?_))
 refine sps [pp br or, pp br or] ?_
 refine sw (qH br (or) 2 Tryz.underlying110 rfl rfl Tryz.sizeOf22 rfl ?_)
 refine sw (qC (.slice zJ r.qI.length zI) Tryz.isAgg22 rfl (H.xU 9 rfl 2 rfl) ?_)
 refine sp (.slice ae10 ((t.qG[r.qw.toNat]!).length) ce10) ?_
 refine sw (xm #[.slice zJ r.qI.length zI, .slice ae10 ((t.qG[r.qw.toNat]!).length) ce10] rfl rfl Tryz.call121 (l01Within_ok w.drew.drew r.qI (t.qG[r.qw.toNat]!) zJ zI yV ae10 ce10 Fe10 (H.get 10 rfl).1 (H.get 0 rfl).1 (by first | assumption | omega)) ?_)
 rintro _ w12 rfl x13
 replace H := H.ext x13
 refine sps [.bool (!(within r.qI (t.qG[r.qw.toNat]!))), .bool (!(within r.qI (t.qG[r.qw.toNat]!)))] ?_
 cases h14 : (!(within r.qI (t.qG[r.qw.toNat]!)))
 ·skip
  replace h14 := qN h14
  refine qO 38 rfl rfl ?_
  refine sp (pp br or) ?_
  refine qO 38 rfl rfl ?_
  refine sp (pp br or) ?_
  refine qO 38 rfl rfl ?_
  refine sw (qH br (or) 3 Tryz.underlying110 rfl rfl Tryz.sizeOf22 rfl ?_)
  refine qO 38 rfl rfl ?_
  refine sw (qC (.slice ve r.qW.length zZ) Tryz.isAgg22 rfl (H.xU 9 rfl 3 rfl) ?_)
  refine qO 38 rfl rfl ?_
  refine sp (.slice ae10 ((t.qG[r.qw.toNat]!).length) ce10) ?_
  refine qO 38 rfl rfl ?_
  refine sw (xm #[.slice ve r.qW.length zZ, .slice ae10 ((t.qG[r.qw.toNat]!).length) ce10] rfl rfl Tryz.call121 (l01Within_ok w12 r.qW (t.qG[r.qw.toNat]!) ve zZ Qw ae10 ce10 Fe10 (H.get 11 rfl).1 (H.get 0 rfl).1 (by first | assumption | omega)) ?_)
  rintro _ w16 rfl x17
  replace H := H.ext x17
  refine qO 38 rfl rfl ?_
  refine sps [.bool (!(within r.qW (t.qG[r.qw.toNat]!))), .bool (!(within r.qW (t.qG[r.qw.toNat]!))), .bool (!(within r.qW (t.qG[r.qw.toNat]!)))] ?_
  cases h18 : (!(within r.qW (t.qG[r.qw.toNat]!)))
  ·skip
   replace h18 := qN h18
   refine qO 47 rfl rfl ?_
   refine sp (pp br or) ?_
   refine qO 47 rfl rfl ?_
   refine sp (pp br or) ?_
   refine qO 47 rfl rfl ?_
   refine sw (qH br (or) 4 Tryz.underlying110 rfl rfl Tryz.sizeOf22 rfl ?_)
   refine qO 47 rfl rfl ?_
   refine sw (qC (.slice zQ r.qX.length zO) Tryz.isAgg22 rfl (H.xU 9 rfl 4 rfl) ?_)
   refine qO 47 rfl rfl ?_
   refine sw (xm #[.slice zQ r.qX.length zO] rfl rfl Tryz.call137 (l01Size_ok w16 r.qX zQ zO Qk (H.get 12 rfl).1 (by first | assumption | exact vG (by assumption) | exact Qi (by assumption))) ?_)
   rintro _ w19 rfl x20
   replace H := H.ext x20
   refine qO 47 rfl rfl ?_
   refine sp (.bool (decide ((sumL r.qX : Int) > 0))) ?_
   refine qO 47 rfl rfl ?_
   refine sp (.bool (decide ((sumL r.qX : Int) > 0))) ?_
   cases h21 : (decide ((sumL r.qX : Int) > 0))
   ·skip
    replace h21 := of_decide_eq_false h21
    refine xN [55, 56, 57, 58, 59, 60] ?_
    refine qO 47 rfl rfl ?_
    refine sps [.bool false, .bool false] ?_
    refine qo (t_n ?_)
    refine qP false rfl (fun h => absurd h (by decide)) (fun _ => ?_)
    refine xg (t_n (qh (qh (qp ?_))))
    refine sp (.int .i64 0) ?_
    refine qo (t_n (xn ?_))
    refine zC (fun m' ρ w22 => ∃ (junk : Env) (i : Nat), ρ = upd (upd (upd (upd junk 0 (pp bs os)) 1 (pp bt ot)) 2 (pp br or)) 8 (.int .i64 i) ∧ ((i : Int) ≤ r.qx.length) ∧ (IntoUp s t r i) ∧ m' = (r.qx.length - (i : Int)).toNat ∧ Fresh w.heap.size [] ∧ St w w22 [] [isF false Fe10 (.slice ae10 ((t.qG[r.qw.toNat]!).length) ce10) (t.qG[r.qw.toNat]!), atF b7 (o8 + (r.qw : Int).toNat * 1) [.slice ae10 ((t.qG[r.qw.toNat]!).length) ce10], atF bs os [.int .i64 s.qF, .slice qm s.qg.length ql, .slice qE s.qf.length qA], isF false qL (.slice qm s.qg.length ql) s.qg, isF false xk (.slice qE s.qf.length qA) s.qf, atF bt ot [.slice (aa b2 o3) t.qy.length qZ, .slice (aa b7 o8) t.qG.length xx, .slice qV t.qB.length qU], isF false xY (.slice (aa b2 o3) t.qy.length qZ) t.qy, isF false zG (.slice (aa b7 o8) t.qG.length xx) t.qG, isF false xJ (.slice qV t.qB.length qU) t.qB, atF br or [.int .i64 r.qw, .int .i64 r.xM, .slice zJ r.qI.length zI, .slice ve r.qW.length zZ, .slice zQ r.qX.length zO, .slice vJ r.xe.length vI, .slice yj r.xO.length yh, .slice zy r.qx.length zh, .bool r.xG], isF false yV (.slice zJ r.qI.length zI) r.qI, isF false Qw (.slice ve r.qW.length zZ) r.qW, isF false Qk (.slice zQ r.qX.length zO) r.qX, isF false QK (.slice vJ r.xe.length vI) r.xe, isF false FrOut (.slice yj r.xO.length yh) r.xO, isF false FrInto (.slice zy r.qx.length zh) r.qx]) ((r.qx.length - (0 : Int)).toNat) ⟨_, 0, (by exact qj (qj (qj (qj (rfl) rfl) rfl) rfl) rfl), (by omega), (by exact fun j hj => by omega), rfl, N, H⟩ ?_
    clear H N
    rintro m' ρ w23 ⟨junk, i, rfl, i0, i1, rfl, N, H⟩
    refine qh (qh (qp ?_))
    refine sps [.int .i64 i, pp br or, pp br or] ?_
    refine sw (qH br (or) 7 Tryz.underlying110 rfl rfl Tryz.sizeOf108 rfl ?_)
    refine sw (qC (.slice zy r.qx.length zh) Tryz.isAgg108 rfl (H.xU 9 rfl 7 rfl) ?_)
    refine sw (zK Tryz.underlying108 zy r.qx.length zh rfl ?_)
    refine sp (.bool (decide ((i : Int) < r.qx.length))) ?_
    refine qo (t_n ?_)
    refine qP (decide ((i : Int) < r.qx.length)) rfl (fun h24 => ?_) (fun h24 => ?_)
    ·skip
     replace h24 := of_decide_eq_true h24
     have q := (p12 i (by omega)).1
     have q1 := q.1
     have q2 := q.2
     refine xg (t_n (qh (xn (qh (qp ?_)))))
     refine sps [pp br or, pp br or] ?_
     refine sw (qH br (or) 7 Tryz.underlying110 rfl rfl Tryz.sizeOf108 rfl ?_)
     refine sw (qC (.slice zy r.qx.length zh) Tryz.isAgg108 rfl (H.xU 9 rfl 7 rfl) ?_)
     refine sp (.int .i64 i) ?_
     obtain ⟨b25, o26, rfl⟩ := H.addr 15 rfl (by omega)
     obtain ⟨ae28Bag, ce28Bag, Fe28Bag, H⟩ := H.vP 15 rfl i i (by omega) (by omega) (by omega)
     refine sw (xE i Tryz.underlying108 ti115 rfl rfl (by omega) (by omega) ?_)
     refine sw (qH b25 (o26 + (i : Int).toNat * 2) 0 Tryz.underlying115 rfl rfl Tryz.sizeOf2 rfl ?_)
     refine sw (qC (.int .i64 ((r.qx[i]!).qw)) Tryz.isAgg2 rfl (H.xU 1 rfl 0 rfl) ?_)
     refine sp (.int .i64 ((r.qx[i]!).qw)) ?_
     refine qo (t_n (qh ?_))
     refine jf rfl H fun H => ?_
     refine rtp 0 (pp bt ot) H ?_
     refine rtp 1 (pp bt ot) H ?_
     refine rt 2 (pp bt (ot + 0)) (xH bt (ot) 0 Tryz.underlying38 rfl rfl Tryz.sizeOf26 rfl) H ?_
     refine rt 3 (.slice (aa b2 o3) t.qy.length qZ) (xw Tryz.isAgg26 rfl (fun _ h => h.xU 7 rfl 0 rfl)) H ?_
     refine rtp 4 (.int .i64 ((r.qx[i]!).qw)) H ?_
     refine rt 5 (pp b2 (o3 + ((r.qx[i]!).qw : Int).toNat * 1)) (xQ b2 (o3) t.qy.length qZ ((r.qx[i]!).qw) Tryz.underlying26 ti4 rfl rfl (by omega) (by omega)) H ?_
     refine rt 6 (.bool (t.qy[((r.qx[i]!).qw).toNat]!)) (xw Tryz.isAgg4 rfl (fun _ h => h.yU 8 rfl ((r.qx[i]!).qw) (by omega) (by omega))) H ?_
     refine rtp 7 (.bool (!(t.qy[((r.qx[i]!).qw).toNat]!))) H ?_
     refine rtp 8 (.bool (!(t.qy[((r.qx[i]!).qw).toNat]!))) H ?_
     cases h30 : (!(t.qy[((r.qx[i]!).qw).toNat]!))
     ·skip
      replace h30 := qN h30
      refine rgp 9 (pp bs os) 88 H ?_
      refine rgp 10 (pp bt ot) 88 H ?_
      refine rgp 11 (.int .i64 ((r.qx[i]!).qw)) 88 H ?_
      refine rgp 13 (pp br or) 88 H ?_
      refine rgp 14 (pp br or) 88 H ?_
      refine rg 15 (pp br (or + 0)) 88 (xH br (or) 0 Tryz.underlying110 rfl rfl Tryz.sizeOf2 rfl) H ?_
      refine rg 16 (.int .i64 r.qw) 88 (xw Tryz.isAgg2 rfl (fun _ h => h.xU 11 rfl 0 rfl)) H ?_
      refine zt [12] (by kernel_rfl) (by simp) (r_opG rfl (e := 88) rfl rfl ?_ zu)
      refine xm #[pp bs os, pp bt ot, .int .i64 ((r.qx[i]!).qw)] rfl rfl Tryz.call107 (l02Parent_ok w23.drew s t ((r.qx[i]!).qw) bs os qm ql qL qE qA xk bt ot (aa b2 o3) qZ xY (aa b7 o8) xx zG qV qU xJ (qK (H.get 4 rfl) 0 3) (H.get 5 rfl).1 (H.get 6 rfl).1 (qK (H.get 7 rfl) 0 3) (H.get 8 rfl).1 (H.get 9 rfl).1 (H.get 10 rfl).1 (by assumption) (by assumption) (by assumption)) ?_
      rintro _ w31 rfl x32
      replace H := H.ext x32
      refine ⟨H, ?_⟩
      refine rgp 17 (.bool ((xK s t ((r.qx[i]!).qw) : Int) != r.qw)) 88 H ?_
      refine rtp 18 (.bool ((xK s t ((r.qx[i]!).qw) : Int) != r.qw)) H ?_
      refine xZ (by kernel_rfl) (t_n ?_)
      refine qP ((xK s t ((r.qx[i]!).qw) : Int) != r.qw) rfl (fun h33 => ?_) (fun h33 => ?_)
      ·skip
       replace h33 := bne_iff_ne.1 h33
       refine qh (qp ?_)
       refine sp (.bool false) ?_
       refine qo (t_n (xh (b_r (t_r (t_r (b_r (t_r ?_)))))))
       refine ret1 (.bool false) rfl rfl ⟨_, rfl, ?_, H.base⟩
       rw [xf (fun h => by obtain ⟨h1, h2, h3, h4, h5⟩ := h; first | exact ft h1 ‹_› | exact ft h2 ‹_› | exact ft h3 ‹_› | exact h4 ⟨‹_›, ‹_›⟩ | (obtain ⟨q1, q2⟩ := h5 i (by omega); first | exact ft q1 ‹_› | exact absurd q2 ‹_›))]
      replace h33 := xI h33
      refine xg (b_n (t_n (qp ?_)))
      refine sp (.int .i64 i) ?_
      refine sw (zD i 1 rfl rfl (by omega) ?_)
      refine sp (.int .i64 (i + 1)) ?_
      refine qo ?_
      refine xy (m' := (r.qx.length - ((i + 1) : Int)).toNat) (by omega) ⟨_, i + 1, (by exact qj (qj (qj (qj (rfl) rfl) rfl) rfl) rfl), ?_, ?_, rfl, N, H.pick [] [2, 3, 4, 5, 6, 7, 8, 9, 10, 11, 12, 13, 14, 15, 16, 17]⟩
      · omega
      · exact i1.succ ‹_› ‹_›
     replace h30 := qQ h30
     refine zq [9, 10, 11, 12, 13, 14, 15, 16, 17] 9 (H) ?_
     refine rtp 18 (.bool true) H ?_
     refine xZ (by kernel_rfl) (t_n ?_)
     refine qP true rfl (fun _ => ?_) (fun h => absurd h (by decide))
     refine qh (qp ?_)
     refine sp (.bool false) ?_
     refine qo (t_n (xh (b_r (t_r (t_r (b_r (t_r ?_)))))))
     refine ret1 (.bool false) rfl rfl ⟨_, rfl, ?_, H.base⟩
     rw [xf (fun h => by obtain ⟨h1, h2, h3, h4, h5⟩ := h; first | exact ft h1 ‹_› | exact ft h2 ‹_› | exact ft h3 ‹_› | exact h4 ⟨‹_›, ‹_›⟩ | (obtain ⟨q1, q2⟩ := h5 i (by omega); first | exact ft q1 ‹_› | exact absurd q2 ‹_›))]
    replace h24 := of_decide_eq_false h24
    refine zx (t_x (t_x (b_x (t_n (qh (qp ?_))))))
    refine sp (.bool true) ?_
    refine qo (t_n (xh ?_))
    refine ret1 (.bool true) rfl rfl ⟨_, rfl, ?_, H.base⟩
    rw [jD ⟨by assumption, by assumption, by assumption, fun ⟨u, v⟩ => by first | omega | exact ft v ‹_›, (show i = r.qx.length by omega) ▸ i1⟩]
   replace h21 := of_decide_eq_true h21
   refine qO 54 rfl rfl ?_
   refine sp (pp br or) ?_
   refine qO 54 rfl rfl ?_
   refine sp (pp br or) ?_
   refine qO 54 rfl rfl ?_
   refine sw (qH br (or) 4 Tryz.underlying110 rfl rfl Tryz.sizeOf22 rfl ?_)
   refine qO 54 rfl rfl ?_
   refine sw (qC (.slice zQ r.qX.length zO) Tryz.isAgg22 rfl (H.xU 9 rfl 4 rfl) ?_)
   refine qO 54 rfl rfl ?_
   refine sp (.slice ae10 ((t.qG[r.qw.toNat]!).length) ce10) ?_
   refine qO 54 rfl rfl ?_
   refine sw (xm #[.slice zQ r.qX.length zO, .slice ae10 ((t.qG[r.qw.toNat]!).length) ce10] rfl rfl Tryz.call121 (l01Within_ok w19 r.qX (t.qG[r.qw.toNat]!) zQ zO Qk ae10 ce10 Fe10 (H.get 12 rfl).1 (H.get 0 rfl).1 (by first | assumption | omega)) ?_)
   rintro _ w35 rfl x36
   replace H := H.ext x36
   refine qO 47 rfl rfl ?_
   refine sps [.bool (within r.qX (t.qG[r.qw.toNat]!)), .bool (within r.qX (t.qG[r.qw.toNat]!))] ?_
   refine qo (t_n ?_)
   refine qP (within r.qX (t.qG[r.qw.toNat]!)) rfl (fun h37 => ?_) (fun h37 => ?_)
   ·skip
    refine qh (qp ?_)
    refine sp (.bool false) ?_
    refine qo (t_n (xh (t_r ?_)))
    refine ret1 (.bool false) rfl rfl ⟨_, rfl, ?_, H.base⟩
    rw [xf (fun h => by obtain ⟨h1, h2, h3, h4, h5⟩ := h; first | exact ft h1 ‹_› | exact ft h2 ‹_› | exact ft h3 ‹_› | exact h4 ⟨‹_›, ‹_›⟩ | (obtain ⟨q1, q2⟩ := h5 i (by omega); first | exact ft q1 ‹_› | exact absurd q2 ‹_›))]
   refine xg (t_n (qh (qh (qp ?_))))
   refine sp (.int .i64 0) ?_
   refine qo (t_n (xn ?_))
   refine zC (fun m' ρ w38 => ∃ (junk : Env) (i : Nat), ρ = upd (upd (upd (upd junk 0 (pp bs os)) 1 (pp bt ot)) 2 (pp br or)) 8 (.int .i64 i) ∧ ((i : Int) ≤ r.qx.length) ∧ (IntoUp s t r i) ∧ m' = (r.qx.length - (i : Int)).toNat ∧ Fresh w.heap.size [] ∧ St w w38 [] [isF false Fe10 (.slice ae10 ((t.qG[r.qw.toNat]!).length) ce10) (t.qG[r.qw.toNat]!), atF b7 (o8 + (r.qw : Int).toNat * 1) [.slice ae10 ((t.qG[r.qw.toNat]!).length) ce10], atF bs os [.int .i64 s.qF, .slice qm s.qg.length ql, .slice qE s.qf.length qA], isF false qL (.slice qm s.qg.length ql) s.qg, isF false xk (.slice qE s.qf.length qA) s.qf, atF bt ot [.slice (aa b2 o3) t.qy.length qZ, .slice (aa b7 o8) t.qG.length xx, .slice qV t.qB.length qU], isF false xY (.slice (aa b2 o3) t.qy.length qZ) t.qy, isF false zG (.slice (aa b7 o8) t.qG.length xx) t.qG, isF false xJ (.slice qV t.qB.length qU) t.qB, atF br or [.int .i64 r.qw, .int .i64 r.xM, .slice zJ r.qI.length zI, .slice ve r.qW.length zZ, .slice zQ r.qX.length zO, .slice vJ r.xe.length vI, .slice yj r.xO.length yh, .slice zy r.qx.length zh, .bool r.xG], isF false yV (.slice zJ r.qI.length zI) r.qI, isF false Qw (.slice ve r.qW.length zZ) r.qW, isF false Qk (.slice zQ r.qX.length zO) r.qX, isF false QK (.slice vJ r.xe.length vI) r.xe, isF false FrOut (.slice yj r.xO.length yh) r.xO, isF false FrInto (.slice zy r.qx.length zh) r.qx]) ((r.qx.length - (0 : Int)).toNat) ⟨_, 0, (by exact qj (qj (qj (qj (rfl) rfl) rfl) rfl) rfl), (by omega), (by exact fun j hj => by omega), rfl, N, H⟩ ?_
   clear H N
   rintro m' ρ w39 ⟨junk, i, rfl, i0, i1, rfl, N, H⟩
   refine qh (qh (qp ?_))
   refine sps [.int .i64 i, pp br or, pp br or] ?_
   refine sw (qH br (or) 7 Tryz.underlying110 rfl rfl Tryz.sizeOf108 rfl ?_)
   refine sw (qC (.slice zy r.qx.length zh) Tryz.isAgg108 rfl (H.xU 9 rfl 7 rfl) ?_)
   refine sw (zK Tryz.underlying108 zy r.qx.length zh rfl ?_)
   refine sp (.bool (decide ((i : Int) < r.qx.length))) ?_
   refine qo (t_n ?_)
   refine qP (decide ((i : Int) < r.qx.length)) rfl (fun h40 => ?_) (fun h40 => ?_)
   ·skip
    replace h40 := of_decide_eq_true h40
    have q := (p12 i (by omega)).1
    have q1 := q.1
    have q2 := q.2
    refine xg (t_n (qh (xn (qh (qp ?_)))))
    refine sps [pp br or, pp br or] ?_
    refine sw (qH br (or) 7 Tryz.underlying110 rfl rfl Tryz.sizeOf108 rfl ?_)
    refine sw (qC (.slice zy r.qx.length zh) Tryz.isAgg108 rfl (H.xU 9 rfl 7 rfl) ?_)
    refine sp (.int .i64 i) ?_
    obtain ⟨b41, o42, rfl⟩ := H.addr 15 rfl (by omega)
    obtain ⟨ae44Bag, ce44Bag, Fe44Bag, H⟩ := H.vP 15 rfl i i (by omega) (by omega) (by omega)
    refine sw (xE i Tryz.underlying108 ti115 rfl rfl (by omega) (by omega) ?_)
    refine sw (qH b41 (o42 + (i : Int).toNat * 2) 0 Tryz.underlying115 rfl rfl Tryz.sizeOf2 rfl ?_)
    refine sw (qC (.int .i64 ((r.qx[i]!).qw)) Tryz.isAgg2 rfl (H.xU 1 rfl 0 rfl) ?_)
    refine sp (.int .i64 ((r.qx[i]!).qw)) ?_
    refine qo (t_n (qh ?_))
    refine jf rfl H fun H => ?_
    refine rtp 0 (pp bt ot) H ?_
    refine rtp 1 (pp bt ot) H ?_
    refine rt 2 (pp bt (ot + 0)) (xH bt (ot) 0 Tryz.underlying38 rfl rfl Tryz.sizeOf26 rfl) H ?_
    refine rt 3 (.slice (aa b2 o3) t.qy.length qZ) (xw Tryz.isAgg26 rfl (fun _ h => h.xU 7 rfl 0 rfl)) H ?_
    refine rtp 4 (.int .i64 ((r.qx[i]!).qw)) H ?_
    refine rt 5 (pp b2 (o3 + ((r.qx[i]!).qw : Int).toNat * 1)) (xQ b2 (o3) t.qy.length qZ ((r.qx[i]!).qw) Tryz.underlying26 ti4 rfl rfl (by omega) (by omega)) H ?_
    refine rt 6 (.bool (t.qy[((r.qx[i]!).qw).toNat]!)) (xw Tryz.isAgg4 rfl (fun _ h => h.yU 8 rfl ((r.qx[i]!).qw) (by omega) (by omega))) H ?_
    refine rtp 7 (.bool (!(t.qy[((r.qx[i]!).qw).toNat]!))) H ?_
    refine rtp 8 (.bool (!(t.qy[((r.qx[i]!).qw).toNat]!))) H ?_
    cases h46 : (!(t.qy[((r.qx[i]!).qw).toNat]!))
    ·skip
     replace h46 := qN h46
     refine rgp 9 (pp bs os) 88 H ?_
     refine rgp 10 (pp bt ot) 88 H ?_
     refine rgp 11 (.int .i64 ((r.qx[i]!).qw)) 88 H ?_
     refine rgp 13 (pp br or) 88 H ?_
     refine rgp 14 (pp br or) 88 H ?_
     refine rg 15 (pp br (or + 0)) 88 (xH br (or) 0 Tryz.underlying110 rfl rfl Tryz.sizeOf2 rfl) H ?_
     refine rg 16 (.int .i64 r.qw) 88 (xw Tryz.isAgg2 rfl (fun _ h => h.xU 11 rfl 0 rfl)) H ?_
     refine zt [12] (by kernel_rfl) (by simp) (r_opG rfl (e := 88) rfl rfl ?_ zu)
     refine xm #[pp bs os, pp bt ot, .int .i64 ((r.qx[i]!).qw)] rfl rfl Tryz.call107 (l02Parent_ok w39.drew s t ((r.qx[i]!).qw) bs os qm ql qL qE qA xk bt ot (aa b2 o3) qZ xY (aa b7 o8) xx zG qV qU xJ (qK (H.get 4 rfl) 0 3) (H.get 5 rfl).1 (H.get 6 rfl).1 (qK (H.get 7 rfl) 0 3) (H.get 8 rfl).1 (H.get 9 rfl).1 (H.get 10 rfl).1 (by assumption) (by assumption) (by assumption)) ?_
     rintro _ w47 rfl x48
     replace H := H.ext x48
     refine ⟨H, ?_⟩
     refine rgp 17 (.bool ((xK s t ((r.qx[i]!).qw) : Int) != r.qw)) 88 H ?_
     refine rtp 18 (.bool ((xK s t ((r.qx[i]!).qw) : Int) != r.qw)) H ?_
     refine xZ (by kernel_rfl) (t_n ?_)
     refine qP ((xK s t ((r.qx[i]!).qw) : Int) != r.qw) rfl (fun h49 => ?_) (fun h49 => ?_)
     ·skip
      replace h49 := bne_iff_ne.1 h49
      refine qh (qp ?_)
      refine sp (.bool false) ?_
      refine qo (t_n (xh (b_r (t_r (t_r (b_r (t_r ?_)))))))
      refine ret1 (.bool false) rfl rfl ⟨_, rfl, ?_, H.base⟩
      rw [xf (fun h => by obtain ⟨h1, h2, h3, h4, h5⟩ := h; first | exact ft h1 ‹_› | exact ft h2 ‹_› | exact ft h3 ‹_› | exact h4 ⟨‹_›, ‹_›⟩ | (obtain ⟨q1, q2⟩ := h5 i (by omega); first | exact ft q1 ‹_› | exact absurd q2 ‹_›))]
     replace h49 := xI h49
     refine xg (b_n (t_n (qp ?_)))
     refine sp (.int .i64 i) ?_
     refine sw (zD i 1 rfl rfl (by omega) ?_)
     refine sp (.int .i64 (i + 1)) ?_
     refine qo ?_
     refine xy (m' := (r.qx.length - ((i + 1) : Int)).toNat) (by omega) ⟨_, i + 1, (by exact qj (qj (qj (qj (rfl) rfl) rfl) rfl) rfl), ?_, ?_, rfl, N, H.pick [] [2, 3, 4, 5, 6, 7, 8, 9, 10, 11, 12, 13, 14, 15, 16, 17]⟩
     · omega
     · exact i1.succ ‹_› ‹_›
    replace h46 := qQ h46
    refine zq [9, 10, 11, 12, 13, 14, 15, 16, 17] 9 (H) ?_
    refine rtp 18 (.bool true) H ?_
    refine xZ (by kernel_rfl) (t_n ?_)
    refine qP true rfl (fun _ => ?_) (fun h => absurd h (by decide))
    refine qh (qp ?_)
    refine sp (.bool false) ?_
    refine qo (t_n (xh (b_r (t_r (t_r (b_r (t_r ?_)))))))
    refine ret1 (.bool false) rfl rfl ⟨_, rfl, ?_, H.base⟩
    rw [xf (fun h => by obtain ⟨h1, h2, h3, h4, h5⟩ := h; first | exact ft h1 ‹_› | exact ft h2 ‹_› | exact ft h3 ‹_› | exact h4 ⟨‹_›, ‹_›⟩ | (obtain ⟨q1, q2⟩ := h5 i (by omega); first | exact ft q1 ‹_› | exact absurd q2 ‹_›))]
   replace h40 := of_decide_eq_false h40
   refine zx (t_x (t_x (b_x (t_n (qh (qp ?_))))))
   refine sp (.bool true) ?_
   refine qo (t_n (xh ?_))
   refine ret1 (.bool true) rfl rfl ⟨_, rfl, ?_, H.base⟩
   rw [jD ⟨by assumption, by assumption, by assumption, fun ⟨u, v⟩ => by first | omega | exact ft v ‹_›, (show i = r.qx.length by omega) ▸ i1⟩]
  replace h18 := qQ h18
  refine xN [48, 49, 50, 51, 52, 53, 54, 55, 56, 57, 58, 59, 60, 61] ?_
  refine sp (.bool true) ?_
  refine qo (t_n ?_)
  refine qP true rfl (fun _ => ?_) (fun h => absurd h (by decide))
  refine qh (qp ?_)
  refine sp (.bool false) ?_
  refine qo (t_n (xh (t_r ?_)))
  refine ret1 (.bool false) rfl rfl ⟨_, rfl, ?_, H.base⟩
  rw [xf (fun h => by obtain ⟨h1, h2, h3, h4, h5⟩ := h; first | exact ft h1 ‹_› | exact ft h2 ‹_› | exact ft h3 ‹_› | exact h4 ⟨‹_›, ‹_›⟩ | (obtain ⟨q1, q2⟩ := h5 i (by omega); first | exact ft q1 ‹_› | exact absurd q2 ‹_›))]
 replace h14 := qQ h14
 refine xN [39, 40, 41, 42, 43, 44, 45] ?_
 refine sps [.bool true, .bool true] ?_
 refine xN [48, 49, 50, 51, 52, 53, 54, 55, 56, 57, 58, 59, 60, 61] ?_
 refine sp (.bool true) ?_
 refine qo (t_n ?_)
 refine qP true rfl (fun _ => ?_) (fun h => absurd h (by decide))
 refine qh (qp ?_)
 refine sp (.bool false) ?_
 refine qo (t_n (xh (t_r ?_)))
 refine ret1 (.bool false) rfl rfl ⟨_, rfl, ?_, H.base⟩
 rw [xf (fun h => by obtain ⟨h1, h2, h3, h4, h5⟩ := h; first | exact ft h1 ‹_› | exact ft h2 ‹_› | exact ft h3 ‹_› | exact h4 ⟨‹_›, ‹_›⟩ | (obtain ⟨q1, q2⟩ := h5 i (by omega); first | exact ft q1 ‹_› | exact absurd q2 ‹_›))]

theorem l03Applicable_ok (w : World) (s : qR) (t : xF) (bs os : Nat) (qm : Option Addr) (ql : Nat) (qL : List Nat) (qE : Option Addr) (qA : Nat) (xk : List Nat) (bt ot : Nat) (xu : Option Addr) (qZ : Nat) (xY : List Nat) (xB : Option Addr) (xx : Nat) (zG : List Nat) (qV : Option Addr) (qU : Nat) (xJ : List Nat) (hs : vg w bs os [.int .i64 s.qF, .slice qm s.qg.length ql, .slice qE s.qf.length qA]) (qY : qM.rep w qL [.slice qm s.qg.length ql] s.qg) (xA : qM.rep w xk [.slice qE s.qf.length qA] s.qf) (ht : vg w bt ot [.slice xu t.qy.length qZ, .slice xB t.qG.length xx, .slice qV t.qB.length qU]) (zo : qM.rep w xY [.slice xu t.qy.length qZ] t.qy) (zT : qM.rep w zG [.slice xB t.qG.length xx] t.qG) (xR : qM.rep w xJ [.slice qV t.qB.length qU] t.qB) (p0 : Qj s) (p1 : zY s t) : Calls Tryz.prog 79 #[pp bs os, pp bt ot] w (Ret (fun v w' => ∃ (ra : Option Addr) (rn : Nat) (rc : Nat), v = .slice ra rn rc ∧ Fresh w.heap.size [] ∧ St w w' [.row (.slice ra rn rc) 4 1 rn ((appl s t).map (Value.bool))] []) w) := by
 refine enter (n := 99) Tryz.func79 rfl Tryz.ntmps79 (Nat.le_of_ble_eq_true rfl) ?_
 have H := (((((((St.start w).arg xR).arg zT).arg zo).argAt ht).arg xA).arg qY).argAt hs
 have zH := qJ qY
 have vN := qJ xA
 have QB := qJ zo
 have nhtBags := qJ zT
 have yS := qJ xR
 clear hs qY xA ht zo zT xR
 have N := Fresh.nil w.heap.size
 have p2 := p0.2.1
 have p3 := p0.1.2.1
 refine qh (qp ?_)
 refine sp (.slice none 0 0) ?_
 refine qo (t_n (qh (qp ?_)))
 refine sps [pp bs os, pp bs os] ?_
 refine sw (qH bs (os) 1 Tryz.underlying36 rfl rfl Tryz.sizeOf22 rfl ?_)
 refine sw (qC (.slice qm s.qg.length ql) Tryz.isAgg22 rfl (H.xU 0 rfl 1 rfl) ?_)
 refine sw (zK Tryz.underlying22 qm s.qg.length ql rfl ?_)
 refine sw (o_makeI H Tryz.underlying22 ti2 s.qg.length rfl rfl (by omega) (by omega) (by omega) fun b1 w2 H => ?_)
 refine sp (.slice (aa b1 0) s.qg.length s.qg.length) ?_
 refine qo (t_n (qh (qp ?_)))
 refine sw (Qq H Tryz.underlying26 ti4 fun b3 w4 H => ?_)
 refine sp (.slice (aa b3 0) 0 0) ?_
 refine qo (t_n (qh (qh (qp ?_))))
 refine sp (.int .i64 0) ?_
 refine qo (t_n (xn ?_))
 replace H := H.boxRowB 0 [] 0
 try dsimp only [List.set] at H
 refine zC (fun m' ρ w5 => ∃ (junk : Env) (yl : Option Addr) (vO : Nat) (jK : Nat) (out : List Bool) (i : Nat) (best : List Int), ρ = upd (upd (upd (upd (upd junk 0 (pp bs os)) 1 (pp bt ot)) 5 (.slice (aa b1 0) s.qg.length s.qg.length)) 6 (.slice yl vO jK)) 7 (.int .i64 i) ∧ out = applB s t 0 i ∧ best = bests s t 0 s.qg.length i ∧ ((i : Int) ≤ s.qf.length) ∧ m' = (s.qf.length - (i : Int)).toNat ∧ Fresh w.heap.size [] ∧ St w w5 [.row (.slice yl vO jK) 4 1 vO (out.map (Value.bool)), .row (.slice (aa b1 0) s.qg.length s.qg.length) 2 1 s.qg.length (best.map (Value.int .i64))] [atF bs os [.int .i64 s.qF, .slice qm s.qg.length ql, .slice qE s.qf.length qA], isF false qL (.slice qm s.qg.length ql) s.qg, isF false xk (.slice qE s.qf.length qA) s.qf, atF bt ot [.slice xu t.qy.length qZ, .slice xB t.qG.length xx, .slice qV t.qB.length qU], isF false xY (.slice xu t.qy.length qZ) t.qy, isF false zG (.slice xB t.qG.length xx) t.qG, isF false xJ (.slice qV t.qB.length qU) t.qB]) ((s.qf.length - (0 : Int)).toNat) ⟨_, (aa b3 0), 0, 0, ([] : List Bool), 0, (List.replicate s.qg.length (0 : Int)), (by exact qj (qj (qj (qj (qj (rfl) rfl) rfl) rfl) rfl) rfl), (by rfl), (by exact bests_zero s t 0 _), (by omega), rfl, N, H⟩ ?_
 clear H N
 rintro m' ρ w6 ⟨junk, yl, vO, jK, out, i, best, rfl, rfl, rfl, i0, rfl, N, H⟩
 have hn_out := H.rowNB 0 rfl
 have hn_best := H.rowNI 1 rfl
 have bl := Qv s t 0 s.qg.length i
 have al := applB_len s t 0 i
 refine qh (qh (qp ?_))
 refine sps [.int .i64 i, pp bs os, pp bs os] ?_
 refine sw (qH bs (os) 2 Tryz.underlying36 rfl rfl Tryz.sizeOf34 rfl ?_)
 refine sw (qC (.slice qE s.qf.length qA) Tryz.isAgg34 rfl (H.xU 0 rfl 2 rfl) ?_)
 refine sw (zK Tryz.underlying34 qE s.qf.length qA rfl ?_)
 refine sp (.bool (decide ((i : Int) < s.qf.length))) ?_
 refine qo (t_n ?_)
 refine qP (decide ((i : Int) < s.qf.length)) rfl (fun h7 => ?_) (fun h7 => ?_)
 ·skip
  replace h7 := of_decide_eq_true h7
  have q := p0.rule (i := i) (by omega)
  have qc := q.1
  have qk := q.cell
  have qr := q.2.1
  refine xg (t_n (qh (xn (qh (qp ?_)))))
  refine sps [pp bs os, pp bs os] ?_
  refine sw (qH bs (os) 2 Tryz.underlying36 rfl rfl Tryz.sizeOf34 rfl ?_)
  refine sw (qC (.slice qE s.qf.length qA) Tryz.isAgg34 rfl (H.xU 0 rfl 2 rfl) ?_)
  refine sp (.int .i64 i) ?_
  obtain ⟨b8, o9, rfl⟩ := H.addr 2 rfl (by omega)
  obtain ⟨ae11Need, ce11Need, Fe11Need, ae11Have, ce11Have, Fe11Have, ae11Lack, ce11Lack, Fe11Lack, ae11Here, ce11Here, Fe11Here, ae11Out, ce11Out, Fe11Out, ae11Into, ce11Into, Fe11Into, H⟩ := H.jv 2 rfl i i (by omega) (by omega) (by omega)
  refine sw (xE i Tryz.underlying34 ti110 rfl rfl (by omega) (by omega) ?_)
  refine sp (pp b8 (o9 + (i : Int).toNat * 9)) ?_
  refine qo (t_n (qh (qp ?_)))
  refine sps [pp bs os, pp bt ot, pp b8 (o9 + (i : Int).toNat * 9)] ?_
  refine sw (xm #[pp bs os, pp bt ot, pp b8 (o9 + (i : Int).toNat * 9)] rfl rfl Tryz.call129 (l03Enabled_ok w6 s t (s.qf[i]!) bs os qm ql qL (aa b8 o9) qA xk bt ot xu qZ xY xB xx zG qV qU xJ b8 (o9 + (i : Int).toNat * 9) ae11Need ce11Need Fe11Need ae11Have ce11Have Fe11Have ae11Lack ce11Lack Fe11Lack ae11Here ce11Here Fe11Here ae11Out ce11Out Fe11Out ae11Into ce11Into Fe11Into (qK (H.get 7 rfl) 0 3) (H.get 8 rfl).1 (H.get 9 rfl).1 (qK (H.get 10 rfl) 0 3) (H.get 11 rfl).1 (H.get 12 rfl).1 (H.get 13 rfl).1 (qK (H.get 6 rfl) 0 9) (H.get 0 rfl).1 (H.get 1 rfl).1 (H.get 2 rfl).1 (H.get 3 rfl).1 (H.get 4 rfl).1 (H.get 5 rfl).1 (by first | assumption | omega) (by first | assumption | omega) (by first | assumption | omega)) ?_)
  rintro _ w13 rfl x14
  replace H := H.ext x14
  refine sp (.bool (dec (EnOk s t (s.qf[i]!)))) ?_
  refine qo (t_n (qh (qp ?_)))
  refine sps [.slice yl vO jK, .bool (dec (EnOk s t (s.qf[i]!)))] ?_
  refine sw (o_build1C H Tryz.underlying26 ti4 [.bool (dec (EnOk s t (s.qf[i]!)))] fun b15 w16 H => ?_)
  refine sw (o_appendR H 1 rfl 0 rfl Tryz.underlying26 ti4 rfl (by decide) rfl rfl rfl (by simp [Value.oneCell', Value.cells]) (by unfold maxLen; omega) (by omega) fun a17 c18 w19 H => ?_)
  rw [snocB] at H
  try dsimp only [List.set] at H
  refine sp (.slice a17 (vO + 1) c18) ?_
  refine qo (t_n (qh (qp ?_)))
  refine sp (.bool (dec (EnOk s t (s.qf[i]!)))) ?_
  refine qo (t_n ?_)
  refine qP (dec (EnOk s t (s.qf[i]!))) rfl (fun h20 => ?_) (fun h20 => ?_)
  ·skip
   replace h20 := vT h20
   refine QI rfl H [0, 1] fun H => ?_
   have S := H.QN [0, 1] [0, 1, 2, 3, 4, 5, 6, 7, 8, 9, 10, 11, 12, 13]
   refine rtp 0 (.slice (aa b1 0) s.qg.length s.qg.length) S ?_
   refine rtp 1 (pp b8 (o9 + (i : Int).toNat * 9)) S ?_
   refine rtp 2 (pp b8 (o9 + (i : Int).toNat * 9)) S ?_
   refine rt 3 (pp b8 (o9 + (i : Int).toNat * 9 + 0)) (xH b8 (o9 + (i : Int).toNat * 9) 0 Tryz.underlying110 rfl rfl Tryz.sizeOf2 rfl) S ?_
   refine rt 4 (.int .i64 ((s.qf[i]!).qw)) (xw Tryz.isAgg2 rfl (fun _ h => h.xU 6 rfl 0 rfl)) S ?_
   refine rtp 5 (.slice (aa b1 0) s.qg.length s.qg.length) S ?_
   refine rtp 6 (pp b8 (o9 + (i : Int).toNat * 9)) S ?_
   refine rtp 7 (pp b8 (o9 + (i : Int).toNat * 9)) S ?_
   refine rt 8 (pp b8 (o9 + (i : Int).toNat * 9 + 0)) (xH b8 (o9 + (i : Int).toNat * 9) 0 Tryz.underlying110 rfl rfl Tryz.sizeOf2 rfl) S ?_
   refine rt 9 (.int .i64 ((s.qf[i]!).qw)) (xw Tryz.isAgg2 rfl (fun _ h => h.xU 6 rfl 0 rfl)) S ?_
   refine rt 10 (pp b1 (0 + ((s.qf[i]!).qw : Int).toNat * 1)) (xQ b1 (0) s.qg.length s.qg.length ((s.qf[i]!).qw) Tryz.underlying22 ti2 rfl rfl (by omega) (by omega)) S ?_
   refine rtp 12 (pp b8 (o9 + (i : Int).toNat * 9)) S ?_
   refine rtp 13 (pp b8 (o9 + (i : Int).toNat * 9)) S ?_
   refine rt 14 (pp b8 (o9 + (i : Int).toNat * 9 + 1)) (xH b8 (o9 + (i : Int).toNat * 9) 1 Tryz.underlying110 rfl rfl Tryz.sizeOf2 rfl) S ?_
   refine rt 15 (.int .i64 ((s.qf[i]!).xM)) (xw Tryz.isAgg2 rfl (fun _ h => h.xU 6 rfl 1 rfl)) S ?_
   refine zt [11] (by kernel_rfl) (by simp) (yF rfl ?_ zu)
   refine qC (.int .i64 ((bests s t 0 s.qg.length i)[((s.qf[i]!).qw).toNat]!)) Tryz.isAgg2 rfl (H.rowInt 2 rfl (iv := (s.qf[i]!).qw) (i := (((s.qf[i]!).qw).toNat)) (by omega) (by omega)) ?_
   refine ⟨H.pick [0, 1] [0, 1, 2, 3, 4, 5, 6, 7, 8, 9, 10, 11, 12, 13], ?_⟩
   refine zt [16] (by kernel_rfl) (by simp) (yF rfl ?_ zu)
   refine xm #[.int .i64 ((bests s t 0 s.qg.length i)[((s.qf[i]!).qw).toNat]!), .int .i64 ((s.qf[i]!).xM)] rfl rfl Tryz.call130 (l00Max_ok w19.drew ((bests s t 0 s.qg.length i)[((s.qf[i]!).qw).toNat]!) ((s.qf[i]!).xM)) ?_
   rintro _ w23 rfl x24
   replace H := H.ext x24
   refine ⟨H.pick [0, 1] [0, 1, 2, 3, 4, 5, 6, 7, 8, 9, 10, 11, 12, 13], ?_⟩
   refine rt 17 (pp b1 (0 + ((s.qf[i]!).qw : Int).toNat * 1)) (xQ b1 (0) s.qg.length s.qg.length ((s.qf[i]!).qw) Tryz.underlying22 ti2 rfl rfl (by omega) (by omega)) (H.pick [0, 1] [0, 1, 2, 3, 4, 5, 6, 7, 8, 9, 10, 11, 12, 13]) ?_
   refine zt [18] (by kernel_rfl) (by simp) (yF rfl ?_ zu)
   refine o_storeInt H 2 rfl (max ((bests s t 0 s.qg.length i)[((s.qf[i]!).qw).toNat]!) ((s.qf[i]!).xM)) Tryz.sizeOf2 rfl rfl (i := (((s.qf[i]!).qw).toNat)) (by omega) (by omega) fun w25 H => ?_
   try dsimp only [List.set] at H
   refine ⟨H.pick [0, 1] [0, 1, 2, 3, 4, 5, 6, 7, 8, 9, 10, 11, 12, 13], ?_⟩
   refine xZ (by kernel_rfl) (b_n (t_n ?_))
   refine qp ?_
   refine sp (.int .i64 i) ?_
   refine sw (zD i 1 rfl rfl (by omega) ?_)
   refine sp (.int .i64 (i + 1)) ?_
   refine qo ?_
   refine xy (m' := (s.qf.length - ((i + 1) : Int)).toNat) (by omega) ⟨_, a17, vO + 1, c18, ((applB s t 0 i) ++ [dec (EnOk s t (s.qf[i]!))]), i + 1, ((bests s t 0 s.qg.length i).set (((s.qf[i]!).qw).toNat) (max ((bests s t 0 s.qg.length i)[((s.qf[i]!).qw).toNat]!) ((s.qf[i]!).xM))), (by exact qj (qj (qj (qj (qj (rfl) rfl) rfl) rfl) rfl) rfl), ?_, ?_, ?_, rfl, N, H.pick [1, 2] [7, 8, 9, 10, 11, 12, 13]⟩
   · exact applB_snoc s t i
   · first | exact bests_set ‹_› (by omega) | exact bests_skip ‹_›
   · omega
  replace h20 := xP h20
  refine xg (b_n (t_n (qp ?_)))
  refine sp (.int .i64 i) ?_
  refine sw (zD i 1 rfl rfl (by omega) ?_)
  refine sp (.int .i64 (i + 1)) ?_
  refine qo ?_
  refine xy (m' := (s.qf.length - ((i + 1) : Int)).toNat) (by omega) ⟨_, a17, vO + 1, c18, ((applB s t 0 i) ++ [dec (EnOk s t (s.qf[i]!))]), i + 1, (bests s t 0 s.qg.length i), (by exact qj (qj (qj (qj (qj (rfl) rfl) rfl) rfl) rfl) rfl), ?_, ?_, ?_, rfl, N, H.pick [1, 2] [7, 8, 9, 10, 11, 12, 13]⟩
  · exact applB_snoc s t i
  · first | exact bests_set ‹_› (by omega) | exact bests_skip ‹_›
  · omega
 replace h7 := of_decide_eq_false h7
 refine zx (t_x (t_x (b_x (t_n (qh (qh (qp ?_)))))))
 refine sp (.int .i64 0) ?_
 refine qo (t_n (xn ?_))
 refine zC (fun m' ρ w26 => ∃ (junk : Env) (i_1 : Nat) (out_1 : List Bool), ρ = upd (upd (upd (upd junk 0 (pp bs os)) 5 (.slice (aa b1 0) s.qg.length s.qg.length)) 6 (.slice yl vO jK)) 10 (.int .i64 i_1) ∧ out_1 = applB s t i_1 s.qf.length ∧ ((i_1 : Int) ≤ s.qf.length) ∧ m' = (s.qf.length - (i_1 : Int)).toNat ∧ Fresh w.heap.size [] ∧ St w w26 [.row (.slice yl vO jK) 4 1 vO (out_1.map (Value.bool)), .row (.slice (aa b1 0) s.qg.length s.qg.length) 2 1 s.qg.length ((bests s t 0 s.qg.length i).map (Value.int .i64))] [atF bs os [.int .i64 s.qF, .slice qm s.qg.length ql, .slice qE s.qf.length qA], isF false qL (.slice qm s.qg.length ql) s.qg, isF false xk (.slice qE s.qf.length qA) s.qf]) ((s.qf.length - (0 : Int)).toNat) ⟨_, 0, (applB s t 0 i), (by exact qj (qj (qj (qj (rfl) rfl) rfl) rfl) rfl), (by rw [show i = s.qf.length by omega]), (by omega), rfl, N, H.pick [0, 1] [0, 1, 2]⟩ ?_
 clear H N
 rintro m' ρ w27 ⟨junk, i_1, out_1, rfl, rfl, i0, rfl, N, H⟩
 have hn_out := H.rowNB 0 rfl
 have bl := Qv s t 0 s.qg.length i
 have al := applB_len s t i_1 s.qf.length
 refine qh (qh (qp ?_))
 refine sps [.int .i64 i_1, pp bs os, pp bs os] ?_
 refine sw (qH bs (os) 2 Tryz.underlying36 rfl rfl Tryz.sizeOf34 rfl ?_)
 refine sw (qC (.slice qE s.qf.length qA) Tryz.isAgg34 rfl (H.xU 0 rfl 2 rfl) ?_)
 refine sw (zK Tryz.underlying34 qE s.qf.length qA rfl ?_)
 refine sp (.bool (decide ((i_1 : Int) < s.qf.length))) ?_
 refine qo (t_n ?_)
 refine qP (decide ((i_1 : Int) < s.qf.length)) rfl (fun h28 => ?_) (fun h28 => ?_)
 ·skip
  replace h28 := of_decide_eq_true h28
  have q := p0.rule (i := i_1) (by omega)
  have qc := q.1
  have qk := q.cell
  have qr := q.2.1
  refine xg (t_n (qh (xn ?_)))
  refine QI rfl H [1] fun H => ?_
  have S := H.QN [1] [0, 1, 2]
  refine rtp 0 (.slice yl vO jK) S ?_
  refine rtp 1 (.int .i64 i_1) S ?_
  refine rtp 2 (.slice yl vO jK) S ?_
  refine rtp 3 (.int .i64 i_1) S ?_
  obtain ⟨b30, rfl⟩ := H.rowAddr 0 rfl (by omega)
  refine rt 4 (pp b30 (0 + (i_1 : Int).toNat * 1)) (xQ b30 (0) vO jK i_1 Tryz.underlying26 ti4 rfl rfl (by omega) (by omega)) (H.pick [1] [0, 1, 2]) ?_
  refine zt [5] (by kernel_rfl) (by simp) (yF rfl ?_ zu)
  refine qC (.bool ((applB s t i_1 s.qf.length)[i_1]!)) Tryz.isAgg4 rfl (H.rowBool 0 rfl (iv := i_1) (i := i_1) (by omega) (by omega)) ?_
  refine ⟨H.pick [1] [0, 1, 2], ?_⟩
  refine rtp 6 (.bool ((applB s t i_1 s.qf.length)[i_1]!)) (H.pick [1] [0, 1, 2]) ?_
  cases h31 : ((applB s t i_1 s.qf.length)[i_1]!)
  ·skip
   refine zq [7, 8, 9, 10, 11, 12, 13, 14, 15, 16, 17, 18, 19, 20, 21, 22, 23, 24, 25, 26] 20 (H.pick [1] [0, 1, 2]) ?_
   have S := H.QN [1] [0, 1, 2]
   refine rtp 27 (.bool false) S ?_
   refine rt 28 (pp b30 (0 + (i_1 : Int).toNat * 1)) (xQ b30 (0) vO jK i_1 Tryz.underlying26 ti4 rfl rfl (by omega) (by omega)) S ?_
   refine zt [29] (by kernel_rfl) (by simp) (yF rfl ?_ zu)
   refine o_storeBool H 0 rfl false Tryz.sizeOf4 rfl rfl (i := i_1) (by omega) (by omega) fun w32 H => ?_
   try dsimp only [List.set] at H
   refine ⟨H.pick [1] [0, 1, 2], ?_⟩
   refine xZ (by kernel_rfl) (b_n (t_n ?_))
   refine qp ?_
   refine sp (.int .i64 i_1) ?_
   refine sw (zD i_1 1 rfl rfl (by omega) ?_)
   refine sp (.int .i64 (i_1 + 1)) ?_
   refine qo ?_
   refine xy (m' := (s.qf.length - ((i_1 + 1) : Int)).toNat) (by omega) ⟨_, i_1 + 1, ((applB s t i_1 s.qf.length).set i_1 false), (by exact qj (qj (qj (qj (rfl) rfl) rfl) rfl) rfl), ?_, ?_, rfl, N, H⟩
   · first | exact applB_set (by omega) (applB_step0 (m := s.qf.length) (by omega) ‹_›) | exact applB_set (by omega) (applB_step1 (m := s.qf.length) (n := s.qg.length) (z := 0) (i := i) (by omega) ‹_› rfl (by omega) (by omega) (by omega))
   · omega
  have S := H.QN [1] [0, 1, 2]
  refine rgp 7 (pp bs os) 75 S ?_
  refine rgp 8 (pp bs os) 75 S ?_
  refine rg 9 (pp bs (os + 2)) 75 (xH bs (os) 2 Tryz.underlying36 rfl rfl Tryz.sizeOf34 rfl) S ?_
  refine rg 10 (.slice qE s.qf.length qA) 75 (xw Tryz.isAgg34 rfl (fun _ h => h.xU 0 rfl 2 rfl)) S ?_
  refine rgp 11 (.int .i64 i_1) 75 S ?_
  obtain ⟨b33, o34, rfl⟩ := H.addr 2 rfl (by omega)
  obtain ⟨ae36Need, ce36Need, Fe36Need, ae36Have, ce36Have, Fe36Have, ae36Lack, ce36Lack, Fe36Lack, ae36Here, ce36Here, Fe36Here, ae36Out, ce36Out, Fe36Out, ae36Into, ce36Into, Fe36Into, H⟩ := H.jv 2 rfl i_1 i_1 (by omega) (by omega) (by omega)
  have S := H.QN [1] [7, 8, 9]
  refine rg 12 (pp b33 (o34 + (i_1 : Int).toNat * 9)) 75 (xQ b33 (o34) s.qf.length qA i_1 Tryz.underlying34 ti110 rfl rfl (by omega) (by omega)) S ?_
  refine rg 13 (pp b33 (o34 + (i_1 : Int).toNat * 9 + 1)) 75 (xH b33 (o34 + (i_1 : Int).toNat * 9) 1 Tryz.underlying110 rfl rfl Tryz.sizeOf2 rfl) S ?_
  refine rgp 15 (.slice (aa b1 0) s.qg.length s.qg.length) 75 S ?_
  refine rgp 16 (pp bs os) 75 S ?_
  refine rgp 17 (pp bs os) 75 S ?_
  refine rg 18 (pp bs (os + 2)) 75 (xH bs (os) 2 Tryz.underlying36 rfl rfl Tryz.sizeOf34 rfl) S ?_
  refine rg 19 (.slice (aa b33 o34) s.qf.length qA) 75 (xw Tryz.isAgg34 rfl (fun _ h => h.xU 0 rfl 2 rfl)) S ?_
  refine rgp 20 (.int .i64 i_1) 75 S ?_
  refine rg 21 (pp b33 (o34 + (i_1 : Int).toNat * 9)) 75 (xQ b33 (o34) s.qf.length qA i_1 Tryz.underlying34 ti110 rfl rfl (by omega) (by omega)) S ?_
  refine rg 22 (pp b33 (o34 + (i_1 : Int).toNat * 9 + 0)) 75 (xH b33 (o34 + (i_1 : Int).toNat * 9) 0 Tryz.underlying110 rfl rfl Tryz.sizeOf2 rfl) S ?_
  refine zt [14, 23] (by kernel_rfl) (by simp) (r_opG rfl (e := 75) rfl rfl ?_ (r_opG rfl (e := 75) rfl rfl ?_ zu))
  ·skip
   refine qC (.int .i64 ((s.qf[i_1]!).xM)) Tryz.isAgg2 rfl (H.xU 6 rfl 1 rfl) ?_
   refine ⟨H.pick [1] [7, 8, 9], ?_⟩
   refine zt [23] (by kernel_rfl) (by simp) (r_opG rfl (e := 75) rfl rfl ?_ zu)
   refine qC (.int .i64 ((s.qf[i_1]!).qw)) Tryz.isAgg2 rfl (H.xU 6 rfl 0 rfl) ?_
   refine ⟨H.pick [1] [7, 8, 9], ?_⟩
   have S := H.QN [1] [7, 8, 9]
   refine rg 24 (pp b1 (0 + ((s.qf[i_1]!).qw : Int).toNat * 1)) 75 (xQ b1 (0) s.qg.length s.qg.length ((s.qf[i_1]!).qw) Tryz.underlying22 ti2 rfl rfl (by omega) (by omega)) S ?_
   refine rg 25 (.int .i64 ((bests s t 0 s.qg.length i)[((s.qf[i_1]!).qw).toNat]!)) 75 (xw Tryz.isAgg2 rfl (fun _ h => h.rowInt 0 rfl (iv := (s.qf[i_1]!).qw) (i := (((s.qf[i_1]!).qw).toNat)) (by omega) (by omega))) S ?_
   refine rgp 26 (.bool (((s.qf[i_1]!).xM : Int) == ((bests s t 0 s.qg.length i)[((s.qf[i_1]!).qw).toNat]!))) 75 S ?_
   refine rtp 27 (.bool (((s.qf[i_1]!).xM : Int) == ((bests s t 0 s.qg.length i)[((s.qf[i_1]!).qw).toNat]!))) S ?_
   refine rt 28 (pp b30 (0 + (i_1 : Int).toNat * 1)) (xQ b30 (0) vO jK i_1 Tryz.underlying26 ti4 rfl rfl (by omega) (by omega)) S ?_
   refine zt [29] (by kernel_rfl) (by simp) (yF rfl ?_ zu)
   refine o_storeBool H 0 rfl (((s.qf[i_1]!).xM : Int) == ((bests s t 0 s.qg.length i)[((s.qf[i_1]!).qw).toNat]!)) Tryz.sizeOf4 rfl rfl (i := i_1) (by omega) (by omega) fun w37 H => ?_
   try dsimp only [List.set] at H
   refine ⟨H.pick [1] [7, 8, 9], ?_⟩
   refine xZ (by kernel_rfl) (b_n (t_n ?_))
   refine qp ?_
   refine sp (.int .i64 i_1) ?_
   refine sw (zD i_1 1 rfl rfl (by omega) ?_)
   refine sp (.int .i64 (i_1 + 1)) ?_
   refine qo ?_
   refine xy (m' := (s.qf.length - ((i_1 + 1) : Int)).toNat) (by omega) ⟨_, i_1 + 1, ((applB s t i_1 s.qf.length).set i_1 (((s.qf[i_1]!).xM : Int) == ((bests s t 0 s.qg.length i)[((s.qf[i_1]!).qw).toNat]!))), (by exact qj (qj (qj (qj (rfl) rfl) rfl) rfl) rfl), ?_, ?_, rfl, N, H.pick [0, 1] [7, 8, 9]⟩
   · first | exact applB_set (by omega) (applB_step0 (m := s.qf.length) (by omega) ‹_›) | exact applB_set (by omega) (applB_step1 (m := s.qf.length) (n := s.qg.length) (z := 0) (i := i) (by omega) ‹_› rfl (by omega) (by omega) (by omega))
   · omega
  refine qC (.int .i64 ((s.qf[i_1]!).qw)) Tryz.isAgg2 rfl (H.xU 6 rfl 0 rfl) ?_
  refine ⟨H.pick [1] [7, 8, 9], ?_⟩
  have S := H.QN [1] [7, 8, 9]
  refine rg 24 (pp b1 (0 + ((s.qf[i_1]!).qw : Int).toNat * 1)) 75 (xQ b1 (0) s.qg.length s.qg.length ((s.qf[i_1]!).qw) Tryz.underlying22 ti2 rfl rfl (by omega) (by omega)) S ?_
  refine rg 25 (.int .i64 ((bests s t 0 s.qg.length i)[((s.qf[i_1]!).qw).toNat]!)) 75 (xw Tryz.isAgg2 rfl (fun _ h => h.rowInt 0 rfl (iv := (s.qf[i_1]!).qw) (i := (((s.qf[i_1]!).qw).toNat)) (by omega) (by omega))) S ?_
  refine zt [14] (by kernel_rfl) (by simp) (r_opG rfl (e := 75) rfl rfl ?_ zu)
  refine qC (.int .i64 ((s.qf[i_1]!).xM)) Tryz.isAgg2 rfl (H.xU 6 rfl 1 rfl) ?_
  refine ⟨H.pick [1] [7, 8, 9], ?_⟩
  have S := H.QN [1] [7, 8, 9]
  refine rgp 26 (.bool (((s.qf[i_1]!).xM : Int) == ((bests s t 0 s.qg.length i)[((s.qf[i_1]!).qw).toNat]!))) 75 S ?_
  refine rtp 27 (.bool (((s.qf[i_1]!).xM : Int) == ((bests s t 0 s.qg.length i)[((s.qf[i_1]!).qw).toNat]!))) S ?_
  refine rt 28 (pp b30 (0 + (i_1 : Int).toNat * 1)) (xQ b30 (0) vO jK i_1 Tryz.underlying26 ti4 rfl rfl (by omega) (by omega)) S ?_
  refine zt [29] (by kernel_rfl) (by simp) (yF rfl ?_ zu)
  refine o_storeBool H 0 rfl (((s.qf[i_1]!).xM : Int) == ((bests s t 0 s.qg.length i)[((s.qf[i_1]!).qw).toNat]!)) Tryz.sizeOf4 rfl rfl (i := i_1) (by omega) (by omega) fun w38 H => ?_
  try dsimp only [List.set] at H
  refine ⟨H.pick [1] [7, 8, 9], ?_⟩
  refine xZ (by kernel_rfl) (b_n (t_n ?_))
  refine qp ?_
  refine sp (.int .i64 i_1) ?_
  refine sw (zD i_1 1 rfl rfl (by omega) ?_)
  refine sp (.int .i64 (i_1 + 1)) ?_
  refine qo ?_
  refine xy (m' := (s.qf.length - ((i_1 + 1) : Int)).toNat) (by omega) ⟨_, i_1 + 1, ((applB s t i_1 s.qf.length).set i_1 (((s.qf[i_1]!).xM : Int) == ((bests s t 0 s.qg.length i)[((s.qf[i_1]!).qw).toNat]!))), (by exact qj (qj (qj (qj (rfl) rfl) rfl) rfl) rfl), ?_, ?_, rfl, N, H.pick [0, 1] [7, 8, 9]⟩
  · first | exact applB_set (by omega) (applB_step0 (m := s.qf.length) (by omega) ‹_›) | exact applB_set (by omega) (applB_step1 (m := s.qf.length) (n := s.qg.length) (z := 0) (i := i) (by omega) ‹_› rfl (by omega) (by omega) (by omega))
  · omega
 replace h28 := of_decide_eq_false h28
 refine zx (t_x (t_x (b_x (t_n (qh (qp ?_))))))
 refine sps [.slice yl vO jK, .slice yl vO jK] ?_
 refine qo (t_n (xh ?_))
 refine ret1 (.slice yl vO jK) rfl rfl ⟨_, rfl, ?_, H.base⟩
 obtain rfl : i_1 = s.qf.length := by omega
 exact ⟨yl, vO, jK, rfl, N, H.pick [0] []⟩

end Go.Proofs.YtkmlihdacnfhdaaGreat
