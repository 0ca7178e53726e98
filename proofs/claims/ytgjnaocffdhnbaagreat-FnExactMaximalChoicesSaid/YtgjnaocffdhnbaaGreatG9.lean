/- Walks, printed by program (wip/tools/gv.py): what each function comes to, for all arguments. -/
import Derived.Test.YtgjnaocffdhnbaaGreatG4
import Derived.Test.YtgjnaocffdhnbaaGreatQ
import Derived.Test.YtgjnaocffdhnbaaGreatP2
import Derived.Test.YtgjnaocffdhnbaaGreatI
import Derived.Test.YtgjnaocffdhnbaaGreatTI
import Derived.Test.YtgjnaocffdhnbaaGreatP6
namespace Go.Proofs.YtgjnaocffdhnbaaGreat
set_option linter.unusedVariables false
set_option linter.unusedSimpArgs false
open Go.Proofs.YtgjnaocffdhnbaaGreat.Tot (tot)
open Go.Proofs.YtgjnaocffdhnbaaGreat.Mark (cnt mrk mkd mkd_mark cnt_mark)
open Go.RowKit
set_option linter.unusedVariables false
set_option linter.unusedSimpArgs false
set_option maxRecDepth 100000
set_option maxHeartbeats 4000000

instance iC98_G9 : Qn Tryz.prog 98 := ⟨Tryz.call98⟩
instance iC87_G9 : Qn Tryz.prog 87 := ⟨Tryz.call87⟩
instance iC192_G9 : Qn Tryz.prog 192 := ⟨Tryz.call192⟩
instance iC182_G9 : Qn Tryz.prog 182 := ⟨Tryz.call182⟩
instance iC157_G9 : Qn Tryz.prog 157 := ⟨Tryz.call157⟩
instance iC119_G9 : Qn Tryz.prog 119 := ⟨Tryz.call119⟩


theorem l00Max_ok (w : World) (a : Int) (b : Int) : Calls Tryz.prog 119 #[.int .i64 a, .int .i64 b] w (Ret (fun v w' => v = .int .i64 (max a b)) w) := by
 refine en Tryz.func119 Tryz.ntmps119 ?_
 have H := St.start w
 have N := Fresh.nil w.heap.size
 refine qi (ql ?_)
 refine sp (.int .i64 0) ?_
 refine qj (t_n (qi (qi (ql ?_))))
 refine sps [.int .i64 a, .int .i64 b, .bool (decide ((a : Int) > b))] ?_
 refine qj (t_n ?_)
 refine qC (decide ((a : Int) > b)) rfl (fun h1 => ?_) (fun h1 => ?_)
 ·skip
  replace h1 := of_decide_eq_true h1
  refine qi (ql ?_)
  refine sps [.int .i64 a, .int .i64 a] ?_
  refine qj (t_n (qV (t_r ?_)))
  refine ret1 (.int .i64 a) rfl rfl ⟨_, rfl, ?_, H.base⟩
  refine congrArg (Value.int .i64) ?_
  omega
 replace h1 := of_decide_eq_false h1
 refine qM (t_n (qi (ql ?_)))
 refine sps [.int .i64 b, .int .i64 b] ?_
 refine qj (t_n (qV ?_))
 refine ret1 (.int .i64 b) rfl rfl ⟨_, rfl, ?_, H.base⟩
 refine congrArg (Value.int .i64) ?_
 omega

theorem l01Within_ok (w : World) (l : List Int) (m : List Int) (al : Option Addr) (cl : Nat) (Fl : List Nat) (am : Option Addr) (cm : Nat) (Fm : List Nat) (hl : qE.rep w Fl [.slice al l.length cl] l) (hm : qE.rep w Fm [.slice am m.length cm] m) (p0 : l.length ≤ m.length) : Calls Tryz.prog 192 #[.slice al l.length cl, .slice am m.length cm] w (Ret (fun v w' => v = .bool (within l m)) w) := by
 refine en Tryz.func192 Tryz.ntmps192 ?_
 have H := ((St.start w).arg hm).arg hl
 have nhl := qA hl
 have nhm := qA hm
 clear hl hm
 have N := Fresh.nil w.heap.size
 refine qi (ql ?_)
 refine sp (.bool false) ?_
 refine qj (t_n (qi (qi (ql ?_))))
 refine sp (.int .i64 0) ?_
 refine qj (t_n (qW ?_))
 refine zf (fun m' ρ w1 => ∃ (junk : Env) (i : Nat), ρ = upd (upd (upd junk 0 (.slice al l.length cl)) 1 (.slice am m.length cm)) 5 (.int .i64 i) ∧ ((i : Int) ≤ l.length) ∧ (withinTo l m i) ∧ m' = (l.length - (i : Int)).toNat ∧ Fresh w.heap.size [] ∧ St w w1 [] [isF false Fl (.slice al l.length cl) l, isF false Fm (.slice am m.length cm) m]) ((l.length - (0 : Int)).toNat) ⟨_, 0, (by exact qg (qg (qg (rfl) rfl) rfl) rfl), (by omega), (by exact withinTo_zero l m), rfl, N, H⟩ ?_
 clear H N
 rintro m' ρ w2 ⟨junk, i, rfl, i0, i1, rfl, N, H⟩
 refine qi (qi (ql ?_))
 refine sps [.int .i64 i, .slice al l.length cl] ?_
 refine oN rfl ?_
 refine sp (.bool (decide ((i : Int) < l.length))) ?_
 refine qj (t_n ?_)
 refine qC (decide ((i : Int) < l.length)) rfl (fun h3 => ?_) (fun h3 => ?_)
 ·skip
  replace h3 := of_decide_eq_true h3
  refine qM (t_n (qi (qW (qi ?_))))
  refine vZ rfl H fun H => ?_
  refine rtp 0 (.slice al l.length cl) H ?_
  refine rtp 1 (.int .i64 i) H ?_
  obtain ⟨b5, o6, rfl⟩ := H.addr 0 rfl (by omega)
  refine tI 2 rfl rfl rfl H ?_
  refine tL 3 rfl rfl (fun _ h => h.yP 0 rfl i (by omega)) H ?_
  refine rtp 4 (.slice am m.length cm) H ?_
  refine rtp 5 (.int .i64 i) H ?_
  obtain ⟨b8, o9, rfl⟩ := H.addr 1 rfl (by omega)
  refine tI 6 rfl rfl rfl H ?_
  refine tL 7 rfl rfl (fun _ h => h.yP 1 rfl i (by omega)) H ?_
  refine rtp 8 (.bool (decide ((l[i]! : Int) > (m[i]!)))) H ?_
  refine xq (by kernel_rfl) (t_n ?_)
  refine qC (decide ((l[i]! : Int) > (m[i]!))) rfl (fun h11 => ?_) (fun h11 => ?_)
  ·skip
   replace h11 := of_decide_eq_true h11
   refine qi (ql ?_)
   refine sp (.bool false) ?_
   refine qj (t_n (qV (b_r (t_r (t_r (b_r (t_r ?_)))))))
   refine ret1 (.bool false) rfl rfl ⟨_, rfl, ?_, H.base⟩
   rw [within_no (k := i) ‹_› (by omega)]
  replace h11 := of_decide_eq_false h11
  refine qM (b_n (t_n (ql ?_)))
  refine sp (.int .i64 i) ?_
  refine sw (zk i 1 rfl rfl (by omega) ?_)
  refine sp (.int .i64 (i + 1)) ?_
  refine qj ?_
  refine xk (m' := (l.length - ((i + 1) : Int)).toNat) (by omega) ⟨_, i + 1, (by exact qg (qg (qg (rfl) rfl) rfl) rfl), ?_, ?_, rfl, N, H⟩
  · omega
  · exact withinTo_succ ‹_› (by omega)
 replace h3 := of_decide_eq_false h3
 refine xQ (t_x (t_x (b_x (t_n (qi (ql ?_))))))
 refine sp (.bool true) ?_
 refine qj (t_n (qV ?_))
 refine ret1 (.bool true) rfl rfl ⟨_, rfl, ?_, H.base⟩
 rw [within_yes ‹_› (by omega)]

theorem l01Times_ok (w : World) (l : List Int) (m : List Int) (al : Option Addr) (cl : Nat) (Fl : List Nat) (am : Option Addr) (cm : Nat) (Fm : List Nat) (hl : qE.rep w Fl [.slice al l.length cl] l) (hm : qE.rep w Fm [.slice am m.length cm] m) (p0 : l.length ≤ m.length) (p2 : ∀ k, k < l.length → 0 ≤ m[k]! ∧ m[k]! ≤ 1000) (p3 : ∃ j, j < l.length ∧ 0 < l[j]!) : Calls Tryz.prog 199 #[.slice al l.length cl, .slice am m.length cm] w (Ret (fun v w' => v = .int .i64 (zI l m)) w) := by
 refine en Tryz.func199 Tryz.ntmps199 ?_
 have H := ((St.start w).arg hm).arg hl
 have nhl := qA hl
 have nhm := qA hm
 clear hl hm
 have N := Fresh.nil w.heap.size
 refine qi (ql ?_)
 refine sp (.int .i64 0) ?_
 refine qj (t_n (qi (ql ?_)))
 refine sp (.int .i64 (-1)) ?_
 refine qj (t_n (qi (qi (ql ?_))))
 refine sp (.int .i64 0) ?_
 refine qj (t_n (qW ?_))
 refine zf (fun m' ρ w1 => ∃ (junk : Env) (best : Int) (i : Nat), ρ = upd (upd (upd (upd junk 0 (.slice al l.length cl)) 1 (.slice am m.length cm)) 5 (.int .i64 best)) 6 (.int .i64 i) ∧ ((i : Int) ≤ l.length) ∧ (yS l m i best) ∧ m' = (l.length - (i : Int)).toNat ∧ Fresh w.heap.size [] ∧ St w w1 [] [isF false Fl (.slice al l.length cl) l, isF false Fm (.slice am m.length cm) m]) ((l.length - (0 : Int)).toNat) ⟨_, (-1), 0, (by exact qg (qg (qg (qg (rfl) rfl) rfl) rfl) rfl), (by omega), (by exact yS.zero l m), rfl, N, H⟩ ?_
 clear H N
 rintro m' ρ w2 ⟨junk, best, i, rfl, i0, i1, rfl, N, H⟩
 refine qi (qi (ql ?_))
 refine sps [.int .i64 i, .slice al l.length cl] ?_
 refine oN rfl ?_
 refine sp (.bool (decide ((i : Int) < l.length))) ?_
 refine qj (t_n ?_)
 refine qC (decide ((i : Int) < l.length)) rfl (fun h3 => ?_) (fun h3 => ?_)
 ·skip
  replace h3 := of_decide_eq_true h3
  refine qM (t_n (qi (qW (qi ?_))))
  refine vZ rfl H fun H => ?_
  refine rtp 0 (.slice al l.length cl) H ?_
  refine rtp 1 (.int .i64 i) H ?_
  obtain ⟨b5, o6, rfl⟩ := H.addr 0 rfl (by omega)
  refine tI 2 rfl rfl rfl H ?_
  refine tL 3 rfl rfl (fun _ h => h.yP 0 rfl i (by omega)) H ?_
  refine rtp 4 (.bool (decide ((l[i]! : Int) > 0))) H ?_
  refine rtp 5 (.bool (decide ((l[i]! : Int) > 0))) H ?_
  cases h8 : (decide ((l[i]! : Int) > 0))
  ·skip
   replace h8 := of_decide_eq_false h8
   refine zi [6, 7, 8, 9, 10, 11, 12, 13, 14, 15, 16, 17, 18, 19, 20] 15 (H) ?_
   refine rtp 21 (.bool false) H ?_
   refine xq (by kernel_rfl) (t_n ?_)
   refine qC false rfl (fun h => absurd h (by decide)) (fun _ => ?_)
   refine qM (b_n (t_n (ql ?_)))
   refine sp (.int .i64 i) ?_
   refine sw (zk i 1 rfl rfl (by (have := p2 i (by omega); omega)) ?_)
   refine sp (.int .i64 (i + 1)) ?_
   refine qj ?_
   refine xk (m' := (l.length - ((i + 1) : Int)).toNat) (by omega) ⟨_, best, i + 1, (by exact qg (qg (qg (qg (rfl) rfl) rfl) rfl) rfl), ?_, ?_, rfl, N, H⟩
   · omega
   · first | exact i1.take (p2 i (by omega)) (by omega) (by omega) (timesTo_bd (fun k hk => (p2 k hk).1) i (by omega)).1 | exact i1.keep (by omega) | exact i1.keep2 (by omega) (by omega) (by omega)
  replace h8 := of_decide_eq_true h8
  refine rgp 6 (.int .i64 best) 18 H ?_
  refine rgp 7 (.bool (decide ((best : Int) < 0))) 18 H ?_
  refine rgp 8 (.bool (decide ((best : Int) < 0))) 18 H ?_
  cases h9 : (decide ((best : Int) < 0))
  ·skip
   replace h9 := of_decide_eq_false h9
   refine rgp 9 (.slice am m.length cm) 21 H ?_
   refine rgp 10 (.int .i64 i) 21 H ?_
   obtain ⟨b10, o11, rfl⟩ := H.addr 1 rfl (by omega)
   refine gI 11 rfl rfl rfl H ?_
   refine gL 12 rfl rfl (fun _ h => h.vT 1 rfl i (by omega) (by omega)) H ?_
   refine rgp 13 (.slice (aa b5 o6) l.length cl) 21 H ?_
   refine rgp 14 (.int .i64 i) 21 H ?_
   refine gI 15 rfl rfl rfl H ?_
   refine gL 16 rfl rfl (fun _ h => h.vT 0 rfl i (by omega) (by omega)) H ?_
   refine rg 17 (.int .i64 ((m[i]!) / (l[i]!))) 21 (y_quo (m[i]!) (l[i]!) rfl rfl (by (have := p2 i (by omega); omega)) (by (have := p2 i (by omega); omega))) H ?_
   refine rgp 18 (.int .i64 best) 21 H ?_
   refine rgp 19 (.bool (decide (((m[i]!) / (l[i]!) : Int) < best))) 21 H ?_
   refine rgp 20 (.bool (decide (((m[i]!) / (l[i]!) : Int) < best))) 18 H ?_
   refine rtp 21 (.bool (decide (((m[i]!) / (l[i]!) : Int) < best))) H ?_
   refine xq (by kernel_rfl) (t_n ?_)
   refine qC (decide (((m[i]!) / (l[i]!) : Int) < best)) rfl (fun h13 => ?_) (fun h13 => ?_)
   ·skip
    replace h13 := of_decide_eq_true h13
    refine vZ rfl H fun H => ?_
    refine rtp 0 (.slice (aa b10 o11) m.length cm) H ?_
    refine rtp 1 (.int .i64 i) H ?_
    refine tI 2 rfl rfl rfl H ?_
    refine tL 3 rfl rfl (fun _ h => h.yP 1 rfl i (by omega)) H ?_
    refine rtp 4 (.slice (aa b5 o6) l.length cl) H ?_
    refine rtp 5 (.int .i64 i) H ?_
    refine tI 6 rfl rfl rfl H ?_
    refine tL 7 rfl rfl (fun _ h => h.yP 0 rfl i (by omega)) H ?_
    refine rt 8 (.int .i64 ((m[i]!) / (l[i]!))) (y_quo (m[i]!) (l[i]!) rfl rfl (by (have := p2 i (by omega); omega)) (by (have := p2 i (by omega); omega))) H ?_
    refine rtp 9 (.int .i64 ((m[i]!) / (l[i]!))) H ?_
    refine xq (by kernel_rfl) (b_n (t_n ?_))
    refine ql ?_
    refine sp (.int .i64 i) ?_
    refine sw (zk i 1 rfl rfl (by (have := p2 i (by omega); omega)) ?_)
    refine sp (.int .i64 (i + 1)) ?_
    refine qj ?_
    refine xk (m' := (l.length - ((i + 1) : Int)).toNat) (by omega) ⟨_, (m[i]!) / (l[i]!), i + 1, (by exact qg (qg (qg (qg (rfl) rfl) rfl) rfl) rfl), ?_, ?_, rfl, N, H⟩
    · omega
    · first | exact i1.take (p2 i (by omega)) (by omega) (by omega) (timesTo_bd (fun k hk => (p2 k hk).1) i (by omega)).1 | exact i1.keep (by omega) | exact i1.keep2 (by omega) (by omega) (by omega)
   replace h13 := of_decide_eq_false h13
   refine qM (b_n (t_n (ql ?_)))
   refine sp (.int .i64 i) ?_
   refine sw (zk i 1 rfl rfl (by (have := p2 i (by omega); omega)) ?_)
   refine sp (.int .i64 (i + 1)) ?_
   refine qj ?_
   refine xk (m' := (l.length - ((i + 1) : Int)).toNat) (by omega) ⟨_, best, i + 1, (by exact qg (qg (qg (qg (rfl) rfl) rfl) rfl) rfl), ?_, ?_, rfl, N, H⟩
   · omega
   · first | exact i1.take (p2 i (by omega)) (by omega) (by omega) (timesTo_bd (fun k hk => (p2 k hk).1) i (by omega)).1 | exact i1.keep (by omega) | exact i1.keep2 (by omega) (by omega) (by omega)
  replace h9 := of_decide_eq_true h9
  refine zi [9, 10, 11, 12, 13, 14, 15, 16, 17, 18, 19] 11 (H) ?_
  refine rgp 20 (.bool true) 18 H ?_
  refine rtp 21 (.bool true) H ?_
  refine xq (by kernel_rfl) (t_n ?_)
  refine qC true rfl (fun _ => ?_) (fun h => absurd h (by decide))
  refine vZ rfl H fun H => ?_
  refine rtp 0 (.slice am m.length cm) H ?_
  refine rtp 1 (.int .i64 i) H ?_
  obtain ⟨b16, o17, rfl⟩ := H.addr 1 rfl (by omega)
  refine tI 2 rfl rfl rfl H ?_
  refine tL 3 rfl rfl (fun _ h => h.yP 1 rfl i (by omega)) H ?_
  refine rtp 4 (.slice (aa b5 o6) l.length cl) H ?_
  refine rtp 5 (.int .i64 i) H ?_
  refine tI 6 rfl rfl rfl H ?_
  refine tL 7 rfl rfl (fun _ h => h.yP 0 rfl i (by omega)) H ?_
  refine rt 8 (.int .i64 ((m[i]!) / (l[i]!))) (y_quo (m[i]!) (l[i]!) rfl rfl (by (have := p2 i (by omega); omega)) (by (have := p2 i (by omega); omega))) H ?_
  refine rtp 9 (.int .i64 ((m[i]!) / (l[i]!))) H ?_
  refine xq (by kernel_rfl) (b_n (t_n ?_))
  refine ql ?_
  refine sp (.int .i64 i) ?_
  refine sw (zk i 1 rfl rfl (by (have := p2 i (by omega); omega)) ?_)
  refine sp (.int .i64 (i + 1)) ?_
  refine qj ?_
  refine xk (m' := (l.length - ((i + 1) : Int)).toNat) (by omega) ⟨_, (m[i]!) / (l[i]!), i + 1, (by exact qg (qg (qg (qg (rfl) rfl) rfl) rfl) rfl), ?_, ?_, rfl, N, H⟩
  · omega
  · first | exact i1.take (p2 i (by omega)) (by omega) (by omega) (timesTo_bd (fun k hk => (p2 k hk).1) i (by omega)).1 | exact i1.keep (by omega) | exact i1.keep2 (by omega) (by omega) (by omega)
 replace h3 := of_decide_eq_false h3
 refine xQ (t_x (t_x (b_x (t_n (qi (ql ?_))))))
 refine sps [.int .i64 best, .int .i64 best] ?_
 refine qj (t_n (qV ?_))
 refine ret1 (.int .i64 best) rfl rfl ⟨_, rfl, ?_, H.base⟩
 obtain rfl : i = l.length := by omega
 rw [i1.done p3]; rfl

theorem l03Both_ok (w : World) (s : qK) (t : xu) (bs os : Nat) (qx : Option Addr) (qp : Nat) (xn : List Nat) (qN : Option Addr) (qL : Nat) (xG : List Nat) (bt ot : Nat) (xB : Option Addr) (xx : Nat) (zy : List Nat) (xK : Option Addr) (xH : Nat) (zX : List Nat) (xg : Option Addr) (xf : Nat) (xW : List Nat) (hs : zT w bs os [.int .i64 s.qH, .slice qx s.qf.length qp, .slice qN s.qh.length qL]) (xh : qE.rep w xn [.slice qx s.qf.length qp] s.qf) (xE : qE.rep w xG [.slice qN s.qh.length qL] s.qh) (ht : zT w bt ot [.slice xB t.qo.length xx, .slice xK t.qy.length xH, .slice xg t.qm.length xf]) (zu : qE.rep w zy [.slice xB t.qo.length xx] t.qo) (zV : qE.rep w zX [.slice xK t.qy.length xH] t.qy) (xU : qE.rep w xW [.slice xg t.qm.length xf] t.qm) : Calls Tryz.prog 57 #[pp bs os, pp bt ot] w (Ret (fun v w' => v = .bool (dec (yw s ∧ zS s t))) w) := by
 refine en Tryz.func57 Tryz.ntmps57 ?_
 have H := (((((((St.start w).arg xU).arg zV).arg zu).argAt ht).arg xE).arg xh).argAt hs
 have zU := qA xh
 have jD := qA xE
 have Xr := qA zu
 have nhtBags := qA zV
 have QA := qA xU
 clear hs xh xE ht zu zV xU
 have N := Fresh.nil w.heap.size
 refine qi (ql ?_)
 refine sp (.bool false) ?_
 refine qj (t_n (qi (ql ?_)))
 refine sp (pp bs os) ?_
 refine sw (oc (l02Ok_ok _ s _ _ _ _ _ _ _ _ (qI (H.get 0 rfl) 0 3) (H.get 1 rfl).1 (H.get 2 rfl).1) ?_)
 rintro _ w1 rfl x2
 replace H := H.ext x2
 refine sp (.bool (dec (yw s))) ?_
 cases h3 : (dec (yw s))
 ·skip
  replace h3 := xI h3
  refine xF [8, 9, 10] ?_
  refine sps [.bool false, .bool false] ?_
  refine qj (t_n (qV ?_))
  refine ret1 (.bool false) rfl rfl ⟨_, rfl, ?_, H.base⟩
  rw [qY (fun h => ‹¬ yw s› h.1)]
 replace h3 := vC h3
 refine qB 7 rfl rfl ?_
 refine sp (pp bs os) ?_
 refine qB 7 rfl rfl ?_
 refine sp (pp bt ot) ?_
 refine qB 7 rfl rfl ?_
 refine sw (oc (l02State_ok _ s t _ _ _ _ _ _ _ _ _ _ _ _ _ _ _ _ _ _ _ (qI (H.get 0 rfl) 0 3) (H.get 1 rfl).1 (H.get 2 rfl).1 (qI (H.get 3 rfl) 0 3) (H.get 4 rfl).1 (H.get 5 rfl).1 (H.get 6 rfl).1 (by first | assumption | exact (And.left (by assumption : yw _)))) ?_)
 rintro _ w4 rfl x5
 replace H := H.ext x5
 refine sps [.bool (dec (zS s t)), .bool (dec (zS s t))] ?_
 refine qj (t_n (qV ?_))
 refine ret1 (.bool (dec (zS s t))) rfl rfl ⟨_, rfl, ?_, H.base⟩
 refine congrArg Value.bool (dec_eq ?_)
 first | exact ⟨fun h => ⟨‹_›, vC h⟩, fun h => jE h.2⟩ | (simp_all; done)

theorem l03Enabled_ok (w : World) (s : qK) (t : xu) (r : Qm) (bs os : Nat) (qx : Option Addr) (qp : Nat) (xn : List Nat) (qN : Option Addr) (qL : Nat) (xG : List Nat) (bt ot : Nat) (xB : Option Addr) (xx : Nat) (zy : List Nat) (xK : Option Addr) (xH : Nat) (zX : List Nat) (xg : Option Addr) (xf : Nat) (xW : List Nat) (br or : Nat) (ja : Option Addr) (vU : Nat) (Xl : List Nat) (jd : Option Addr) (vX : Nat) (Xo : List Nat) (jb : Option Addr) (vV : Nat) (Xm : List Nat) (jc : Option Addr) (vW : Nat) (Xn : List Nat) (yK : Option Addr) (yJ : Nat) (FrOut : List Nat) (vz : Option Addr) (vw : Nat) (FrInto : List Nat) (hs : zT w bs os [.int .i64 s.qH, .slice qx s.qf.length qp, .slice qN s.qh.length qL]) (xh : qE.rep w xn [.slice qx s.qf.length qp] s.qf) (xE : qE.rep w xG [.slice qN s.qh.length qL] s.qh) (ht : zT w bt ot [.slice xB t.qo.length xx, .slice xK t.qy.length xH, .slice xg t.qm.length xf]) (zu : qE.rep w zy [.slice xB t.qo.length xx] t.qo) (zV : qE.rep w zX [.slice xK t.qy.length xH] t.qy) (xU : qE.rep w xW [.slice xg t.qm.length xf] t.qm) (hr : zT w br or [.int .i64 r.qw, .int .i64 r.xN, .slice ja r.qO.length vU, .slice jd r.qX.length vX, .slice jb r.xe.length vV, .slice jc r.xm.length vW, .slice yK r.xZ.length yJ, .slice vz r.qF.length vw, .bool r.xO]) (hrNeed : qE.rep w Xl [.slice ja r.qO.length vU] r.qO) (hrHave : qE.rep w Xo [.slice jd r.qX.length vX] r.qX) (hrLack : qE.rep w Xm [.slice jb r.xe.length vV] r.xe) (hrHere : qE.rep w Xn [.slice jc r.xm.length vW] r.xm) (hrOut : qE.rep w FrOut [.slice yK r.xZ.length yJ] r.xZ) (hrInto : qE.rep w FrInto [.slice vz r.qF.length vw] r.qF) (p0 : yw s) (p1 : zS s t) (p2 : RuleOk s r) : Calls Tryz.prog 157 #[pp bs os, pp bt ot, pp br or] w (Ret (fun v w' => v = .bool (dec (EnOk s t r))) w) := by
 refine en Tryz.func157 Tryz.ntmps157 ?_
 have H := ((((((((((((((St.start w).arg hrInto).arg hrOut).arg hrHere).arg hrLack).arg hrHave).arg hrNeed).argAt hr).arg xU).arg zV).arg zu).argAt ht).arg xE).arg xh).argAt hs
 have zU := qA xh
 have jD := qA xE
 have Xr := qA zu
 have nhtBags := qA zV
 have QA := qA xU
 have nhrNeed := qA hrNeed
 have nhrHave := qA hrHave
 have nhrLack := qA hrLack
 have nhrHere := qA hrHere
 have nhrOut := qA hrOut
 have nhrInto := qA hrInto
 clear hs xh xE ht zu zV xU hr hrNeed hrHave hrLack hrHere hrOut hrInto
 have N := Fresh.nil w.heap.size
 have p3 := p2.1
 have p4 := p1.1
 have p5 := p1.2.1
 have p6 := (p1.bagLen (k := r.qw.toNat) (by omega)).len
 have p7 := p2.2.2.2.2.1.len
 have p8 := p2.2.2.2.2.2.1.len
 have p9 := p2.2.2.2.2.2.2.1.len
 have p10 := zo p2.2.2.2.2.2.2.1
 have p11 := p0.1
 have p12 := p2.2.2.2.2.2.2.2.2.2.2
 refine qi (ql ?_)
 refine sp (.bool false) ?_
 refine qj (t_n (qi (qi ?_)))
 refine vZ rfl H fun H => ?_
 refine rtp 0 (pp bt ot) H ?_
 refine rtp 1 (pp bt ot) H ?_
 refine tF 2 rfl rfl H ?_
 refine tL 3 rfl rfl (fun _ h => h.xJ 3 rfl 0 rfl) H ?_
 refine rtp 4 (pp br or) H ?_
 refine rtp 5 (pp br or) H ?_
 refine tF 6 rfl rfl H ?_
 refine tL 7 rfl rfl (fun _ h => h.xJ 7 rfl 0 rfl) H ?_
 obtain ⟨b2, o3, rfl⟩ := H.addr 4 rfl (by omega)
 refine tI 8 rfl rfl rfl H ?_
 refine tL 9 rfl rfl (fun _ h => h.QG 4 rfl r.qw (by omega) (by omega)) H ?_
 refine rtp 10 (.bool (!(t.qo[r.qw.toNat]!))) H ?_
 refine xq (by kernel_rfl) (t_n ?_)
 refine qC (!(t.qo[r.qw.toNat]!)) rfl (fun h5 => ?_) (fun h5 => ?_)
 ·skip
  replace h5 := qP h5
  refine qi (ql ?_)
  refine sp (.bool false) ?_
  refine qj (t_n (qV (t_r ?_)))
  refine ret1 (.bool false) rfl rfl ⟨_, rfl, ?_, H.base⟩
  rw [qY (fun h => by obtain ⟨h1, h2, h3, h4, h5⟩ := h; first | exact ft h1 ‹_› | exact ft h2 ‹_› | exact ft h3 ‹_› | exact h4 ⟨‹_›, ‹_›⟩ | (obtain ⟨q1, q2⟩ := h5 i (by omega); first | exact ft q1 ‹_› | exact absurd q2 ‹_›))]
 replace h5 := qJ h5
 refine qM (t_n (qi ?_))
 refine vZ rfl H fun H => ?_
 refine rtp 0 (pp bt ot) H ?_
 refine rtp 1 (pp bt ot) H ?_
 refine tF 2 rfl rfl H ?_
 refine tL 3 rfl rfl (fun _ h => h.xJ 3 rfl 1 rfl) H ?_
 refine rtp 4 (pp br or) H ?_
 refine rtp 5 (pp br or) H ?_
 refine tF 6 rfl rfl H ?_
 refine tL 7 rfl rfl (fun _ h => h.xJ 7 rfl 0 rfl) H ?_
 obtain ⟨b7, o8, rfl⟩ := H.addr 5 rfl (by omega)
 obtain ⟨ae10, ce10, Fe10, H⟩ := H.jo 5 rfl r.qw r.qw.toNat (by omega) (by omega) (by omega)
 refine tI 8 rfl rfl rfl (H.pick [] [2, 3, 4, 5, 6, 7, 8, 9, 10, 11, 12, 13, 14, 15]) ?_
 refine qR [9] (by kernel_rfl) (by simp) (xA rfl ?_ qU)
 refine jU (.slice ae10 ((t.qy[r.qw.toNat]!).length) ce10) Tryz.isAgg22 rfl (H.xJ 1 rfl 0 rfl) ?_
 refine ⟨H.pick [] [2, 3, 4, 5, 6, 7, 8, 9, 10, 11, 12, 13, 14, 15], ?_⟩
 refine rtp 10 (.slice ae10 ((t.qy[r.qw.toNat]!).length) ce10) (H.pick [] [2, 3, 4, 5, 6, 7, 8, 9, 10, 11, 12, 13, 14, 15]) ?_
 refine xq (by kernel_rfl) (t_n ?_)
 refine qi (qi (ql ?_))
 refine sps [pp br or, pp br or] ?_
 refine oF rfl ?_
 refine oL rfl (H.xJ 9 rfl 2 rfl) ?_
 refine sp (.slice ae10 ((t.qy[r.qw.toNat]!).length) ce10) ?_
 refine sw (oc (l01Within_ok _ r.qO (t.qy[r.qw.toNat]!) _ _ _ _ _ _ (H.get 10 rfl).1 (H.get 0 rfl).1 (by first | assumption | omega)) ?_)
 rintro _ w12 rfl x13
 replace H := H.ext x13
 refine sps [.bool (!(within r.qO (t.qy[r.qw.toNat]!))), .bool (!(within r.qO (t.qy[r.qw.toNat]!)))] ?_
 cases h14 : (!(within r.qO (t.qy[r.qw.toNat]!)))
 ·skip
  replace h14 := qJ h14
  refine qB 38 rfl rfl ?_
  refine sp (pp br or) ?_
  refine qB 38 rfl rfl ?_
  refine sp (pp br or) ?_
  refine qB 38 rfl rfl ?_
  refine oF rfl ?_
  refine qB 38 rfl rfl ?_
  refine oL rfl (H.xJ 9 rfl 3 rfl) ?_
  refine qB 38 rfl rfl ?_
  refine sp (.slice ae10 ((t.qy[r.qw.toNat]!).length) ce10) ?_
  refine qB 38 rfl rfl ?_
  refine sw (oc (l01Within_ok _ r.qX (t.qy[r.qw.toNat]!) _ _ _ _ _ _ (H.get 11 rfl).1 (H.get 0 rfl).1 (by first | assumption | omega)) ?_)
  rintro _ w16 rfl x17
  replace H := H.ext x17
  refine qB 38 rfl rfl ?_
  refine sps [.bool (!(within r.qX (t.qy[r.qw.toNat]!))), .bool (!(within r.qX (t.qy[r.qw.toNat]!))), .bool (!(within r.qX (t.qy[r.qw.toNat]!)))] ?_
  cases h18 : (!(within r.qX (t.qy[r.qw.toNat]!)))
  ·skip
   replace h18 := qJ h18
   refine qB 47 rfl rfl ?_
   refine sp (pp br or) ?_
   refine qB 47 rfl rfl ?_
   refine sp (pp br or) ?_
   refine qB 47 rfl rfl ?_
   refine oF rfl ?_
   refine qB 47 rfl rfl ?_
   refine oL rfl (H.xJ 9 rfl 4 rfl) ?_
   refine qB 47 rfl rfl ?_
   refine sw (oc (XC _ r.xe _ _ _ (H.get 12 rfl).1 (by first | assumption | exact zo (by assumption) | exact jw (by assumption))) ?_)
   rintro _ w19 rfl x20
   replace H := H.ext x20
   refine qB 47 rfl rfl ?_
   refine sp (.bool (decide ((Qz r.xe : Int) > 0))) ?_
   refine qB 47 rfl rfl ?_
   refine sp (.bool (decide ((Qz r.xe : Int) > 0))) ?_
   cases h21 : (decide ((Qz r.xe : Int) > 0))
   ·skip
    replace h21 := of_decide_eq_false h21
    refine xF [55, 56, 57, 58, 59, 60] ?_
    refine qB 47 rfl rfl ?_
    refine sps [.bool false, .bool false] ?_
    refine qj (t_n ?_)
    refine qC false rfl (fun h => absurd h (by decide)) (fun _ => ?_)
    refine qM (t_n (qi (qi (ql ?_))))
    refine sp (.int .i64 0) ?_
    refine qj (t_n (qW ?_))
    refine zf (fun m' ρ w22 => ∃ (junk : Env) (i : Nat), ρ = upd (upd (upd (upd junk 0 (pp bs os)) 1 (pp bt ot)) 2 (pp br or)) 8 (.int .i64 i) ∧ ((i : Int) ≤ r.qF.length) ∧ (IntoUp s t r i) ∧ m' = (r.qF.length - (i : Int)).toNat ∧ Fresh w.heap.size [] ∧ St w w22 [] [isF false Fe10 (.slice ae10 ((t.qy[r.qw.toNat]!).length) ce10) (t.qy[r.qw.toNat]!), atF b7 (o8 + (r.qw : Int).toNat * 1) [.slice ae10 ((t.qy[r.qw.toNat]!).length) ce10], atF bs os [.int .i64 s.qH, .slice qx s.qf.length qp, .slice qN s.qh.length qL], isF false xn (.slice qx s.qf.length qp) s.qf, isF false xG (.slice qN s.qh.length qL) s.qh, atF bt ot [.slice (aa b2 o3) t.qo.length xx, .slice (aa b7 o8) t.qy.length xH, .slice xg t.qm.length xf], isF false zy (.slice (aa b2 o3) t.qo.length xx) t.qo, isF false zX (.slice (aa b7 o8) t.qy.length xH) t.qy, isF false xW (.slice xg t.qm.length xf) t.qm, atF br or [.int .i64 r.qw, .int .i64 r.xN, .slice ja r.qO.length vU, .slice jd r.qX.length vX, .slice jb r.xe.length vV, .slice jc r.xm.length vW, .slice yK r.xZ.length yJ, .slice vz r.qF.length vw, .bool r.xO], isF false Xl (.slice ja r.qO.length vU) r.qO, isF false Xo (.slice jd r.qX.length vX) r.qX, isF false Xm (.slice jb r.xe.length vV) r.xe, isF false Xn (.slice jc r.xm.length vW) r.xm, isF false FrOut (.slice yK r.xZ.length yJ) r.xZ, isF false FrInto (.slice vz r.qF.length vw) r.qF]) ((r.qF.length - (0 : Int)).toNat) ⟨_, 0, (by exact qg (qg (qg (qg (rfl) rfl) rfl) rfl) rfl), (by omega), (by exact fun j hj => by omega), rfl, N, H⟩ ?_
    clear H N
    rintro m' ρ w23 ⟨junk, i, rfl, i0, i1, rfl, N, H⟩
    refine qi (qi (ql ?_))
    refine sps [.int .i64 i, pp br or, pp br or] ?_
    refine oF rfl ?_
    refine oL rfl (H.xJ 9 rfl 7 rfl) ?_
    refine oN rfl ?_
    refine sp (.bool (decide ((i : Int) < r.qF.length))) ?_
    refine qj (t_n ?_)
    refine qC (decide ((i : Int) < r.qF.length)) rfl (fun h24 => ?_) (fun h24 => ?_)
    ·skip
     replace h24 := of_decide_eq_true h24
     have q := (p12 i (by omega)).1
     have q1 := q.1
     have q2 := q.2
     refine qM (t_n (qi (qW (qi (ql ?_)))))
     refine sps [pp br or, pp br or] ?_
     refine oF rfl ?_
     refine oL rfl (H.xJ 9 rfl 7 rfl) ?_
     refine sp (.int .i64 i) ?_
     obtain ⟨b25, o26, rfl⟩ := H.addr 15 rfl (by omega)
     obtain ⟨ae28Bag, ce28Bag, Fe28Bag, H⟩ := H.jC 15 rfl i i (by omega) (by omega) (by omega)
     refine oI rfl rfl ?_
     refine oF rfl ?_
     refine oL rfl (H.xJ 1 rfl 0 rfl) ?_
     refine sp (.int .i64 ((r.qF[i]!).qw)) ?_
     refine qj (t_n (qi ?_))
     refine vZ rfl H fun H => ?_
     refine rtp 0 (pp bt ot) H ?_
     refine rtp 1 (pp bt ot) H ?_
     refine tF 2 rfl rfl H ?_
     refine tL 3 rfl rfl (fun _ h => h.xJ 7 rfl 0 rfl) H ?_
     refine rtp 4 (.int .i64 ((r.qF[i]!).qw)) H ?_
     refine tI 5 rfl rfl rfl H ?_
     refine tL 6 rfl rfl (fun _ h => h.QG 8 rfl ((r.qF[i]!).qw) (by omega) (by omega)) H ?_
     refine rtp 7 (.bool (!(t.qo[((r.qF[i]!).qw).toNat]!))) H ?_
     refine rtp 8 (.bool (!(t.qo[((r.qF[i]!).qw).toNat]!))) H ?_
     cases h30 : (!(t.qo[((r.qF[i]!).qw).toNat]!))
     ·skip
      replace h30 := qJ h30
      refine rgp 9 (pp bs os) 88 H ?_
      refine rgp 10 (pp bt ot) 88 H ?_
      refine rgp 11 (.int .i64 ((r.qF[i]!).qw)) 88 H ?_
      refine rgp 13 (pp br or) 88 H ?_
      refine rgp 14 (pp br or) 88 H ?_
      refine gF 15 rfl rfl H ?_
      refine gL 16 rfl rfl (fun _ h => h.xJ 11 rfl 0 rfl) H ?_
      refine qR [12] (by kernel_rfl) (by simp) (r_opG rfl (e := 88) rfl rfl ?_ qU)
      refine oc (l02Parent_ok _ s t ((r.qF[i]!).qw) _ _ _ _ _ _ _ _ _ _ _ _ _ _ _ _ _ _ _ (qI (H.get 4 rfl) 0 3) (H.get 5 rfl).1 (H.get 6 rfl).1 (qI (H.get 7 rfl) 0 3) (H.get 8 rfl).1 (H.get 9 rfl).1 (H.get 10 rfl).1 (by assumption) (by assumption) (by assumption)) ?_
      rintro _ w31 rfl x32
      replace H := H.ext x32
      refine ⟨H, ?_⟩
      refine rgp 17 (.bool ((vI s t ((r.qF[i]!).qw) : Int) != r.qw)) 88 H ?_
      refine rtp 18 (.bool ((vI s t ((r.qF[i]!).qw) : Int) != r.qw)) H ?_
      refine xq (by kernel_rfl) (t_n ?_)
      refine qC ((vI s t ((r.qF[i]!).qw) : Int) != r.qw) rfl (fun h33 => ?_) (fun h33 => ?_)
      ·skip
       replace h33 := bne_iff_ne.1 h33
       refine qi (ql ?_)
       refine sp (.bool false) ?_
       refine qj (t_n (qV (b_r (t_r (t_r (b_r (t_r ?_)))))))
       refine ret1 (.bool false) rfl rfl ⟨_, rfl, ?_, H.base⟩
       rw [qY (fun h => by obtain ⟨h1, h2, h3, h4, h5⟩ := h; first | exact ft h1 ‹_› | exact ft h2 ‹_› | exact ft h3 ‹_› | exact h4 ⟨‹_›, ‹_›⟩ | (obtain ⟨q1, q2⟩ := h5 i (by omega); first | exact ft q1 ‹_› | exact absurd q2 ‹_›))]
      replace h33 := xw h33
      refine qM (b_n (t_n (ql ?_)))
      refine sp (.int .i64 i) ?_
      refine sw (zk i 1 rfl rfl (by omega) ?_)
      refine sp (.int .i64 (i + 1)) ?_
      refine qj ?_
      refine xk (m' := (r.qF.length - ((i + 1) : Int)).toNat) (by omega) ⟨_, i + 1, (by exact qg (qg (qg (qg (rfl) rfl) rfl) rfl) rfl), ?_, ?_, rfl, N, H.pick [] [2, 3, 4, 5, 6, 7, 8, 9, 10, 11, 12, 13, 14, 15, 16, 17]⟩
      · omega
      · exact i1.succ ‹_› ‹_›
     replace h30 := qP h30
     refine zi [9, 10, 11, 12, 13, 14, 15, 16, 17] 9 (H) ?_
     refine rtp 18 (.bool true) H ?_
     refine xq (by kernel_rfl) (t_n ?_)
     refine qC true rfl (fun _ => ?_) (fun h => absurd h (by decide))
     refine qi (ql ?_)
     refine sp (.bool false) ?_
     refine qj (t_n (qV (b_r (t_r (t_r (b_r (t_r ?_)))))))
     refine ret1 (.bool false) rfl rfl ⟨_, rfl, ?_, H.base⟩
     rw [qY (fun h => by obtain ⟨h1, h2, h3, h4, h5⟩ := h; first | exact ft h1 ‹_› | exact ft h2 ‹_› | exact ft h3 ‹_› | exact h4 ⟨‹_›, ‹_›⟩ | (obtain ⟨q1, q2⟩ := h5 i (by omega); first | exact ft q1 ‹_› | exact absurd q2 ‹_›))]
    replace h24 := of_decide_eq_false h24
    refine xQ (t_x (t_x (b_x (t_n (qi (ql ?_))))))
    refine sp (.bool true) ?_
    refine qj (t_n (qV ?_))
    refine ret1 (.bool true) rfl rfl ⟨_, rfl, ?_, H.base⟩
    rw [jE ⟨by assumption, by assumption, by assumption, fun ⟨u, v⟩ => by first | omega | exact ft v ‹_›, (show i = r.qF.length by omega) ▸ i1⟩]
   replace h21 := of_decide_eq_true h21
   refine qB 54 rfl rfl ?_
   refine sp (pp br or) ?_
   refine qB 54 rfl rfl ?_
   refine sp (pp br or) ?_
   refine qB 54 rfl rfl ?_
   refine oF rfl ?_
   refine qB 54 rfl rfl ?_
   refine oL rfl (H.xJ 9 rfl 4 rfl) ?_
   refine qB 54 rfl rfl ?_
   refine sp (.slice ae10 ((t.qy[r.qw.toNat]!).length) ce10) ?_
   refine qB 54 rfl rfl ?_
   refine sw (oc (l01Within_ok _ r.xe (t.qy[r.qw.toNat]!) _ _ _ _ _ _ (H.get 12 rfl).1 (H.get 0 rfl).1 (by first | assumption | omega)) ?_)
   rintro _ w35 rfl x36
   replace H := H.ext x36
   refine qB 47 rfl rfl ?_
   refine sps [.bool (within r.xe (t.qy[r.qw.toNat]!)), .bool (within r.xe (t.qy[r.qw.toNat]!))] ?_
   refine qj (t_n ?_)
   refine qC (within r.xe (t.qy[r.qw.toNat]!)) rfl (fun h37 => ?_) (fun h37 => ?_)
   ·skip
    refine qi (ql ?_)
    refine sp (.bool false) ?_
    refine qj (t_n (qV (t_r ?_)))
    refine ret1 (.bool false) rfl rfl ⟨_, rfl, ?_, H.base⟩
    rw [qY (fun h => by obtain ⟨h1, h2, h3, h4, h5⟩ := h; first | exact ft h1 ‹_› | exact ft h2 ‹_› | exact ft h3 ‹_› | exact h4 ⟨‹_›, ‹_›⟩ | (obtain ⟨q1, q2⟩ := h5 i (by omega); first | exact ft q1 ‹_› | exact absurd q2 ‹_›))]
   refine qM (t_n (qi (qi (ql ?_))))
   refine sp (.int .i64 0) ?_
   refine qj (t_n (qW ?_))
   refine zf (fun m' ρ w38 => ∃ (junk : Env) (i : Nat), ρ = upd (upd (upd (upd junk 0 (pp bs os)) 1 (pp bt ot)) 2 (pp br or)) 8 (.int .i64 i) ∧ ((i : Int) ≤ r.qF.length) ∧ (IntoUp s t r i) ∧ m' = (r.qF.length - (i : Int)).toNat ∧ Fresh w.heap.size [] ∧ St w w38 [] [isF false Fe10 (.slice ae10 ((t.qy[r.qw.toNat]!).length) ce10) (t.qy[r.qw.toNat]!), atF b7 (o8 + (r.qw : Int).toNat * 1) [.slice ae10 ((t.qy[r.qw.toNat]!).length) ce10], atF bs os [.int .i64 s.qH, .slice qx s.qf.length qp, .slice qN s.qh.length qL], isF false xn (.slice qx s.qf.length qp) s.qf, isF false xG (.slice qN s.qh.length qL) s.qh, atF bt ot [.slice (aa b2 o3) t.qo.length xx, .slice (aa b7 o8) t.qy.length xH, .slice xg t.qm.length xf], isF false zy (.slice (aa b2 o3) t.qo.length xx) t.qo, isF false zX (.slice (aa b7 o8) t.qy.length xH) t.qy, isF false xW (.slice xg t.qm.length xf) t.qm, atF br or [.int .i64 r.qw, .int .i64 r.xN, .slice ja r.qO.length vU, .slice jd r.qX.length vX, .slice jb r.xe.length vV, .slice jc r.xm.length vW, .slice yK r.xZ.length yJ, .slice vz r.qF.length vw, .bool r.xO], isF false Xl (.slice ja r.qO.length vU) r.qO, isF false Xo (.slice jd r.qX.length vX) r.qX, isF false Xm (.slice jb r.xe.length vV) r.xe, isF false Xn (.slice jc r.xm.length vW) r.xm, isF false FrOut (.slice yK r.xZ.length yJ) r.xZ, isF false FrInto (.slice vz r.qF.length vw) r.qF]) ((r.qF.length - (0 : Int)).toNat) ⟨_, 0, (by exact qg (qg (qg (qg (rfl) rfl) rfl) rfl) rfl), (by omega), (by exact fun j hj => by omega), rfl, N, H⟩ ?_
   clear H N
   rintro m' ρ w39 ⟨junk, i, rfl, i0, i1, rfl, N, H⟩
   refine qi (qi (ql ?_))
   refine sps [.int .i64 i, pp br or, pp br or] ?_
   refine oF rfl ?_
   refine oL rfl (H.xJ 9 rfl 7 rfl) ?_
   refine oN rfl ?_
   refine sp (.bool (decide ((i : Int) < r.qF.length))) ?_
   refine qj (t_n ?_)
   refine qC (decide ((i : Int) < r.qF.length)) rfl (fun h40 => ?_) (fun h40 => ?_)
   ·skip
    replace h40 := of_decide_eq_true h40
    have q := (p12 i (by omega)).1
    have q1 := q.1
    have q2 := q.2
    refine qM (t_n (qi (qW (qi (ql ?_)))))
    refine sps [pp br or, pp br or] ?_
    refine oF rfl ?_
    refine oL rfl (H.xJ 9 rfl 7 rfl) ?_
    refine sp (.int .i64 i) ?_
    obtain ⟨b41, o42, rfl⟩ := H.addr 15 rfl (by omega)
    obtain ⟨ae44Bag, ce44Bag, Fe44Bag, H⟩ := H.jC 15 rfl i i (by omega) (by omega) (by omega)
    refine oI rfl rfl ?_
    refine oF rfl ?_
    refine oL rfl (H.xJ 1 rfl 0 rfl) ?_
    refine sp (.int .i64 ((r.qF[i]!).qw)) ?_
    refine qj (t_n (qi ?_))
    refine vZ rfl H fun H => ?_
    refine rtp 0 (pp bt ot) H ?_
    refine rtp 1 (pp bt ot) H ?_
    refine tF 2 rfl rfl H ?_
    refine tL 3 rfl rfl (fun _ h => h.xJ 7 rfl 0 rfl) H ?_
    refine rtp 4 (.int .i64 ((r.qF[i]!).qw)) H ?_
    refine tI 5 rfl rfl rfl H ?_
    refine tL 6 rfl rfl (fun _ h => h.QG 8 rfl ((r.qF[i]!).qw) (by omega) (by omega)) H ?_
    refine rtp 7 (.bool (!(t.qo[((r.qF[i]!).qw).toNat]!))) H ?_
    refine rtp 8 (.bool (!(t.qo[((r.qF[i]!).qw).toNat]!))) H ?_
    cases h46 : (!(t.qo[((r.qF[i]!).qw).toNat]!))
    ·skip
     replace h46 := qJ h46
     refine rgp 9 (pp bs os) 88 H ?_
     refine rgp 10 (pp bt ot) 88 H ?_
     refine rgp 11 (.int .i64 ((r.qF[i]!).qw)) 88 H ?_
     refine rgp 13 (pp br or) 88 H ?_
     refine rgp 14 (pp br or) 88 H ?_
     refine gF 15 rfl rfl H ?_
     refine gL 16 rfl rfl (fun _ h => h.xJ 11 rfl 0 rfl) H ?_
     refine qR [12] (by kernel_rfl) (by simp) (r_opG rfl (e := 88) rfl rfl ?_ qU)
     refine oc (l02Parent_ok _ s t ((r.qF[i]!).qw) _ _ _ _ _ _ _ _ _ _ _ _ _ _ _ _ _ _ _ (qI (H.get 4 rfl) 0 3) (H.get 5 rfl).1 (H.get 6 rfl).1 (qI (H.get 7 rfl) 0 3) (H.get 8 rfl).1 (H.get 9 rfl).1 (H.get 10 rfl).1 (by assumption) (by assumption) (by assumption)) ?_
     rintro _ w47 rfl x48
     replace H := H.ext x48
     refine ⟨H, ?_⟩
     refine rgp 17 (.bool ((vI s t ((r.qF[i]!).qw) : Int) != r.qw)) 88 H ?_
     refine rtp 18 (.bool ((vI s t ((r.qF[i]!).qw) : Int) != r.qw)) H ?_
     refine xq (by kernel_rfl) (t_n ?_)
     refine qC ((vI s t ((r.qF[i]!).qw) : Int) != r.qw) rfl (fun h49 => ?_) (fun h49 => ?_)
     ·skip
      replace h49 := bne_iff_ne.1 h49
      refine qi (ql ?_)
      refine sp (.bool false) ?_
      refine qj (t_n (qV (b_r (t_r (t_r (b_r (t_r ?_)))))))
      refine ret1 (.bool false) rfl rfl ⟨_, rfl, ?_, H.base⟩
      rw [qY (fun h => by obtain ⟨h1, h2, h3, h4, h5⟩ := h; first | exact ft h1 ‹_› | exact ft h2 ‹_› | exact ft h3 ‹_› | exact h4 ⟨‹_›, ‹_›⟩ | (obtain ⟨q1, q2⟩ := h5 i (by omega); first | exact ft q1 ‹_› | exact absurd q2 ‹_›))]
     replace h49 := xw h49
     refine qM (b_n (t_n (ql ?_)))
     refine sp (.int .i64 i) ?_
     refine sw (zk i 1 rfl rfl (by omega) ?_)
     refine sp (.int .i64 (i + 1)) ?_
     refine qj ?_
     refine xk (m' := (r.qF.length - ((i + 1) : Int)).toNat) (by omega) ⟨_, i + 1, (by exact qg (qg (qg (qg (rfl) rfl) rfl) rfl) rfl), ?_, ?_, rfl, N, H.pick [] [2, 3, 4, 5, 6, 7, 8, 9, 10, 11, 12, 13, 14, 15, 16, 17]⟩
     · omega
     · exact i1.succ ‹_› ‹_›
    replace h46 := qP h46
    refine zi [9, 10, 11, 12, 13, 14, 15, 16, 17] 9 (H) ?_
    refine rtp 18 (.bool true) H ?_
    refine xq (by kernel_rfl) (t_n ?_)
    refine qC true rfl (fun _ => ?_) (fun h => absurd h (by decide))
    refine qi (ql ?_)
    refine sp (.bool false) ?_
    refine qj (t_n (qV (b_r (t_r (t_r (b_r (t_r ?_)))))))
    refine ret1 (.bool false) rfl rfl ⟨_, rfl, ?_, H.base⟩
    rw [qY (fun h => by obtain ⟨h1, h2, h3, h4, h5⟩ := h; first | exact ft h1 ‹_› | exact ft h2 ‹_› | exact ft h3 ‹_› | exact h4 ⟨‹_›, ‹_›⟩ | (obtain ⟨q1, q2⟩ := h5 i (by omega); first | exact ft q1 ‹_› | exact absurd q2 ‹_›))]
   replace h40 := of_decide_eq_false h40
   refine xQ (t_x (t_x (b_x (t_n (qi (ql ?_))))))
   refine sp (.bool true) ?_
   refine qj (t_n (qV ?_))
   refine ret1 (.bool true) rfl rfl ⟨_, rfl, ?_, H.base⟩
   rw [jE ⟨by assumption, by assumption, by assumption, fun ⟨u, v⟩ => by first | omega | exact ft v ‹_›, (show i = r.qF.length by omega) ▸ i1⟩]
  replace h18 := qP h18
  refine xF [48, 49, 50, 51, 52, 53, 54, 55, 56, 57, 58, 59, 60, 61] ?_
  refine sp (.bool true) ?_
  refine qj (t_n ?_)
  refine qC true rfl (fun _ => ?_) (fun h => absurd h (by decide))
  refine qi (ql ?_)
  refine sp (.bool false) ?_
  refine qj (t_n (qV (t_r ?_)))
  refine ret1 (.bool false) rfl rfl ⟨_, rfl, ?_, H.base⟩
  rw [qY (fun h => by obtain ⟨h1, h2, h3, h4, h5⟩ := h; first | exact ft h1 ‹_› | exact ft h2 ‹_› | exact ft h3 ‹_› | exact h4 ⟨‹_›, ‹_›⟩ | (obtain ⟨q1, q2⟩ := h5 i (by omega); first | exact ft q1 ‹_› | exact absurd q2 ‹_›))]
 replace h14 := qP h14
 refine xF [39, 40, 41, 42, 43, 44, 45] ?_
 refine sps [.bool true, .bool true] ?_
 refine xF [48, 49, 50, 51, 52, 53, 54, 55, 56, 57, 58, 59, 60, 61] ?_
 refine sp (.bool true) ?_
 refine qj (t_n ?_)
 refine qC true rfl (fun _ => ?_) (fun h => absurd h (by decide))
 refine qi (ql ?_)
 refine sp (.bool false) ?_
 refine qj (t_n (qV (t_r ?_)))
 refine ret1 (.bool false) rfl rfl ⟨_, rfl, ?_, H.base⟩
 rw [qY (fun h => by obtain ⟨h1, h2, h3, h4, h5⟩ := h; first | exact ft h1 ‹_› | exact ft h2 ‹_› | exact ft h3 ‹_› | exact h4 ⟨‹_›, ‹_›⟩ | (obtain ⟨q1, q2⟩ := h5 i (by omega); first | exact ft q1 ‹_› | exact absurd q2 ‹_›))]

theorem l03Applicable_ok (w : World) (s : qK) (t : xu) (bs os : Nat) (qx : Option Addr) (qp : Nat) (xn : List Nat) (qN : Option Addr) (qL : Nat) (xG : List Nat) (bt ot : Nat) (xB : Option Addr) (xx : Nat) (zy : List Nat) (xK : Option Addr) (xH : Nat) (zX : List Nat) (xg : Option Addr) (xf : Nat) (xW : List Nat) (hs : zT w bs os [.int .i64 s.qH, .slice qx s.qf.length qp, .slice qN s.qh.length qL]) (xh : qE.rep w xn [.slice qx s.qf.length qp] s.qf) (xE : qE.rep w xG [.slice qN s.qh.length qL] s.qh) (ht : zT w bt ot [.slice xB t.qo.length xx, .slice xK t.qy.length xH, .slice xg t.qm.length xf]) (zu : qE.rep w zy [.slice xB t.qo.length xx] t.qo) (zV : qE.rep w zX [.slice xK t.qy.length xH] t.qy) (xU : qE.rep w xW [.slice xg t.qm.length xf] t.qm) (p0 : yw s) (p1 : zS s t) : Calls Tryz.prog 127 #[pp bs os, pp bt ot] w (Ret (fun v w' => ∃ (ra : Option Addr) (rn : Nat) (rc : Nat), v = .slice ra rn rc ∧ Fresh w.heap.size [] ∧ St w w' [.row (.slice ra rn rc) 4 1 rn ((appl s t).map (Value.bool))] []) w) := by
 refine en Tryz.func127 Tryz.ntmps127 ?_
 have H := (((((((St.start w).arg xU).arg zV).arg zu).argAt ht).arg xE).arg xh).argAt hs
 have zU := qA xh
 have jD := qA xE
 have Xr := qA zu
 have nhtBags := qA zV
 have QA := qA xU
 clear hs xh xE ht zu zV xU
 have N := Fresh.nil w.heap.size
 have p2 := p0.2.1
 have p3 := p0.1.2.1
 refine qi (ql ?_)
 refine sp (.slice none 0 0) ?_
 refine qj (t_n (qi (ql ?_)))
 refine sps [pp bs os, pp bs os] ?_
 refine oF rfl ?_
 refine oL rfl (H.xJ 0 rfl 1 rfl) ?_
 refine oN rfl ?_
 refine sw (zt H Tryz.underlying22 ti2 s.qf.length rfl rfl (by omega) (by omega) (by omega) fun b1 w2 H => ?_)
 refine sp (.slice (aa b1 0) s.qf.length s.qf.length) ?_
 refine qj (t_n (qi (ql ?_)))
 refine sw (jm H Tryz.underlying26 ti4 fun b3 w4 H => ?_)
 refine sp (.slice (aa b3 0) 0 0) ?_
 refine qj (t_n (qi (qi (ql ?_))))
 refine sp (.int .i64 0) ?_
 refine qj (t_n (qW ?_))
 replace H := H.boxRowB 0 [] 0
 try dsimp only [List.set] at H
 refine zf (fun m' ρ w5 => ∃ (junk : Env) (vH : Option Addr) (xX : Nat) (zQ : Nat) (out : List Bool) (i : Nat) (best : List Int), ρ = upd (upd (upd (upd (upd junk 0 (pp bs os)) 1 (pp bt ot)) 5 (.slice (aa b1 0) s.qf.length s.qf.length)) 6 (.slice vH xX zQ)) 7 (.int .i64 i) ∧ out = applB s t 0 i ∧ best = bests s t 0 s.qf.length i ∧ ((i : Int) ≤ s.qh.length) ∧ m' = (s.qh.length - (i : Int)).toNat ∧ Fresh w.heap.size [] ∧ St w w5 [.row (.slice vH xX zQ) 4 1 xX (out.map (Value.bool)), .row (.slice (aa b1 0) s.qf.length s.qf.length) 2 1 s.qf.length (best.map (Value.int .i64))] [atF bs os [.int .i64 s.qH, .slice qx s.qf.length qp, .slice qN s.qh.length qL], isF false xn (.slice qx s.qf.length qp) s.qf, isF false xG (.slice qN s.qh.length qL) s.qh, atF bt ot [.slice xB t.qo.length xx, .slice xK t.qy.length xH, .slice xg t.qm.length xf], isF false zy (.slice xB t.qo.length xx) t.qo, isF false zX (.slice xK t.qy.length xH) t.qy, isF false xW (.slice xg t.qm.length xf) t.qm]) ((s.qh.length - (0 : Int)).toNat) ⟨_, (aa b3 0), 0, 0, ([] : List Bool), 0, (List.replicate s.qf.length (0 : Int)), (by exact qg (qg (qg (qg (qg (rfl) rfl) rfl) rfl) rfl) rfl), (by rfl), (by exact bests_zero s t 0 _), (by omega), rfl, N, H⟩ ?_
 clear H N
 rintro m' ρ w6 ⟨junk, vH, xX, zQ, out, i, best, rfl, rfl, rfl, i0, rfl, N, H⟩
 have hn_out := H.rowNB 0 rfl
 have hn_best := H.rowNI 1 rfl
 have bl := QB s t 0 s.qf.length i
 have al := applB_len s t 0 i
 refine qi (qi (ql ?_))
 refine sps [.int .i64 i, pp bs os, pp bs os] ?_
 refine oF rfl ?_
 refine oL rfl (H.xJ 0 rfl 2 rfl) ?_
 refine oN rfl ?_
 refine sp (.bool (decide ((i : Int) < s.qh.length))) ?_
 refine qj (t_n ?_)
 refine qC (decide ((i : Int) < s.qh.length)) rfl (fun h7 => ?_) (fun h7 => ?_)
 ·skip
  replace h7 := of_decide_eq_true h7
  have q := p0.rule (i := i) (by omega)
  have qc := q.1
  have qk := q.cell
  have qr := q.2.1
  refine qM (t_n (qi (qW (qi (ql ?_)))))
  refine sps [pp bs os, pp bs os] ?_
  refine oF rfl ?_
  refine oL rfl (H.xJ 0 rfl 2 rfl) ?_
  refine sp (.int .i64 i) ?_
  obtain ⟨b8, o9, rfl⟩ := H.addr 2 rfl (by omega)
  obtain ⟨ae11Need, ce11Need, Fe11Need, ae11Have, ce11Have, Fe11Have, ae11Lack, ce11Lack, Fe11Lack, ae11Here, ce11Here, Fe11Here, ae11Out, ce11Out, Fe11Out, ae11Into, ce11Into, Fe11Into, H⟩ := H.jK 2 rfl i i (by omega) (by omega) (by omega)
  refine oI rfl rfl ?_
  refine sp (pp b8 (o9 + (i : Int).toNat * 9)) ?_
  refine qj (t_n (qi (ql ?_)))
  refine sps [pp bs os, pp bt ot, pp b8 (o9 + (i : Int).toNat * 9)] ?_
  refine sw (oc (l03Enabled_ok _ s t (s.qh[i]!) _ _ _ _ _ _ _ _ _ _ _ _ _ _ _ _ _ _ _ _ _ _ _ _ _ _ _ _ _ _ _ _ _ _ _ _ _ _ _ (qI (H.get 7 rfl) 0 3) (H.get 8 rfl).1 (H.get 9 rfl).1 (qI (H.get 10 rfl) 0 3) (H.get 11 rfl).1 (H.get 12 rfl).1 (H.get 13 rfl).1 (qI (H.get 6 rfl) 0 9) (H.get 0 rfl).1 (H.get 1 rfl).1 (H.get 2 rfl).1 (H.get 3 rfl).1 (H.get 4 rfl).1 (H.get 5 rfl).1 (by first | assumption | omega) (by first | assumption | omega) (by first | assumption | omega)) ?_)
  rintro _ w13 rfl x14
  replace H := H.ext x14
  refine sp (.bool (dec (EnOk s t (s.qh[i]!)))) ?_
  refine qj (t_n (qi (ql ?_)))
  refine sps [.slice vH xX zQ, .bool (dec (EnOk s t (s.qh[i]!)))] ?_
  refine sw (vJ H Tryz.underlying26 ti4 [.bool (dec (EnOk s t (s.qh[i]!)))] fun b15 w16 H => ?_)
  refine sw (jh H 1 rfl 0 rfl Tryz.underlying26 ti4 rfl (by decide) rfl rfl rfl (by simp [Value.oneCell', Value.cells]) (by unfold maxLen; omega) (by omega) fun a17 c18 w19 H => ?_)
  rw [snocB] at H
  try dsimp only [List.set] at H
  refine sp (.slice a17 (xX + 1) c18) ?_
  refine qj (t_n (qi (ql ?_)))
  refine sp (.bool (dec (EnOk s t (s.qh[i]!)))) ?_
  refine qj (t_n ?_)
  refine qC (dec (EnOk s t (s.qh[i]!))) rfl (fun h20 => ?_) (fun h20 => ?_)
  ·skip
   replace h20 := vC h20
   refine c_drawK rfl H [0, 1] fun H => ?_
   have S := H.pickC [0, 1] [0, 1, 2, 3, 4, 5, 6, 7, 8, 9, 10, 11, 12, 13]
   refine rtp 0 (.slice (aa b1 0) s.qf.length s.qf.length) S ?_
   refine rtp 1 (pp b8 (o9 + (i : Int).toNat * 9)) S ?_
   refine rtp 2 (pp b8 (o9 + (i : Int).toNat * 9)) S ?_
   refine tF 3 rfl rfl S ?_
   refine tL 4 rfl rfl (fun _ h => h.xJ 6 rfl 0 rfl) S ?_
   refine rtp 5 (.slice (aa b1 0) s.qf.length s.qf.length) S ?_
   refine rtp 6 (pp b8 (o9 + (i : Int).toNat * 9)) S ?_
   refine rtp 7 (pp b8 (o9 + (i : Int).toNat * 9)) S ?_
   refine tF 8 rfl rfl S ?_
   refine tL 9 rfl rfl (fun _ h => h.xJ 6 rfl 0 rfl) S ?_
   refine tI 10 rfl rfl rfl S ?_
   refine rtp 12 (pp b8 (o9 + (i : Int).toNat * 9)) S ?_
   refine rtp 13 (pp b8 (o9 + (i : Int).toNat * 9)) S ?_
   refine tF 14 rfl rfl S ?_
   refine tL 15 rfl rfl (fun _ h => h.xJ 6 rfl 1 rfl) S ?_
   refine qR [11] (by kernel_rfl) (by simp) (xA rfl ?_ qU)
   refine jU (.int .i64 ((bests s t 0 s.qf.length i)[((s.qh[i]!).qw).toNat]!)) Tryz.isAgg2 rfl (H.rowInt 2 rfl (iv := (s.qh[i]!).qw) (i := (((s.qh[i]!).qw).toNat)) (by omega) (by omega)) ?_
   refine ⟨H.pick [0, 1] [0, 1, 2, 3, 4, 5, 6, 7, 8, 9, 10, 11, 12, 13], ?_⟩
   refine qR [16] (by kernel_rfl) (by simp) (xA rfl ?_ qU)
   refine oc (l00Max_ok w19.drew ((bests s t 0 s.qf.length i)[((s.qh[i]!).qw).toNat]!) ((s.qh[i]!).xN)) ?_
   rintro _ w23 rfl x24
   replace H := H.ext x24
   refine ⟨H.pick [0, 1] [0, 1, 2, 3, 4, 5, 6, 7, 8, 9, 10, 11, 12, 13], ?_⟩
   refine tI 17 rfl rfl rfl (H.pick [0, 1] [0, 1, 2, 3, 4, 5, 6, 7, 8, 9, 10, 11, 12, 13]) ?_
   refine qR [18] (by kernel_rfl) (by simp) (xA rfl ?_ qU)
   refine o_storeInt H 2 rfl (max ((bests s t 0 s.qf.length i)[((s.qh[i]!).qw).toNat]!) ((s.qh[i]!).xN)) Tryz.sizeOf2 rfl rfl (i := (((s.qh[i]!).qw).toNat)) (by omega) (by omega) fun w25 H => ?_
   try dsimp only [List.set] at H
   refine ⟨H.pick [0, 1] [0, 1, 2, 3, 4, 5, 6, 7, 8, 9, 10, 11, 12, 13], ?_⟩
   refine xq (by kernel_rfl) (b_n (t_n ?_))
   refine ql ?_
   refine sp (.int .i64 i) ?_
   refine sw (zk i 1 rfl rfl (by omega) ?_)
   refine sp (.int .i64 (i + 1)) ?_
   refine qj ?_
   refine xk (m' := (s.qh.length - ((i + 1) : Int)).toNat) (by omega) ⟨_, a17, xX + 1, c18, ((applB s t 0 i) ++ [dec (EnOk s t (s.qh[i]!))]), i + 1, ((bests s t 0 s.qf.length i).set (((s.qh[i]!).qw).toNat) (max ((bests s t 0 s.qf.length i)[((s.qh[i]!).qw).toNat]!) ((s.qh[i]!).xN))), (by exact qg (qg (qg (qg (qg (rfl) rfl) rfl) rfl) rfl) rfl), ?_, ?_, ?_, rfl, N, H.pick [1, 2] [7, 8, 9, 10, 11, 12, 13]⟩
   · exact applB_snoc s t i
   · first | exact bests_set ‹_› (by omega) | exact bests_skip ‹_›
   · omega
  replace h20 := xI h20
  refine qM (b_n (t_n (ql ?_)))
  refine sp (.int .i64 i) ?_
  refine sw (zk i 1 rfl rfl (by omega) ?_)
  refine sp (.int .i64 (i + 1)) ?_
  refine qj ?_
  refine xk (m' := (s.qh.length - ((i + 1) : Int)).toNat) (by omega) ⟨_, a17, xX + 1, c18, ((applB s t 0 i) ++ [dec (EnOk s t (s.qh[i]!))]), i + 1, (bests s t 0 s.qf.length i), (by exact qg (qg (qg (qg (qg (rfl) rfl) rfl) rfl) rfl) rfl), ?_, ?_, ?_, rfl, N, H.pick [1, 2] [7, 8, 9, 10, 11, 12, 13]⟩
  · exact applB_snoc s t i
  · first | exact bests_set ‹_› (by omega) | exact bests_skip ‹_›
  · omega
 replace h7 := of_decide_eq_false h7
 refine xQ (t_x (t_x (b_x (t_n (qi (qi (ql ?_)))))))
 refine sp (.int .i64 0) ?_
 refine qj (t_n (qW ?_))
 refine zf (fun m' ρ w26 => ∃ (junk : Env) (i_1 : Nat) (out_1 : List Bool), ρ = upd (upd (upd (upd junk 0 (pp bs os)) 5 (.slice (aa b1 0) s.qf.length s.qf.length)) 6 (.slice vH xX zQ)) 10 (.int .i64 i_1) ∧ out_1 = applB s t i_1 s.qh.length ∧ ((i_1 : Int) ≤ s.qh.length) ∧ m' = (s.qh.length - (i_1 : Int)).toNat ∧ Fresh w.heap.size [] ∧ St w w26 [.row (.slice vH xX zQ) 4 1 xX (out_1.map (Value.bool)), .row (.slice (aa b1 0) s.qf.length s.qf.length) 2 1 s.qf.length ((bests s t 0 s.qf.length i).map (Value.int .i64))] [atF bs os [.int .i64 s.qH, .slice qx s.qf.length qp, .slice qN s.qh.length qL], isF false xn (.slice qx s.qf.length qp) s.qf, isF false xG (.slice qN s.qh.length qL) s.qh]) ((s.qh.length - (0 : Int)).toNat) ⟨_, 0, (applB s t 0 i), (by exact qg (qg (qg (qg (rfl) rfl) rfl) rfl) rfl), (by rw [show i = s.qh.length by omega]), (by omega), rfl, N, H.pick [0, 1] [0, 1, 2]⟩ ?_
 clear H N
 rintro m' ρ w27 ⟨junk, i_1, out_1, rfl, rfl, i0, rfl, N, H⟩
 have hn_out := H.rowNB 0 rfl
 have bl := QB s t 0 s.qf.length i
 have al := applB_len s t i_1 s.qh.length
 refine qi (qi (ql ?_))
 refine sps [.int .i64 i_1, pp bs os, pp bs os] ?_
 refine oF rfl ?_
 refine oL rfl (H.xJ 0 rfl 2 rfl) ?_
 refine oN rfl ?_
 refine sp (.bool (decide ((i_1 : Int) < s.qh.length))) ?_
 refine qj (t_n ?_)
 refine qC (decide ((i_1 : Int) < s.qh.length)) rfl (fun h28 => ?_) (fun h28 => ?_)
 ·skip
  replace h28 := of_decide_eq_true h28
  have q := p0.rule (i := i_1) (by omega)
  have qc := q.1
  have qk := q.cell
  have qr := q.2.1
  refine qM (t_n (qi (qW ?_)))
  refine c_drawK rfl H [1] fun H => ?_
  have S := H.pickC [1] [0, 1, 2]
  refine rtp 0 (.slice vH xX zQ) S ?_
  refine rtp 1 (.int .i64 i_1) S ?_
  refine rtp 2 (.slice vH xX zQ) S ?_
  refine rtp 3 (.int .i64 i_1) S ?_
  obtain ⟨b30, rfl⟩ := H.rowAddr 0 rfl (by omega)
  refine tI 4 rfl rfl rfl (H.pick [1] [0, 1, 2]) ?_
  refine qR [5] (by kernel_rfl) (by simp) (xA rfl ?_ qU)
  refine jU (.bool ((applB s t i_1 s.qh.length)[i_1]!)) Tryz.isAgg4 rfl (H.rowBool 0 rfl (iv := i_1) (i := i_1) (by omega) (by omega)) ?_
  refine ⟨H.pick [1] [0, 1, 2], ?_⟩
  refine rtp 6 (.bool ((applB s t i_1 s.qh.length)[i_1]!)) (H.pick [1] [0, 1, 2]) ?_
  cases h31 : ((applB s t i_1 s.qh.length)[i_1]!)
  ·skip
   refine zi [7, 8, 9, 10, 11, 12, 13, 14, 15, 16, 17, 18, 19, 20, 21, 22, 23, 24, 25, 26] 20 (H.pick [1] [0, 1, 2]) ?_
   have S := H.pickC [1] [0, 1, 2]
   refine rtp 27 (.bool false) S ?_
   refine tI 28 rfl rfl rfl S ?_
   refine qR [29] (by kernel_rfl) (by simp) (xA rfl ?_ qU)
   refine o_storeBool H 0 rfl false Tryz.sizeOf4 rfl rfl (i := i_1) (by omega) (by omega) fun w32 H => ?_
   try dsimp only [List.set] at H
   refine ⟨H.pick [1] [0, 1, 2], ?_⟩
   refine xq (by kernel_rfl) (b_n (t_n ?_))
   refine ql ?_
   refine sp (.int .i64 i_1) ?_
   refine sw (zk i_1 1 rfl rfl (by omega) ?_)
   refine sp (.int .i64 (i_1 + 1)) ?_
   refine qj ?_
   refine xk (m' := (s.qh.length - ((i_1 + 1) : Int)).toNat) (by omega) ⟨_, i_1 + 1, ((applB s t i_1 s.qh.length).set i_1 false), (by exact qg (qg (qg (qg (rfl) rfl) rfl) rfl) rfl), ?_, ?_, rfl, N, H⟩
   · first | exact applB_set (by omega) (applB_step0 (m := s.qh.length) (by omega) ‹_›) | exact applB_set (by omega) (applB_step1 (m := s.qh.length) (n := s.qf.length) (z := 0) (i := i) (by omega) ‹_› rfl (by omega) (by omega) (by omega))
   · omega
  have S := H.pickC [1] [0, 1, 2]
  refine rgp 7 (pp bs os) 75 S ?_
  refine rgp 8 (pp bs os) 75 S ?_
  refine gF 9 rfl rfl S ?_
  refine gL 10 rfl rfl (fun _ h => h.xJ 0 rfl 2 rfl) S ?_
  refine rgp 11 (.int .i64 i_1) 75 S ?_
  obtain ⟨b33, o34, rfl⟩ := H.addr 2 rfl (by omega)
  obtain ⟨ae36Need, ce36Need, Fe36Need, ae36Have, ce36Have, Fe36Have, ae36Lack, ce36Lack, Fe36Lack, ae36Here, ce36Here, Fe36Here, ae36Out, ce36Out, Fe36Out, ae36Into, ce36Into, Fe36Into, H⟩ := H.jK 2 rfl i_1 i_1 (by omega) (by omega) (by omega)
  have S := H.pickC [1] [7, 8, 9]
  refine gI 12 rfl rfl rfl S ?_
  refine gF 13 rfl rfl S ?_
  refine rgp 15 (.slice (aa b1 0) s.qf.length s.qf.length) 75 S ?_
  refine rgp 16 (pp bs os) 75 S ?_
  refine rgp 17 (pp bs os) 75 S ?_
  refine gF 18 rfl rfl S ?_
  refine gL 19 rfl rfl (fun _ h => h.xJ 0 rfl 2 rfl) S ?_
  refine rgp 20 (.int .i64 i_1) 75 S ?_
  refine gI 21 rfl rfl rfl S ?_
  refine gF 22 rfl rfl S ?_
  refine qR [14, 23] (by kernel_rfl) (by simp) (r_opG rfl (e := 75) rfl rfl ?_ (r_opG rfl (e := 75) rfl rfl ?_ qU))
  ·skip
   refine jU (.int .i64 ((s.qh[i_1]!).xN)) Tryz.isAgg2 rfl (H.xJ 6 rfl 1 rfl) ?_
   refine ⟨H.pick [1] [7, 8, 9], ?_⟩
   refine qR [23] (by kernel_rfl) (by simp) (r_opG rfl (e := 75) rfl rfl ?_ qU)
   refine jU (.int .i64 ((s.qh[i_1]!).qw)) Tryz.isAgg2 rfl (H.xJ 6 rfl 0 rfl) ?_
   refine ⟨H.pick [1] [7, 8, 9], ?_⟩
   have S := H.pickC [1] [7, 8, 9]
   refine gI 24 rfl rfl rfl S ?_
   refine gL 25 rfl rfl (fun _ h => h.rowInt 0 rfl (iv := (s.qh[i_1]!).qw) (i := (((s.qh[i_1]!).qw).toNat)) (by omega) (by omega)) S ?_
   refine rgp 26 (.bool (((s.qh[i_1]!).xN : Int) == ((bests s t 0 s.qf.length i)[((s.qh[i_1]!).qw).toNat]!))) 75 S ?_
   refine rtp 27 (.bool (((s.qh[i_1]!).xN : Int) == ((bests s t 0 s.qf.length i)[((s.qh[i_1]!).qw).toNat]!))) S ?_
   refine tI 28 rfl rfl rfl S ?_
   refine qR [29] (by kernel_rfl) (by simp) (xA rfl ?_ qU)
   refine o_storeBool H 0 rfl (((s.qh[i_1]!).xN : Int) == ((bests s t 0 s.qf.length i)[((s.qh[i_1]!).qw).toNat]!)) Tryz.sizeOf4 rfl rfl (i := i_1) (by omega) (by omega) fun w37 H => ?_
   try dsimp only [List.set] at H
   refine ⟨H.pick [1] [7, 8, 9], ?_⟩
   refine xq (by kernel_rfl) (b_n (t_n ?_))
   refine ql ?_
   refine sp (.int .i64 i_1) ?_
   refine sw (zk i_1 1 rfl rfl (by omega) ?_)
   refine sp (.int .i64 (i_1 + 1)) ?_
   refine qj ?_
   refine xk (m' := (s.qh.length - ((i_1 + 1) : Int)).toNat) (by omega) ⟨_, i_1 + 1, ((applB s t i_1 s.qh.length).set i_1 (((s.qh[i_1]!).xN : Int) == ((bests s t 0 s.qf.length i)[((s.qh[i_1]!).qw).toNat]!))), (by exact qg (qg (qg (qg (rfl) rfl) rfl) rfl) rfl), ?_, ?_, rfl, N, H.pick [0, 1] [7, 8, 9]⟩
   · first | exact applB_set (by omega) (applB_step0 (m := s.qh.length) (by omega) ‹_›) | exact applB_set (by omega) (applB_step1 (m := s.qh.length) (n := s.qf.length) (z := 0) (i := i) (by omega) ‹_› rfl (by omega) (by omega) (by omega))
   · omega
  refine jU (.int .i64 ((s.qh[i_1]!).qw)) Tryz.isAgg2 rfl (H.xJ 6 rfl 0 rfl) ?_
  refine ⟨H.pick [1] [7, 8, 9], ?_⟩
  have S := H.pickC [1] [7, 8, 9]
  refine gI 24 rfl rfl rfl S ?_
  refine gL 25 rfl rfl (fun _ h => h.rowInt 0 rfl (iv := (s.qh[i_1]!).qw) (i := (((s.qh[i_1]!).qw).toNat)) (by omega) (by omega)) S ?_
  refine qR [14] (by kernel_rfl) (by simp) (r_opG rfl (e := 75) rfl rfl ?_ qU)
  refine jU (.int .i64 ((s.qh[i_1]!).xN)) Tryz.isAgg2 rfl (H.xJ 6 rfl 1 rfl) ?_
  refine ⟨H.pick [1] [7, 8, 9], ?_⟩
  have S := H.pickC [1] [7, 8, 9]
  refine rgp 26 (.bool (((s.qh[i_1]!).xN : Int) == ((bests s t 0 s.qf.length i)[((s.qh[i_1]!).qw).toNat]!))) 75 S ?_
  refine rtp 27 (.bool (((s.qh[i_1]!).xN : Int) == ((bests s t 0 s.qf.length i)[((s.qh[i_1]!).qw).toNat]!))) S ?_
  refine tI 28 rfl rfl rfl S ?_
  refine qR [29] (by kernel_rfl) (by simp) (xA rfl ?_ qU)
  refine o_storeBool H 0 rfl (((s.qh[i_1]!).xN : Int) == ((bests s t 0 s.qf.length i)[((s.qh[i_1]!).qw).toNat]!)) Tryz.sizeOf4 rfl rfl (i := i_1) (by omega) (by omega) fun w38 H => ?_
  try dsimp only [List.set] at H
  refine ⟨H.pick [1] [7, 8, 9], ?_⟩
  refine xq (by kernel_rfl) (b_n (t_n ?_))
  refine ql ?_
  refine sp (.int .i64 i_1) ?_
  refine sw (zk i_1 1 rfl rfl (by omega) ?_)
  refine sp (.int .i64 (i_1 + 1)) ?_
  refine qj ?_
  refine xk (m' := (s.qh.length - ((i_1 + 1) : Int)).toNat) (by omega) ⟨_, i_1 + 1, ((applB s t i_1 s.qh.length).set i_1 (((s.qh[i_1]!).xN : Int) == ((bests s t 0 s.qf.length i)[((s.qh[i_1]!).qw).toNat]!))), (by exact qg (qg (qg (qg (rfl) rfl) rfl) rfl) rfl), ?_, ?_, rfl, N, H.pick [0, 1] [7, 8, 9]⟩
  · first | exact applB_set (by omega) (applB_step0 (m := s.qh.length) (by omega) ‹_›) | exact applB_set (by omega) (applB_step1 (m := s.qh.length) (n := s.qf.length) (z := 0) (i := i) (by omega) ‹_› rfl (by omega) (by omega) (by omega))
  · omega
 replace h28 := of_decide_eq_false h28
 refine xQ (t_x (t_x (b_x (t_n (qi (ql ?_))))))
 refine sps [.slice vH xX zQ, .slice vH xX zQ] ?_
 refine qj (t_n (qV ?_))
 refine ret1 (.slice vH xX zQ) rfl rfl ⟨_, rfl, ?_, H.base⟩
 obtain rfl : i_1 = s.qh.length := by omega
 exact ⟨vH, xX, zQ, rfl, N, H.pick [0] []⟩

end Go.Proofs.YtgjnaocffdhnbaaGreat
