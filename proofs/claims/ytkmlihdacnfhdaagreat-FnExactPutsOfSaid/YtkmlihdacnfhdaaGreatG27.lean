/- Walks, printed by program (wip/tools/gv.py): what each function comes to, for all arguments. -/
import Derived.Test.YtkmlihdacnfhdaaGreatG20
import Derived.Test.YtkmlihdacnfhdaaGreatPC
namespace Go.Proofs.YtkmlihdacnfhdaaGreat
open Go.Proofs.YtkmlihdacnfhdaaGreat.Tot (tot)
open Go.Proofs.YtkmlihdacnfhdaaGreat.Mark (cnt mrk mkd mkd_mark cnt_mark)
open Go.RowKit
set_option linter.unusedVariables false
set_option linter.unusedSimpArgs false
set_option maxRecDepth 100000
set_option maxHeartbeats 4000000



theorem l08Still_ok (w : World) (s : qR) (bs os : Nat) (qm : Option Addr) (ql : Nat) (qL : List Nat) (qE : Option Addr) (qA : Nat) (xk : List Nat) (hs : vg w bs os [.int .i64 s.qF, .slice qm s.qg.length ql, .slice qE s.qf.length qA]) (qY : qM.rep w qL [.slice qm s.qg.length ql] s.qg) (xA : qM.rep w xk [.slice qE s.qf.length qA] s.qf) : Calls Tryz.prog 42 #[pp bs os] w (Ret (fun v w' => v = .bool (dec (Still s))) w) := by
 refine enter (n := 21) Tryz.func42 rfl Tryz.ntmps42 (Nat.le_of_ble_eq_true rfl) ?_
 have H := (((St.start w).arg xA).arg qY).argAt hs
 have zH := qJ qY
 have vN := qJ xA
 clear hs qY xA
 have N := Fresh.nil w.heap.size
 refine qh (qp ?_)
 refine sp (.bool false) ?_
 refine qo (t_n (qh (qh (qp ?_))))
 refine sp (.int .i64 0) ?_
 refine qo (t_n (xn ?_))
 refine zC (fun m' ρ w1 => ∃ (junk : Env) (i : Nat), ρ = upd (upd junk 0 (pp bs os)) 3 (.int .i64 i) ∧ ((i : Int) ≤ s.qf.length) ∧ (StillTo s i) ∧ m' = (s.qf.length - (i : Int)).toNat ∧ Fresh w.heap.size [] ∧ St w w1 [] [atF bs os [.int .i64 s.qF, .slice qm s.qg.length ql, .slice qE s.qf.length qA], isF false qL (.slice qm s.qg.length ql) s.qg, isF false xk (.slice qE s.qf.length qA) s.qf]) ((s.qf.length - (0 : Int)).toNat) ⟨_, 0, (by exact qj (qj (rfl) rfl) rfl), (by omega), (by exact fun j hj => by omega), rfl, N, H⟩ ?_
 clear H N
 rintro m' ρ w2 ⟨junk, i, rfl, i0, i1, rfl, N, H⟩
 refine qh (qh (qp ?_))
 refine sps [.int .i64 i, pp bs os, pp bs os] ?_
 refine sw (qH bs (os) 2 Tryz.underlying36 rfl rfl Tryz.sizeOf34 rfl ?_)
 refine sw (qC (.slice qE s.qf.length qA) Tryz.isAgg34 rfl (H.xU 0 rfl 2 rfl) ?_)
 refine sw (zK Tryz.underlying34 qE s.qf.length qA rfl ?_)
 refine sp (.bool (decide ((i : Int) < s.qf.length))) ?_
 refine qo (t_n ?_)
 refine qP (decide ((i : Int) < s.qf.length)) rfl (fun h3 => ?_) (fun h3 => ?_)
 ·skip
  replace h3 := of_decide_eq_true h3
  refine xg (t_n (qh (xn (qh (qp ?_)))))
  refine sps [pp bs os, pp bs os] ?_
  refine sw (qH bs (os) 2 Tryz.underlying36 rfl rfl Tryz.sizeOf34 rfl ?_)
  refine sw (qC (.slice qE s.qf.length qA) Tryz.isAgg34 rfl (H.xU 0 rfl 2 rfl) ?_)
  refine sp (.int .i64 i) ?_
  obtain ⟨b4, o5, rfl⟩ := H.addr 2 rfl (by omega)
  obtain ⟨ae7Need, ce7Need, Fe7Need, ae7Have, ce7Have, Fe7Have, ae7Lack, ce7Lack, Fe7Lack, ae7Here, ce7Here, Fe7Here, ae7Out, ce7Out, Fe7Out, ae7Into, ce7Into, Fe7Into, H⟩ := H.jv 2 rfl i i (by omega) (by omega) (by omega)
  refine sw (xE i Tryz.underlying34 ti110 rfl rfl (by omega) (by omega) ?_)
  refine sw (qH b4 (o5 + (i : Int).toNat * 9) 8 Tryz.underlying110 rfl rfl Tryz.sizeOf4 rfl ?_)
  refine sw (qC (.bool ((s.qf[i]!).xG)) Tryz.isAgg4 rfl (H.xU 6 rfl 8 rfl) ?_)
  refine qo (t_n ?_)
  refine qP ((s.qf[i]!).xG) rfl (fun h8 => ?_) (fun h8 => ?_)
  ·skip
   refine qh (qp ?_)
   refine sp (.bool false) ?_
   refine qo (t_n (xh (b_r (t_r (t_r (b_r (t_r ?_)))))))
   refine ret1 (.bool false) rfl rfl ⟨_, rfl, ?_, H.base⟩
   rw [xf (fun h => ft (by assumption : (s.qf[i]!).xG = true) (h i (by omega)))]
  refine xg (b_n (t_n (qp ?_)))
  refine sp (.int .i64 i) ?_
  refine sw (zD i 1 rfl rfl (by omega) ?_)
  refine sp (.int .i64 (i + 1)) ?_
  refine qo ?_
  refine xy (m' := (s.qf.length - ((i + 1) : Int)).toNat) (by omega) ⟨_, i + 1, (by exact qj (qj (rfl) rfl) rfl), ?_, ?_, rfl, N, H.pick [] [7, 8, 9]⟩
  · omega
  · exact i1.succ (by assumption)
 replace h3 := of_decide_eq_false h3
 refine zx (t_x (t_x (b_x (t_n (qh (qp ?_))))))
 refine sp (.bool true) ?_
 refine qo (t_n (xh ?_))
 refine ret1 (.bool true) rfl rfl ⟨_, rfl, ?_, H.base⟩
 rw [jD (show Still s from fun j hj => i1 j (by omega))]

theorem l08Whole_ok (w : World) (s : qR) (t : xF) (bs os : Nat) (qm : Option Addr) (ql : Nat) (qL : List Nat) (qE : Option Addr) (qA : Nat) (xk : List Nat) (bt ot : Nat) (xu : Option Addr) (qZ : Nat) (xY : List Nat) (xB : Option Addr) (xx : Nat) (zG : List Nat) (qV : Option Addr) (qU : Nat) (xJ : List Nat) (hs : vg w bs os [.int .i64 s.qF, .slice qm s.qg.length ql, .slice qE s.qf.length qA]) (qY : qM.rep w qL [.slice qm s.qg.length ql] s.qg) (xA : qM.rep w xk [.slice qE s.qf.length qA] s.qf) (ht : vg w bt ot [.slice xu t.qy.length qZ, .slice xB t.qG.length xx, .slice qV t.qB.length qU]) (zo : qM.rep w xY [.slice xu t.qy.length qZ] t.qy) (zT : qM.rep w zG [.slice xB t.qG.length xx] t.qG) (xR : qM.rep w xJ [.slice qV t.qB.length qU] t.qB) (p0 : vZ s) : Calls Tryz.prog 43 #[pp bs os, pp bt ot] w (Ret (fun v w' => v = .bool (dec (zY s t ∧ Whole t))) w) := by
 refine enter (n := 27) Tryz.func43 rfl Tryz.ntmps43 (Nat.le_of_ble_eq_true rfl) ?_
 have H := (((((((St.start w).arg xR).arg zT).arg zo).argAt ht).arg xA).arg qY).argAt hs
 have zH := qJ qY
 have vN := qJ xA
 have QB := qJ zo
 have nhtBags := qJ zT
 have yS := qJ xR
 clear hs qY xA ht zo zT xR
 have N := Fresh.nil w.heap.size
 refine qh (qp ?_)
 refine sp (.bool false) ?_
 refine qo (t_n (qh (qh (qp ?_))))
 refine sps [pp bs os, pp bt ot] ?_
 refine sw (xm #[pp bs os, pp bt ot] rfl rfl Tryz.call85 (l02State_ok w s t bs os qm ql qL qE qA xk bt ot xu qZ xY xB xx zG qV qU xJ (qK (H.get 0 rfl) 0 3) (H.get 1 rfl).1 (H.get 2 rfl).1 (qK (H.get 3 rfl) 0 3) (H.get 4 rfl).1 (H.get 5 rfl).1 (H.get 6 rfl).1 (by first | assumption | exact (And.left (by assumption : Qj _)))) ?_)
 rintro _ w1 rfl x2
 replace H := H.ext x2
 refine sp (.bool (!(dec (zY s t)))) ?_
 refine qo (t_n ?_)
 refine qP (!(dec (zY s t))) rfl (fun h3 => ?_) (fun h3 => ?_)
 ·skip
  replace h3 := qQ h3
  replace h3 := xP h3
  refine qh (qp ?_)
  refine sp (.bool false) ?_
  refine qo (t_n (xh (t_r ?_)))
  refine ret1 (.bool false) rfl rfl ⟨_, rfl, ?_, H.base⟩
  rw [xf (fun h => by first | exact absurd h.1 (by assumption) | exact ft (h.2 c (by omega)) (by assumption))]
 replace h3 := qN h3
 replace h3 := vT h3
 refine xg (t_n (qh (qh (qp ?_))))
 refine sp (.int .i64 0) ?_
 refine qo (t_n (xn ?_))
 refine zC (fun m' ρ w4 => ∃ (junk : Env) (c : Nat), ρ = upd (upd junk 1 (pp bt ot)) 5 (.int .i64 c) ∧ ((c : Int) ≤ t.qy.length) ∧ (WholeTo t c) ∧ m' = (t.qy.length - (c : Int)).toNat ∧ Fresh w.heap.size [] ∧ St w w4 [] [atF bt ot [.slice xu t.qy.length qZ, .slice xB t.qG.length xx, .slice qV t.qB.length qU], isF false xY (.slice xu t.qy.length qZ) t.qy, isF false zG (.slice xB t.qG.length xx) t.qG, isF false xJ (.slice qV t.qB.length qU) t.qB]) ((t.qy.length - (0 : Int)).toNat) ⟨_, 0, (by exact qj (qj (rfl) rfl) rfl), (by omega), (by exact fun j hj => by omega), rfl, N, H.pick [] [3, 4, 5, 6]⟩ ?_
 clear H N
 rintro m' ρ w5 ⟨junk, c, rfl, i0, i1, rfl, N, H⟩
 refine qh (qh (qp ?_))
 refine sps [.int .i64 c, pp bt ot, pp bt ot] ?_
 refine sw (qH bt (ot) 0 Tryz.underlying38 rfl rfl Tryz.sizeOf26 rfl ?_)
 refine sw (qC (.slice xu t.qy.length qZ) Tryz.isAgg26 rfl (H.xU 0 rfl 0 rfl) ?_)
 refine sw (zK Tryz.underlying26 xu t.qy.length qZ rfl ?_)
 refine sp (.bool (decide ((c : Int) < t.qy.length))) ?_
 refine qo (t_n ?_)
 refine qP (decide ((c : Int) < t.qy.length)) rfl (fun h6 => ?_) (fun h6 => ?_)
 ·skip
  replace h6 := of_decide_eq_true h6
  refine xg (t_n (qh (xn (qh (qp ?_)))))
  refine sps [pp bt ot, pp bt ot] ?_
  refine sw (qH bt (ot) 0 Tryz.underlying38 rfl rfl Tryz.sizeOf26 rfl ?_)
  refine sw (qC (.slice xu t.qy.length qZ) Tryz.isAgg26 rfl (H.xU 0 rfl 0 rfl) ?_)
  refine sp (.int .i64 c) ?_
  obtain ⟨b7, o8, rfl⟩ := H.addr 1 rfl (by omega)
  refine sw (xE c Tryz.underlying26 ti4 rfl rfl (by omega) (by omega) ?_)
  refine sw (qC (.bool (t.qy[c]!)) Tryz.isAgg4 rfl (H.yU 1 rfl c (by omega) (by omega)) ?_)
  refine sp (.bool (!(t.qy[c]!))) ?_
  refine qo (t_n ?_)
  refine qP (!(t.qy[c]!)) rfl (fun h10 => ?_) (fun h10 => ?_)
  ·skip
   replace h10 := qQ h10
   refine qh (qp ?_)
   refine sp (.bool false) ?_
   refine qo (t_n (xh (b_r (t_r (t_r (b_r (t_r ?_)))))))
   refine ret1 (.bool false) rfl rfl ⟨_, rfl, ?_, H.base⟩
   rw [xf (fun h => by first | exact absurd h.1 (by assumption) | exact ft (h.2 c (by omega)) (by assumption))]
  replace h10 := qN h10
  refine xg (b_n (t_n (qp ?_)))
  refine sp (.int .i64 c) ?_
  refine sw (zD c 1 rfl rfl (by omega) ?_)
  refine sp (.int .i64 (c + 1)) ?_
  refine qo ?_
  refine xy (m' := (t.qy.length - ((c + 1) : Int)).toNat) (by omega) ⟨_, c + 1, (by exact qj (qj (rfl) rfl) rfl), ?_, ?_, rfl, N, H⟩
  · omega
  · exact i1.succ (by assumption)
 replace h6 := of_decide_eq_false h6
 refine zx (t_x (t_x (b_x (t_n (qh (qp ?_))))))
 refine sp (.bool true) ?_
 refine qo (t_n (xh ?_))
 refine ret1 (.bool true) rfl rfl ⟨_, rfl, ?_, H.base⟩
 rw [jD ⟨by assumption, fun j hj => i1 j (by omega)⟩]

theorem l08Zeros_ok (w : World) (s : qR) (bs os : Nat) (qm : Option Addr) (ql : Nat) (qL : List Nat) (qE : Option Addr) (qA : Nat) (xk : List Nat) (hs : vg w bs os [.int .i64 s.qF, .slice qm s.qg.length ql, .slice qE s.qf.length qA]) (qY : qM.rep w qL [.slice qm s.qg.length ql] s.qg) (xA : qM.rep w xk [.slice qE s.qf.length qA] s.qf) (p0 : vZ s) : Calls Tryz.prog 87 #[pp bs os] w (Ret (fun v w' => ∃ (ra : Option Addr) (rn : Nat) (rc : Nat) (rx : List Value) (rF : List Nat), v = .slice ra rn rc ∧ Fresh w.heap.size [rF] ∧ St w w' [.row (.slice ra rn rc) 22 1 rn rx] [jo true rF rx (xW s (s.qg.length + 1))]) w) := by
 refine enter (n := 24) Tryz.func87 rfl Tryz.ntmps87 (Nat.le_of_ble_eq_true rfl) ?_
 have H := (((St.start w).arg xA).arg qY).argAt hs
 have zH := qJ qY
 have vN := qJ xA
 clear hs qY xA
 have N := Fresh.nil w.heap.size
 have p1 := p0.1
 have p2 := p0.2.1
 refine qh (qp ?_)
 refine sp (.slice none 0 0) ?_
 refine qo (t_n (qh (qp ?_)))
 refine sw (Qq H Tryz.underlying27 ti22 fun b1 w2 H => ?_)
 refine sp (.slice (aa b1 0) 0 0) ?_
 refine qo (t_n (qh (qh (qp ?_))))
 refine sp (.int .i64 0) ?_
 refine qo (t_n (xn ?_))
 replace H := H.boxRow 0 rfl 1 0 rfl (by decide)
 try dsimp only [List.set] at H
 replace H := H.Qp (α := List Int)
 refine zC (fun m' ρ w3 => ∃ (junk : Env) (yl : Option Addr) (vO : Nat) (jK : Nat) (out : List (List Int)) (x_out : List Value) (F_out : List Nat) (c : Nat), ρ = upd (upd (upd junk 0 (pp bs os)) 3 (.slice yl vO jK)) 4 (.int .i64 c) ∧ out = xW s c ∧ (c ≤ s.qg.length + 1) ∧ m' = (s.qg.length + 1 - c : Nat) ∧ Fresh w.heap.size [F_out] ∧ St w w3 [.row (.slice yl vO jK) 22 1 vO x_out] [jo true F_out x_out out, atF bs os [.int .i64 s.qF, .slice qm s.qg.length ql, .slice qE s.qf.length qA], isF false qL (.slice qm s.qg.length ql) s.qg, isF false xk (.slice qE s.qf.length qA) s.qf]) ((s.qg.length + 1 - 0 : Nat)) ⟨_, (aa b1 0), 0, 0, ([] : List (List Int)), [], [], 0, (by exact qj (qj (qj (rfl) rfl) rfl) rfl), (by rfl), (by omega), rfl, N.emp, H⟩ ?_
 clear H N
 rintro m' ρ w4 ⟨junk, yl, vO, jK, out, x_out, F_out, c, rfl, rfl, i1, rfl, N, H⟩
 have hn_out := H.jB (α := List Int) 0 rfl 0 rfl (by decide)
 have zl := zeros_len s c
 refine qh (qh (qp ?_))
 refine sps [.int .i64 c, pp bs os, pp bs os] ?_
 refine sw (qH bs (os) 1 Tryz.underlying36 rfl rfl Tryz.sizeOf22 rfl ?_)
 refine sw (qC (.slice qm s.qg.length ql) Tryz.isAgg22 rfl (H.xU 1 rfl 1 rfl) ?_)
 refine sw (zK Tryz.underlying22 qm s.qg.length ql rfl ?_)
 refine sp (.bool (decide ((c : Int) ≤ s.qg.length))) ?_
 refine qo (t_n ?_)
 refine qP (decide ((c : Int) ≤ s.qg.length)) rfl (fun h5 => ?_) (fun h5 => ?_)
 ·skip
  replace h5 := of_decide_eq_true h5
  refine xg (t_n (qh (xn (qp ?_))))
  refine sps [.slice yl vO jK, pp bs os, pp bs os] ?_
  refine sw (qH bs (os) 0 Tryz.underlying36 rfl rfl Tryz.sizeOf2 rfl ?_)
  refine sw (qC (.int .i64 s.qF) Tryz.isAgg2 rfl (H.xU 1 rfl 0 rfl) ?_)
  refine sw (o_makeI H Tryz.underlying22 ti2 s.qF.toNat rfl rfl (by omega) (by omega) (by omega) fun b6 w7 H => ?_)
  refine sw (o_build1C H Tryz.underlying27 ti22 [.slice (aa b6 0) s.qF.toNat s.qF.toNat] fun b8 w9 H => ?_)
  obtain ⟨G13, N, hn14, H⟩ := H.Xm 1 rfl N (H.awayN [0])
  try dsimp only [List.set] at H
  refine sw (o_appendR H 2 rfl 0 rfl Tryz.underlying27 ti22 rfl (by decide) rfl rfl rfl (by simp [Value.oneCell', Value.cells]) (by unfold maxLen; omega) (by omega) fun a10 c11 w12 H => ?_)
  try dsimp only [List.set] at H
  replace H := H.repsSnoc 1 rfl 0 rfl
  replace N : Fresh w.heap.size [(F_out ++ G13)] := (N.pick [1, 0]).join
  refine sp (.slice a10 (vO + 1) c11) ?_
  refine qo (b_n (t_n (qp ?_)))
  refine sp (.int .i64 c) ?_
  refine sw (zD c 1 rfl rfl (by omega) ?_)
  refine sp (.int .i64 (c + 1)) ?_
  refine qo ?_
  refine xy (m' := (s.qg.length + 1 - (c + 1) : Nat)) (by omega) ⟨_, a10, vO + 1, c11, ((xW s c) ++ [(List.replicate s.qF.toNat (0 : Int))]), x_out ++ [.slice (aa b6 0) s.qF.toNat s.qF.toNat], (F_out ++ G13), c + 1, (by exact qj (qj (qj (rfl) rfl) rfl) rfl), ?_, ?_, rfl, N, H.pick [2] [0, 3, 4, 5]⟩
  · exact zeros_snoc s c
  · omega
 replace h5 := of_decide_eq_false h5
 refine zx (t_x (t_x (b_x (t_n (qh (qp ?_))))))
 refine sps [.slice yl vO jK, .slice yl vO jK] ?_
 refine qo (t_n (xh ?_))
 refine ret1 (.slice yl vO jK) rfl rfl ⟨_, rfl, ?_, H.base⟩
 obtain rfl : c = s.qg.length + 1 := by omega
 exact ⟨yl, vO, jK, x_out, F_out, rfl, N, H.pick [0] [0]⟩

theorem l08Bags_ok (w : World) (l : List (List Int)) (al : Option Addr) (cl : Nat) (Fl : List Nat) (hl : qM.rep w Fl [.slice al l.length cl] l) : Calls Tryz.prog 46 #[.slice al l.length cl] w (Ret (fun v w' => v = .bool (dec (QL l l.length))) w) := by
 refine enter (n := 16) Tryz.func46 rfl Tryz.ntmps46 (Nat.le_of_ble_eq_true rfl) ?_
 have H := (St.start w).arg hl
 have nhl := qJ hl
 clear hl
 have N := Fresh.nil w.heap.size
 refine qh (qp ?_)
 refine sp (.bool false) ?_
 refine qo (t_n (qh (qh (qp ?_))))
 refine sp (.int .i64 0) ?_
 refine qo (t_n (xn ?_))
 refine zC (fun m' ρ w1 => ∃ (junk : Env) (i : Nat), ρ = upd (upd junk 0 (.slice al l.length cl)) 3 (.int .i64 i) ∧ ((i : Int) ≤ l.length) ∧ (QL l i) ∧ m' = (l.length - (i : Int)).toNat ∧ Fresh w.heap.size [] ∧ St w w1 [] [isF false Fl (.slice al l.length cl) l]) ((l.length - (0 : Int)).toNat) ⟨_, 0, (by exact qj (qj (rfl) rfl) rfl), (by omega), (by exact fun j hj => by omega), rfl, N, H⟩ ?_
 clear H N
 rintro m' ρ w2 ⟨junk, i, rfl, i0, i1, rfl, N, H⟩
 refine qh (qh (qp ?_))
 refine sps [.int .i64 i, .slice al l.length cl] ?_
 refine sw (zK Tryz.underlying27 al l.length cl rfl ?_)
 refine sp (.bool (decide ((i : Int) < l.length))) ?_
 refine qo (t_n ?_)
 refine qP (decide ((i : Int) < l.length)) rfl (fun h3 => ?_) (fun h3 => ?_)
 ·skip
  replace h3 := of_decide_eq_true h3
  refine xg (t_n (qh (xn (qh (qp ?_)))))
  refine sps [.slice al l.length cl, .int .i64 i] ?_
  obtain ⟨b4, o5, rfl⟩ := H.addr 0 rfl (by omega)
  obtain ⟨ae7, ce7, Fe7, H⟩ := H.Xk 0 rfl i i (by omega) (by omega) (by omega)
  refine sw (xE i Tryz.underlying27 ti22 rfl rfl (by omega) (by omega) ?_)
  refine sw (qC (.slice ae7 ((l[i]!).length) ce7) Tryz.isAgg22 rfl (H.xU 1 rfl 0 rfl) ?_)
  refine sw (xm #[.slice ae7 ((l[i]!).length) ce7] rfl rfl Tryz.call89 (l01Bag_ok w2 (l[i]!) ae7 ce7 Fe7 (H.get 0 rfl).1) ?_)
  rintro _ w8 rfl x9
  replace H := H.ext x9
  refine sp (.bool (!(dec (BagAny (l[i]!))))) ?_
  refine qo (t_n ?_)
  refine qP (!(dec (BagAny (l[i]!)))) rfl (fun h10 => ?_) (fun h10 => ?_)
  ·skip
   replace h10 := qQ h10
   replace h10 := xP h10
   refine qh (qp ?_)
   refine sp (.bool false) ?_
   refine qo (t_n (xh (b_r (t_r (t_r (b_r (t_r ?_)))))))
   refine ret1 (.bool false) rfl rfl ⟨_, rfl, ?_, H.base⟩
   rw [xf (fun h => absurd (h i (by omega)) (by assumption))]
  replace h10 := qN h10
  replace h10 := vT h10
  refine xg (b_n (t_n (qp ?_)))
  refine sp (.int .i64 i) ?_
  refine sw (zD i 1 rfl rfl (by omega) ?_)
  refine sp (.int .i64 (i + 1)) ?_
  refine qo ?_
  refine xy (m' := (l.length - ((i + 1) : Int)).toNat) (by omega) ⟨_, i + 1, (by exact qj (qj (rfl) rfl) rfl), ?_, ?_, rfl, N, H.pick [] [2]⟩
  · omega
  · exact i1.succ (by assumption)
 replace h3 := of_decide_eq_false h3
 refine zx (t_x (t_x (b_x (t_n (qh (qp ?_))))))
 refine sp (.bool true) ?_
 refine qo (t_n (xh ?_))
 refine ret1 (.bool true) rfl rfl ⟨_, rfl, ?_, H.base⟩
 rw [jD (show QL l l.length from fun j hj => i1 j (by omega))]

theorem specPuts_ok (w : World) (s : qR) (t : xF) (cell : Int) (qm : Option Addr) (ql : Nat) (qL : List Nat) (qE : Option Addr) (qA : Nat) (xk : List Nat) (xu : Option Addr) (qZ : Nat) (xY : List Nat) (xB : Option Addr) (xx : Nat) (zG : List Nat) (qV : Option Addr) (qU : Nat) (xJ : List Nat) (qY : qM.rep w qL [.slice qm s.qg.length ql] s.qg) (xA : qM.rep w xk [.slice qE s.qf.length qA] s.qf) (zo : qM.rep w xY [.slice xu t.qy.length qZ] t.qy) (zT : qM.rep w zG [.slice xB t.qG.length xx] t.qG) (xR : qM.rep w xJ [.slice qV t.qB.length qU] t.qB) : Calls Tryz.prog 10 #[.agg #[.int .i64 s.qF, .slice qm s.qg.length ql, .slice qE s.qf.length qA], .agg #[.slice xu t.qy.length qZ, .slice xB t.qG.length xx, .slice qV t.qB.length qU], .int .i64 cell] w (Ret (fun v w' => ∃ (ra0 : Option Addr) (rn0 : Nat) (rc0 : Nat) (rx0 : List Value) (rF0 : List Nat), v = .tuple #[.slice ra0 rn0 rc0, .int .i64 ((xq s t cell).2)] ∧ Fresh w.heap.size [rF0] ∧ St w w' [.row (.slice ra0 rn0 rc0) 22 1 rn0 rx0] [jo true rF0 rx0 ((xq s t cell).1)]) w) := by
 refine enter (n := 39) Tryz.func10 rfl Tryz.ntmps10 (Nat.le_of_ble_eq_true rfl) ?_
 have H := (((((St.start w).arg xR).arg zT).arg zo).arg xA).arg qY
 have zH := qJ qY
 have vN := qJ xA
 have QB := qJ zo
 have nhtBags := qJ zT
 have yS := qJ xR
 clear qY xA zo zT xR
 have N := Fresh.nil w.heap.size
 refine qh (qp ?_)
 refine sw (jy H [.int .i64 s.qF, .slice qm s.qg.length ql, .slice qE s.qf.length qA] fun b1 w2 H => ?_)
 refine sw (jy H [.slice xu t.qy.length qZ, .slice xB t.qG.length xx, .slice qV t.qB.length qU] fun b3 w4 H => ?_)
 refine sps [.slice none 0 0, .int .i64 0] ?_
 refine qo (t_n (qh (qh (qp ?_))))
 refine sw (xm #[pp b1 0] rfl rfl Tryz.call41 (l02Ok_ok w4 s b1 0 qm ql qL qE qA xk (qK (H.cells 1 rfl) 0 3) (H.get 0 rfl).1 (H.get 1 rfl).1) ?_)
 rintro _ w5 rfl x6
 replace H := H.ext x6
 refine sps [.bool (!(dec (Qj s))), .bool (!(dec (Qj s)))] ?_
 cases h7 : (!(dec (Qj s)))
 ·skip
  replace h7 := qN h7
  replace h7 := vT h7
  refine qO 12 rfl rfl ?_
  refine sw (xm #[pp b1 0] rfl rfl Tryz.call42 (l08Still_ok w5 s b1 0 qm ql qL qE qA xk (qK (H.cells 1 rfl) 0 3) (H.get 0 rfl).1 (H.get 1 rfl).1) ?_)
  rintro _ w9 rfl x10
  replace H := H.ext x10
  refine qO 12 rfl rfl ?_
  refine sps [.bool (!(dec (Still s))), .bool (!(dec (Still s))), .bool (!(dec (Still s)))] ?_
  cases h11 : (!(dec (Still s)))
  ·skip
   replace h11 := qN h11
   replace h11 := vT h11
   refine qO 16 rfl rfl ?_
   have k9 := (by assumption : Qj s).1
   refine sw (xm #[pp b1 0, pp b3 0] rfl rfl Tryz.call43 (l08Whole_ok w9 s t b1 0 qm ql qL qE qA xk b3 0 xu qZ xY xB xx zG qV qU xJ (qK (H.cells 1 rfl) 0 3) (H.get 0 rfl).1 (H.get 1 rfl).1 (qK (H.cells 0 rfl) 0 3) (H.get 2 rfl).1 (H.get 3 rfl).1 (H.get 4 rfl).1 (by first | assumption | omega)) ?_)
   rintro _ w13 rfl x14
   replace H := H.ext x14
   refine qO 16 rfl rfl ?_
   refine sps [.bool (!(dec (zY s t ∧ Whole t))), .bool (!(dec (zY s t ∧ Whole t)))] ?_
   refine qo (t_n ?_)
   refine qP (!(dec (zY s t ∧ Whole t))) rfl (fun h15 => ?_) (fun h15 => ?_)
   ·skip
    replace h15 := qQ h15
    replace h15 := xP h15
    refine qh (qp ?_)
    refine sw (Qq H Tryz.underlying27 ti22 fun b16 w17 H => ?_)
    refine sps [.slice (aa b16 0) 0 0, .int .i64 1] ?_
    refine qo (t_n (xh (t_r ?_)))
    replace H := H.boxRow 0 rfl 1 0 rfl (by decide)
    try dsimp only [List.set] at H
    replace H := H.Qp (α := List Int)
    refine ret2 (.slice (aa b16 0) 0 0) (.int .i64 1) rfl rfl rfl ⟨_, rfl, ?_, H.base⟩
    rw [puts_1 (fun h => by obtain ⟨z1, z2, z3, z4⟩ := h; first | contradiction | exact absurd (And.intro z3 z4) (by assumption) | exact absurd (And.intro (And.intro z1 z3) z4) (by assumption))]
    exact ⟨(aa b16 0), 0, 0, [], [], rfl, N.emp, H.pick [0] [0]⟩
   replace h15 := qN h15
   replace h15 := vT h15
   have k1 : Qj s := by assumption
   have ks : Still s := by assumption
   have k2 := (by assumption : zY s t ∧ Whole t).1
   have kw := (by assumption : zY s t ∧ Whole t).2
   have kq := And.intro k1 (And.intro ks (And.intro k2 kw))
   have p0 := k1
   have p1 := k2
   have p2 := first_cnt k1 k2
   have p3 := k1.2.1
   have p6 := p2.1
   have p7 := k2.2.1
   have p8 := kinds_le k1
   have p9 := k1.1.2.1
   have p12 := k2.1
   have p15 := k1.1
   have p16 := k1.1.1
   have fl : (xC s t).length = s.qf.length := vw _ _ _ _
   refine xg (t_n (qh (qh (qp ?_))))
   refine sp (.int .i64 cell) ?_
   refine sw (qH b1 (0) 1 Tryz.underlying36 rfl rfl Tryz.sizeOf22 rfl ?_)
   refine sw (qC (.slice qm s.qg.length ql) Tryz.isAgg22 rfl (H.cell 1 rfl rfl) ?_)
   refine sw (zK Tryz.underlying22 qm s.qg.length ql rfl ?_)
   refine sw (o_sub s.qg.length 1 rfl rfl (by omega) ?_)
   refine sw (xm #[.int .i64 cell, .int .i64 0, .int .i64 (s.qg.length - 1)] rfl rfl Tryz.call44 (l00In_ok w13 cell 0 (s.qg.length - 1)) ?_)
   rintro _ w18 rfl x19
   replace H := H.ext x19
   refine sp (.bool (!(inR cell 0 (s.qg.length - 1)))) ?_
   refine qo (t_n ?_)
   refine qP (!(inR cell 0 (s.qg.length - 1))) rfl (fun h20 => ?_) (fun h20 => ?_)
   ·skip
    replace h20 := qQ h20
    replace h20 := Qx h20
    refine qh (qp ?_)
    refine sw (Qq H Tryz.underlying27 ti22 fun b21 w22 H => ?_)
    refine sps [.slice (aa b21 0) 0 0, .int .i64 2] ?_
    refine qo (t_n (xh (t_r ?_)))
    replace H := H.boxRow 0 rfl 1 0 rfl (by decide)
    try dsimp only [List.set] at H
    replace H := H.Qp (α := List Int)
    refine ret2 (.slice (aa b21 0) 0 0) (.int .i64 2) rfl rfl rfl ⟨_, rfl, ?_, H.base⟩
    rw [puts_2 kq (by first | assumption | exact fun h => absurd h (by assumption))]
    exact ⟨(aa b21 0), 0, 0, [], [], rfl, N.emp, H.pick [0] [0]⟩
   replace h20 := qN h20
   replace h20 := yZ.1 h20
   have kc : CellIn s cell := by assumption
   have kc1 := kc
   refine xg (t_n (qh (qp ?_)))
   refine sp (.int .i64 cell) ?_
   refine sw (yw #[pp b1 0, pp b3 0, .int .i64 cell] rfl rfl Tryz.call45 ?_)
   refine enter (n := 146) Tryz.func45 rfl Tryz.ntmps45 (Nat.le_of_ble_eq_true rfl) ?_
   refine qh (qp ?_)
   refine sps [.slice none 0 0, .slice none 0 0] ?_
   refine qo (t_n (qh (qp ?_)))
   refine sps [pp b1 0, pp b3 0] ?_
   have sz26 := H.base.size
   refine sw (xm #[pp b1 0, pp b3 0] rfl rfl Tryz.call86 (l03First_ok w18 s t b1 0 qm ql qL qE qA xk b3 0 xu qZ xY xB xx zG qV qU xJ (qK (H.cells 1 rfl) 0 3) (H.get 0 rfl).1 (H.get 1 rfl).1 (qK (H.cells 0 rfl) 0 3) (H.get 2 rfl).1 (H.get 3 rfl).1 (H.get 4 rfl).1 (by first | assumption | omega) (by first | assumption | omega)) ?_)
   rintro _ w24 ⟨ra23, rn23, rc23, rfl, M, K⟩ _
   replace H := H.merge K M
   dsimp only [List.cons_append, List.nil_append] at H
   obtain rfl := H.rowNI 0 rfl
   refine sp (.slice ra23 ((xC s t).length) rc23) ?_
   refine qo (t_n (qh (qp ?_)))
   refine sps [pp b1 0, pp b1 0] ?_
   refine sw (qH b1 (0) 0 Tryz.underlying36 rfl rfl Tryz.sizeOf2 rfl ?_)
   refine sw (qC (.int .i64 s.qF) Tryz.isAgg2 rfl (H.cell 2 rfl rfl) ?_)
   refine sw (o_makeI H Tryz.underlying22 ti2 s.qF.toNat rfl rfl (by omega) (by omega) (by omega) fun b29 w30 H => ?_)
   refine sp (.slice (aa b29 0) s.qF.toNat s.qF.toNat) ?_
   refine qo (t_n (qh (qp ?_)))
   refine sp (pp b1 0) ?_
   have sz34 := H.base.size
   refine sw (xm #[pp b1 0] rfl rfl Tryz.call87 (l08Zeros_ok w30 s b1 0 qm ql qL qE qA xk (qK (H.cells 3 rfl) 0 3) (H.get 0 rfl).1 (H.get 1 rfl).1 (by first | assumption | omega)) ?_)
   rintro _ w32 ⟨ra31, rn31, rc31, rx31, rF31, rfl, M, K⟩ _
   replace N := N.merge sz34 (by simp) M
   replace H := H.merge K M
   dsimp only [List.cons_append, List.nil_append] at H
   obtain rfl := H.jB (α := List Int) 0 rfl 0 rfl (by decide)
   refine sp (.slice ra31 ((xW s (s.qg.length + 1)).length) rc31) ?_
   refine qo (t_n (qh (qh (qp ?_))))
   refine sp (.int .i64 0) ?_
   refine qo (t_n (xn ?_))
   refine zC (fun m' ρ w37 => ∃ (junk : Env) (a_took : Option Addr) (n_took : Nat) (c_took : Nat) (took : List Int) (i : Nat) (out : List (List Int)) (x_out : List Value) (F_out : List Nat), ρ = upd (upd (upd (upd (upd (upd junk 0 (pp b1 0)) 2 (.int .i64 cell)) 8 (.slice ra23 ((xC s t).length) rc23)) 9 (.slice a_took n_took c_took)) 10 (.slice ra31 ((xW s (s.qg.length + 1)).length) rc31)) 11 (.int .i64 i) ∧ ((i : Int) ≤ ((xC s t).length)) ∧ (Ent (s.qg.length + 1) (yQ s) (fun p q => putsOf s t (xC s t) cell i p q) (1000 + 6000000 * i) out) ∧ (out.length = s.qg.length + 1) ∧ (TookOk s took i) ∧ m' = (((xC s t).length) - (i : Int)).toNat ∧ Fresh w.heap.size [F_out] ∧ St w w37 [.row (.slice ra31 ((xW s (s.qg.length + 1)).length) rc31) 22 1 ((xW s (s.qg.length + 1)).length) x_out, .row (.slice a_took n_took c_took) 2 1 n_took (took.map (Value.int .i64)), .row (.slice ra23 ((xC s t).length) rc23) 2 1 ((xC s t).length) ((xC s t).map (Value.int .i64)), .box b3 [.slice xu t.qy.length qZ, .slice xB t.qG.length xx, .slice qV t.qB.length qU] 38, .box b1 [.int .i64 s.qF, .slice qm s.qg.length ql, .slice qE s.qf.length qA] 36] [jo true F_out x_out out, isF false qL (.slice qm s.qg.length ql) s.qg, isF false xk (.slice qE s.qf.length qA) s.qf, isF false xY (.slice xu t.qy.length qZ) t.qy, isF false zG (.slice xB t.qG.length xx) t.qG, isF false xJ (.slice qV t.qB.length qU) t.qB]) ((((xC s t).length) - (0 : Int)).toNat) ⟨_, (aa b29 0), s.qF.toNat, s.qF.toNat, (List.replicate s.qF.toNat (0 : Int)), 0, xW s (s.qg.length + 1), rx31, rF31, (by exact qj (qj (qj (qj (qj (qj (rfl) rfl) rfl) rfl) rfl) rfl) rfl), (by omega), (by exact (zeros_ent (B := 0) (by omega)).to (fun _ _ => rfl) (by omega)), (by rw [zeros_len]), (by exact TookOk.zero s), rfl, N, H⟩ ?_
   clear H N
   rintro m' ρ w38 ⟨junk, a_took, n_took, c_took, took, i, out, x_out, F_out, rfl, i0, E_out, z_out, tk, rfl, N, H⟩
   have hn_took := H.rowNI 1 rfl
   have hn_out := H.jB (α := List Int) 0 rfl 0 rfl (by decide)
   refine qh (qh (qp ?_))
   refine sps [.int .i64 i, .slice ra23 ((xC s t).length) rc23] ?_
   refine sw (zK Tryz.underlying22 ra23 ((xC s t).length) rc23 rfl ?_)
   refine sp (.bool (decide ((i : Int) < ((xC s t).length)))) ?_
   refine qo (t_n ?_)
   refine qP (decide ((i : Int) < ((xC s t).length))) rfl (fun h39 => ?_) (fun h39 => ?_)
   ·skip
    replace h39 := of_decide_eq_true h39
    have q := p0.rule (i := i) (by omega)
    have qc := q.1
    have qk := q.cell
    have qr := q.2.1
    have bn1 := q.2.2.2.2.1
    have bn2 := q.2.2.2.2.2.2.2.1
    have bn3 := q.2.2.2.2.2.2.2.2.1
    have ln1 := bn1.len
    have ln2 := bn2.len
    have ln3 := bn3.len
    have p10 := p2.bd (i := i) (by omega)
    have qn := q.2.2.2.1
    refine xg (t_n (qh (xn (qh (qp ?_)))))
    refine sps [pp b1 0, pp b1 0] ?_
    refine sw (qH b1 (0) 2 Tryz.underlying36 rfl rfl Tryz.sizeOf34 rfl ?_)
    refine sw (qC (.slice qE s.qf.length qA) Tryz.isAgg34 rfl (H.cell 4 rfl rfl) ?_)
    refine sp (.int .i64 i) ?_
    obtain ⟨b40, o41, rfl⟩ := H.addr 2 rfl (by omega)
    obtain ⟨QD, QC, Fe43Need, ae43Have, ce43Have, Fe43Have, ae43Lack, ce43Lack, Fe43Lack, ae43Here, ce43Here, Fe43Here, ae43Out, ce43Out, Fe43Out, ae43Into, Qs, Fe43Into, H⟩ := H.jv 2 rfl i i (by omega) (by omega) (by omega)
    refine sw (xE i Tryz.underlying34 ti110 rfl rfl (by omega) (by omega) ?_)
    refine sp (pp b40 (o41 + (i : Int).toNat * 9)) ?_
    refine qo (t_n (qh (qh (qp ?_))))
    refine sps [pp b40 (o41 + (i : Int).toNat * 9), pp b40 (o41 + (i : Int).toNat * 9)] ?_
    refine sw (qH b40 (o41 + (i : Int).toNat * 9) 0 Tryz.underlying110 rfl rfl Tryz.sizeOf2 rfl ?_)
    refine sw (qC (.int .i64 ((s.qf[i]!).qw)) Tryz.isAgg2 rfl (H.xU 6 rfl 0 rfl) ?_)
    refine sps [.int .i64 cell, .bool (((s.qf[i]!).qw : Int) != cell), .bool (((s.qf[i]!).qw : Int) != cell)] ?_
    cases h44 : (((s.qf[i]!).qw : Int) != cell)
    ·skip
     replace h44 := xI h44
     refine qO 44 rfl rfl ?_
     refine sp (.slice ra23 ((xC s t).length) rc23) ?_
     refine qO 44 rfl rfl ?_
     refine sp (.int .i64 i) ?_
     refine qO 44 rfl rfl ?_
     obtain ⟨b45, rfl⟩ := H.rowAddr 2 rfl (by omega)
     refine sw (xE i Tryz.underlying22 ti2 rfl rfl (by omega) (by omega) ?_)
     refine qO 44 rfl rfl ?_
     refine sw (qC (.int .i64 ((xC s t)[i]!)) Tryz.isAgg2 rfl (H.rowInt 2 rfl (iv := i) (i := i) (by omega) (by omega)) ?_)
     refine qO 44 rfl rfl ?_
     refine sps [.bool (((xC s t)[i]! : Int) == 0), .bool (((xC s t)[i]! : Int) == 0)] ?_
     refine qo (t_n ?_)
     refine qP (((xC s t)[i]! : Int) == 0) rfl (fun h46 => ?_) (fun h46 => ?_)
     ·skip
      replace h46 := eq_of_beq h46
      refine zx (t_x (b_x (t_n (qp ?_))))
      refine sp (.int .i64 i) ?_
      refine sw (zD i 1 rfl rfl (by omega) ?_)
      refine sp (.int .i64 (i + 1)) ?_
      refine qo ?_
      refine xy (m' := (((xC s t).length) - ((i + 1) : Int)).toNat) (by omega) ⟨_, a_took, n_took, c_took, took, i + 1, out, x_out, F_out, (by exact qj (qj (qj (qj (qj (qj (rfl) rfl) rfl) rfl) rfl) rfl) rfl), ?_, ?_, ?_, ?_, rfl, N, H.pick [0, 1, 2, 3, 4] [7, 8, 9, 10, 11, 12]⟩
      · omega
      · first | exact E_out.to (fun p q => by first | rw [puts_no (i := i) (by assumption)] | rw [puts_zero (i := i) (by assumption)]) (by omega) | exact E_out_1.to (fun p q => by rw [show k = ((s.qf[i]!).qx).length by omega, puts_yes (i := i) (by assumption)]; simp only [putF]; omega) (by omega)
      · omega
      · first | exact tk.plus bn1 (by omega) | exact tk.keep
     replace h46 := ne_of_beq_false h46
     refine xg (t_n (qh ?_))
     refine jf rfl H fun H => ?_
     refine rtp 0 (.slice a_took n_took c_took) H ?_
     refine rtp 1 (pp b40 (o41 + (i : Int).toNat * 9)) H ?_
     refine rtp 2 (pp b40 (o41 + (i : Int).toNat * 9)) H ?_
     refine rt 3 (pp b40 (o41 + (i : Int).toNat * 9 + 2)) (xH b40 (o41 + (i : Int).toNat * 9) 2 Tryz.underlying110 rfl rfl Tryz.sizeOf22 rfl) H ?_
     refine rt 4 (.slice QD (((s.qf[i]!).qI).length) QC) (xw Tryz.isAgg22 rfl (fun _ h => h.xU 6 rfl 2 rfl)) H ?_
     refine rtp 5 (.slice (aa b45 0) ((xC s t).length) rc23) H ?_
     refine rtp 6 (.int .i64 i) H ?_
     refine rt 7 (pp b45 (0 + (i : Int).toNat * 1)) (xQ b45 (0) ((xC s t).length) rc23 i Tryz.underlying22 ti2 rfl rfl (by omega) (by omega)) H ?_
     refine rt 8 (.int .i64 ((xC s t)[i]!)) (xw Tryz.isAgg2 rfl (fun _ h => h.rowInt 2 rfl (iv := i) (i := i) (by omega) (by omega))) H ?_
     refine zt [9] (by kernel_rfl) (by simp) (yF rfl ?_ zu)
     obtain ⟨G48, hn49, h50⟩ := H.rowIsI 1 rfl
     obtain ⟨u1, u2⟩ := tk.mid (by omega) p8
     have u4 := bn1.jw (t := (xC s t)[i]!) (by omega)
     have sz51 := H.base.size
     have lt52 := H.ltN (L := [F_out]) [7]
     refine xm #[.slice a_took n_took c_took, .slice QD (((s.qf[i]!).qI).length) QC, .int .i64 ((xC s t)[i]!)] rfl rfl Tryz.call88 (args_eq (by rw [← hn49]) (l01Plus_ok w38.drew took ((s.qf[i]!).qI) ((xC s t)[i]!) a_took c_took G48 QD QC Fe43Need (hn49 ▸ h50) (H.get 0 rfl).1 (by first | assumption | omega) (by first | assumption | omega) (by first | assumption | omega))) ?_
     rintro v56 w54 r56 x55
     replace H := H.jh x55 r56
     obtain ⟨a57, c58, rfl, hc59, hm60⟩ := H.Xe 0 rfl
     refine ⟨H.pick [1, 2, 3, 4, 5] [0, 1, 2, 3, 4, 5, 6, 7, 8, 9, 10, 11, 12], ?_⟩
     refine rtp 10 (.slice a57 ((yc took ((s.qf[i]!).qI) ((xC s t)[i]!)).length) c58) (H.pick [1, 2, 3, 4, 5] [0, 1, 2, 3, 4, 5, 6, 7, 8, 9, 10, 11, 12]) ?_
     refine xZ (by kernel_rfl) (t_n ?_)
     refine qh ?_
     refine QI rfl H [0, 2, 3, 4, 5] fun H => ?_
     have S := H.QN [0, 2, 3, 4, 5] [0, 1, 2, 3, 4, 5, 6, 7, 8, 9, 10, 11, 12]
     refine rtp 0 (.slice ra31 ((xW s (s.qg.length + 1)).length) rc31) S ?_
     refine rtp 1 (.int .i64 cell) S ?_
     refine rtp 2 (.slice ra31 ((xW s (s.qg.length + 1)).length) rc31) S ?_
     refine rtp 3 (.int .i64 cell) S ?_
     obtain ⟨b62, rfl⟩ := H.rowAddr 1 rfl (by omega)
     have S := H.QN [0, 2, 3, 4, 5] [0, 1, 2, 3, 4, 5, 6, 7, 8, 9, 10, 11, 12]
     refine rt 4 (pp b62 (0 + (cell : Int).toNat * 1)) (xQ b62 (0) ((xW s (s.qg.length + 1)).length) rc31 cell Tryz.underlying27 ti22 rfl rfl (by omega) (by omega)) S ?_
     refine rtp 6 (pp b40 (o41 + (i : Int).toNat * 9)) S ?_
     refine rtp 7 (pp b40 (o41 + (i : Int).toNat * 9)) S ?_
     refine rt 8 (pp b40 (o41 + (i : Int).toNat * 9 + 5)) (xH b40 (o41 + (i : Int).toNat * 9) 5 Tryz.underlying110 rfl rfl Tryz.sizeOf22 rfl) S ?_
     refine rt 9 (.slice ae43Here (((s.qf[i]!).xe).length) ce43Here) (xw Tryz.isAgg22 rfl (fun _ h => h.xU 6 rfl 5 rfl)) S ?_
     refine rtp 10 (.slice (aa b45 0) ((xC s t).length) rc23) S ?_
     refine rtp 11 (.int .i64 i) S ?_
     refine rt 12 (pp b45 (0 + (i : Int).toNat * 1)) (xQ b45 (0) ((xC s t).length) rc23 i Tryz.underlying22 ti2 rfl rfl (by omega) (by omega)) S ?_
     refine rt 13 (.int .i64 ((xC s t)[i]!)) (xw Tryz.isAgg2 rfl (fun _ h => h.rowInt 2 rfl (iv := i) (i := i) (by omega) (by omega))) S ?_
     refine zt [5] (by kernel_rfl) (by simp) (yF rfl ?_ zu)
     obtain ⟨a63, c64, G65, s66, h67, H⟩ := H.Qb 1 rfl 7 rfl (iv := cell) cell.toNat (by omega) (by omega)
     refine qC (.slice a63 ((out[cell.toNat]!).length) c64) Tryz.isAgg22 rfl (h67) ?_
     refine ⟨H.pick [0, 2, 3, 4, 5] [1, 2, 3, 4, 5, 6, 7, 8, 9, 10, 11, 12, 13], ?_⟩
     refine zt [14] (by kernel_rfl) (by simp) (yF rfl ?_ zu)
     obtain ⟨u1, u2⟩ := E_out.sh.row (c := cell.toNat) (by omega) p8 (by omega)
     have u4 := (by first | exact bn2.jw (by omega) | exact bn3.jw (by omega) | exact bn4.jw (by omega) : SmallT ((s.qf[i]!).xe) ((xC s t)[i]!))
     have sz68 := H.base.size
     have lt69 := H.ltN (L := [F_out]) [8]
     refine xm #[.slice a63 ((out[cell.toNat]!).length) c64, .slice ae43Here (((s.qf[i]!).xe).length) ce43Here, .int .i64 ((xC s t)[i]!)] rfl rfl Tryz.call88 (l01Plus_ok w54.drew (out[cell.toNat]!) ((s.qf[i]!).xe) ((xC s t)[i]!) a63 c64 G65 ae43Here ce43Here Fe43Here (H.get 0 rfl).1 (H.get 4 rfl).1 (by first | assumption | omega) (by first | assumption | omega) (by first | assumption | omega)) ?_
     rintro v73 w71 r73 x72
     replace H := H.jh x72 r73
     obtain ⟨a74, c75, rfl, hc76, hm77⟩ := H.Xe 0 rfl
     refine ⟨H.pick [1, 3, 4, 5, 6] [1, 2, 3, 4, 5, 6, 7, 8, 9, 10, 11, 12, 13], ?_⟩
     refine rt 15 (pp b62 (0 + (cell : Int).toNat * 1)) (xQ b62 (0) ((xW s (s.qg.length + 1)).length) rc31 cell Tryz.underlying27 ti22 rfl rfl (by omega) (by omega)) (H.pick [1, 3, 4, 5, 6] [1, 2, 3, 4, 5, 6, 7, 8, 9, 10, 11, 12, 13]) ?_
     refine zt [16] (by kernel_rfl) (by simp) (yF rfl ?_ zu)
     obtain ⟨G79, N, hn80, H⟩ := H.Xm 0 rfl N (H.awayN [8])
     try dsimp only [List.set] at H
     refine yg true H 2 rfl 9 rfl (.slice a74 ((yc (out[cell.toNat]!) ((s.qf[i]!).xe) ((xC s t)[i]!)).length) c75) 0 rfl rfl Tryz.sizeOf22 rfl rfl (i := cell.toNat) (by omega) (by omega) (by simp) fun w78 xs81 F82 hs83 H => ?_
     replace N : Fresh w.heap.size [F82] := (N.pick [1, 0]).repl hs83
     try dsimp only [List.set] at H
     refine ⟨H.pick [1, 3, 4, 5, 6] [3, 4, 5, 6, 7, 8, 9, 10, 11, 12, 13, 14, 15], ?_⟩
     refine xZ (by kernel_rfl) (t_n ?_)
     refine qh (qp ?_)
     refine sps [pp b1 0, pp b1 0] ?_
     refine sw (qH b1 (0) 1 Tryz.underlying36 rfl rfl Tryz.sizeOf22 rfl ?_)
     refine sw (qC (.slice qm s.qg.length ql) Tryz.isAgg22 rfl (H.cell 6 rfl rfl) ?_)
     refine sw (zK Tryz.underlying22 qm s.qg.length ql rfl ?_)
     refine sp (.int .i64 s.qg.length) ?_
     refine qo (t_n (qh (qh (qp ?_))))
     refine sps [.int .i64 cell, .bool (decide ((cell : Int) > 0))] ?_
     refine qo (t_n ?_)
     refine qP (decide ((cell : Int) > 0)) rfl (fun h84 => ?_) (fun h84 => ?_)
     ·skip
      replace h84 := of_decide_eq_true h84
      obtain ⟨bg85, e_bg85⟩ : ∃ z, z = (out.set cell.toNat (yc (out[cell.toNat]!) ((s.qf[i]!).xe) ((xC s t)[i]!))) := ⟨_, rfl⟩
      rw [← e_bg85] at H
      have E_bg85 := Ent.add (D := 1000000) E_out e_bg85 (by omega) (by first | exact bn1.mul (by omega) | exact bn2.mul (by omega) | exact bn3.mul (by omega) | exact bn4.mul (by omega)) (by omega)
      have z_bg85 := E_bg85.sh.1
      have E_cur := E_bg85
      have pu := p15.up (c := cell) (by omega) (by omega)
      have po : outPl s t (s.qf[i]!) = (s.qg[cell.toNat]!).toNat := by rw [outPl_up (by omega), (by assumption : (s.qf[i]!).qw = cell), whole_parent kw p15 p12 (by omega) (by omega)]
      refine qp ?_
      refine sps [pp b1 0, pp b1 0] ?_
      refine sw (qH b1 (0) 1 Tryz.underlying36 rfl rfl Tryz.sizeOf22 rfl ?_)
      refine sw (qC (.slice qm s.qg.length ql) Tryz.isAgg22 rfl (H.cell 6 rfl rfl) ?_)
      refine sp (.int .i64 cell) ?_
      obtain ⟨b86, o87, rfl⟩ := H.addr 11 rfl (by omega)
      refine sw (xE cell Tryz.underlying22 ti2 rfl rfl (by omega) (by omega) ?_)
      refine sw (qC (.int .i64 (s.qg[cell.toNat]!)) Tryz.isAgg2 rfl (H.vH 11 rfl cell (by omega) (by omega)) ?_)
      refine sp (.int .i64 (s.qg[cell.toNat]!)) ?_
      refine qo (t_n (qh ?_))
      refine QI rfl H [0, 1, 3, 4, 5, 6] fun H => ?_
      have S := H.QN [0, 1, 3, 4, 5, 6] [0, 1, 2, 3, 4, 5, 6, 7, 8, 9, 10, 11, 12, 13, 14, 15]
      refine rtp 0 (.slice (aa b62 0) ((xW s (s.qg.length + 1)).length) rc31) S ?_
      refine rtp 1 (.int .i64 (s.qg[cell.toNat]!)) S ?_
      refine rtp 2 (.slice (aa b62 0) ((xW s (s.qg.length + 1)).length) rc31) S ?_
      refine rtp 3 (.int .i64 (s.qg[cell.toNat]!)) S ?_
      refine rt 4 (pp b62 (0 + (s.qg[cell.toNat]! : Int).toNat * 1)) (xQ b62 (0) ((xW s (s.qg.length + 1)).length) rc31 (s.qg[cell.toNat]!) Tryz.underlying27 ti22 rfl rfl (by omega) (by omega)) S ?_
      refine rtp 6 (pp b40 (o41 + (i : Int).toNat * 9)) S ?_
      refine rtp 7 (pp b40 (o41 + (i : Int).toNat * 9)) S ?_
      refine rt 8 (pp b40 (o41 + (i : Int).toNat * 9 + 6)) (xH b40 (o41 + (i : Int).toNat * 9) 6 Tryz.underlying110 rfl rfl Tryz.sizeOf22 rfl) S ?_
      refine rt 9 (.slice ae43Out (((s.qf[i]!).xO).length) ce43Out) (xw Tryz.isAgg22 rfl (fun _ h => h.xU 9 rfl 6 rfl)) S ?_
      refine rtp 10 (.slice (aa b45 0) ((xC s t).length) rc23) S ?_
      refine rtp 11 (.int .i64 i) S ?_
      refine rt 12 (pp b45 (0 + (i : Int).toNat * 1)) (xQ b45 (0) ((xC s t).length) rc23 i Tryz.underlying22 ti2 rfl rfl (by omega) (by omega)) S ?_
      refine rt 13 (.int .i64 ((xC s t)[i]!)) (xw Tryz.isAgg2 rfl (fun _ h => h.rowInt 3 rfl (iv := i) (i := i) (by omega) (by omega))) S ?_
      refine zt [5] (by kernel_rfl) (by simp) (yF rfl ?_ zu)
      obtain ⟨a90, c91, G92, s93, h94, H⟩ := H.Qb 2 rfl 0 rfl (iv := s.qg[cell.toNat]!) ((s.qg[cell.toNat]!).toNat) (by omega) (by omega)
      refine qC (.slice a90 ((bg85[(s.qg[cell.toNat]!).toNat]!).length) c91) Tryz.isAgg22 rfl (h94) ?_
      refine ⟨H.pick [0, 1, 3, 4, 5, 6] [1, 2, 3, 4, 5, 6, 7, 8, 9, 10, 11, 12, 13, 14, 15, 16], ?_⟩
      refine zt [14] (by kernel_rfl) (by simp) (yF rfl ?_ zu)
      obtain ⟨u1, u2⟩ := E_bg85.sh.row (c := (s.qg[cell.toNat]!).toNat) (by omega) p8 (by omega)
      have u4 := (by first | exact bn2.jw (by omega) | exact bn3.jw (by omega) | exact bn4.jw (by omega) : SmallT ((s.qf[i]!).xO) ((xC s t)[i]!))
      have sz95 := H.base.size
      have lt96 := H.ltN (L := [F82]) [1]
      refine xm #[.slice a90 ((bg85[(s.qg[cell.toNat]!).toNat]!).length) c91, .slice ae43Out (((s.qf[i]!).xO).length) ce43Out, .int .i64 ((xC s t)[i]!)] rfl rfl Tryz.call88 (l01Plus_ok w78.drew (bg85[(s.qg[cell.toNat]!).toNat]!) ((s.qf[i]!).xO) ((xC s t)[i]!) a90 c91 G92 ae43Out ce43Out Fe43Out (H.get 0 rfl).1 (H.get 8 rfl).1 (by first | assumption | omega) (by first | assumption | omega) (by first | assumption | omega)) ?_
      rintro v100 w98 r100 x99
      replace H := H.jh x99 r100
      obtain ⟨a101, c102, rfl, hc103, hm104⟩ := H.Xe 0 rfl
      refine ⟨H.pick [1, 2, 4, 5, 6, 7] [1, 2, 3, 4, 5, 6, 7, 8, 9, 10, 11, 12, 13, 14, 15, 16], ?_⟩
      refine rt 15 (pp b62 (0 + (s.qg[cell.toNat]! : Int).toNat * 1)) (xQ b62 (0) ((xW s (s.qg.length + 1)).length) rc31 (s.qg[cell.toNat]!) Tryz.underlying27 ti22 rfl rfl (by omega) (by omega)) (H.pick [1, 2, 4, 5, 6, 7] [1, 2, 3, 4, 5, 6, 7, 8, 9, 10, 11, 12, 13, 14, 15, 16]) ?_
      refine zt [16] (by kernel_rfl) (by simp) (yF rfl ?_ zu)
      obtain ⟨G106, N, hn107, H⟩ := H.Xm 0 rfl N (H.awayN [1])
      try dsimp only [List.set] at H
      refine yg true H 3 rfl 2 rfl (.slice a101 ((yc (bg85[(s.qg[cell.toNat]!).toNat]!) ((s.qf[i]!).xO) ((xC s t)[i]!)).length) c102) 0 rfl rfl Tryz.sizeOf22 rfl rfl (i := ((s.qg[cell.toNat]!).toNat)) (by omega) (by omega) (by simp) fun w105 xs108 F109 hs110 H => ?_
      replace N : Fresh w.heap.size [F109] := (N.pick [1, 0]).repl hs110
      try dsimp only [List.set] at H
      refine ⟨H.pick [1, 2, 4, 5, 6, 7] [3, 4, 5, 6, 7, 8, 9, 10, 11, 12, 13, 14, 15, 16, 17, 18], ?_⟩
      refine xZ (by kernel_rfl) (t_n ?_)
      refine qh (qp ?_)
      refine sp (.int .i64 0) ?_
      refine qo (t_n (xn ?_))
      obtain ⟨bg111, e_bg111⟩ : ∃ z, z = (bg85.set ((s.qg[cell.toNat]!).toNat) (yc (bg85[(s.qg[cell.toNat]!).toNat]!) ((s.qf[i]!).xO) ((xC s t)[i]!))) := ⟨_, rfl⟩
      rw [← e_bg111] at H
      have E_bg111 := Ent.add (D := 1000000) E_bg85 e_bg111 (by omega) (by first | exact bn1.mul (by omega) | exact bn2.mul (by omega) | exact bn3.mul (by omega) | exact bn4.mul (by omega)) (by omega)
      have z_bg111 := E_bg111.sh.1
      have E_cur := E_bg111
      refine zC (fun m' ρ w112 => ∃ (junk : Env) (k : Nat) (out_1 : List (List Int)) (x_out_1 : List Value) (F_out_1 : List Nat), ρ = upd (upd (upd (upd (upd (upd (upd (upd (upd (upd (upd (upd (upd junk 0 (pp b1 0)) 2 (.int .i64 cell)) 8 (.slice (aa b45 0) ((xC s t).length) rc23)) 9 (.slice a57 ((yc took ((s.qf[i]!).qI) ((xC s t)[i]!)).length) c58)) 10 (.slice (aa b62 0) ((xW s (s.qg.length + 1)).length) rc31)) 11 (.int .i64 i)) 12 (pp b40 (o41 + (i : Int).toNat * 9))) 14 (.int .i64 k)) 45 (.slice (aa b45 0) ((xC s t).length) rc23)) 46 (.int .i64 i)) 47 (pp b45 (0 + (i : Int).toNat * 1))) 48 (.int .i64 ((xC s t)[i]!))) 49 (.bool (((xC s t)[i]! : Int) == 0)) ∧ ((k : Int) ≤ (((s.qf[i]!).qx).length)) ∧ (Ent (s.qg.length + 1) (yQ s) (fun p q => putsOf s t (xC s t) cell i p q + at' p (s.qf[i]!).qw.toNat ((((xC s t))[i]!) * ((s.qf[i]!).xe)[q]!) + at' p (outPl s t (s.qf[i]!)) ((((xC s t))[i]!) * ((s.qf[i]!).xO)[q]!) + intoF (s.qf[i]!) (((xC s t))[i]!) k p q) (3000000 + 6000000 * i + 1000000 * k) out_1) ∧ (out_1.length = s.qg.length + 1) ∧ m' = ((((s.qf[i]!).qx).length) - (k : Int)).toNat ∧ Fresh w.heap.size [F_out_1] ∧ St w w112 [.row (.slice a57 ((yc took ((s.qf[i]!).qI) ((xC s t)[i]!)).length) c58) 2 1 ((yc took ((s.qf[i]!).qI) ((xC s t)[i]!)).length) ((yc took ((s.qf[i]!).qI) ((xC s t)[i]!)).map (Value.int .i64)), .row (.slice (aa b62 0) ((xW s (s.qg.length + 1)).length) rc31) 22 1 ((xW s (s.qg.length + 1)).length) x_out_1, .row (.slice a_took n_took c_took) 2 1 n_took (took.map (Value.int .i64)), .row (.slice (aa b45 0) ((xC s t).length) rc23) 2 1 ((xC s t).length) ((xC s t).map (Value.int .i64)), .box b3 [.slice xu t.qy.length qZ, .slice xB t.qG.length xx, .slice qV t.qB.length qU] 38, .box b1 [.int .i64 s.qF, .slice (aa b86 o87) s.qg.length ql, .slice (aa b40 o41) s.qf.length qA] 36] [jo true F_out_1 x_out_1 out_1, isF false Fe43Need (.slice QD (((s.qf[i]!).qI).length) QC) ((s.qf[i]!).qI), isF false Fe43Have (.slice ae43Have (((s.qf[i]!).qW).length) ce43Have) ((s.qf[i]!).qW), isF false Fe43Lack (.slice ae43Lack (((s.qf[i]!).qX).length) ce43Lack) ((s.qf[i]!).qX), isF false Fe43Here (.slice ae43Here (((s.qf[i]!).xe).length) ce43Here) ((s.qf[i]!).xe), isF false Fe43Out (.slice ae43Out (((s.qf[i]!).xO).length) ce43Out) ((s.qf[i]!).xO), isF false Fe43Into (.slice ae43Into (((s.qf[i]!).qx).length) Qs) ((s.qf[i]!).qx), atF b40 (o41 + (i : Int).toNat * 9) [.int .i64 ((s.qf[i]!).qw), .int .i64 ((s.qf[i]!).xM), .slice QD (((s.qf[i]!).qI).length) QC, .slice ae43Have (((s.qf[i]!).qW).length) ce43Have, .slice ae43Lack (((s.qf[i]!).qX).length) ce43Lack, .slice ae43Here (((s.qf[i]!).xe).length) ce43Here, .slice ae43Out (((s.qf[i]!).xO).length) ce43Out, .slice ae43Into (((s.qf[i]!).qx).length) Qs, .bool ((s.qf[i]!).xG)], isF false qL (.slice (aa b86 o87) s.qg.length ql) s.qg, isF false xk (.slice (aa b40 o41) s.qf.length qA) s.qf, isF false xY (.slice xu t.qy.length qZ) t.qy, isF false zG (.slice xB t.qG.length xx) t.qG, isF false xJ (.slice qV t.qB.length qU) t.qB]) (((((s.qf[i]!).qx).length) - (0 : Int)).toNat) ⟨_, 0, bg111, xs108, F109, (by exact qj (qj (qj (qj (qj (qj (qj (qj (qj (qj (qj (qj (qj (rfl) rfl) rfl) rfl) rfl) rfl) rfl) rfl) rfl) rfl) rfl) rfl) rfl) rfl), (by omega), (by exact E_cur.to (fun p q => by rw [po, (by assumption : (s.qf[i]!).qw = cell)]; simp only [intoF]; first | omega | (simp only [Int.toNat_natCast]; omega)) (by omega)), (by omega), rfl, N, H.pick [2, 3, 4, 5, 6, 7] [0, 6, 7, 8, 9, 10, 11, 12, 14, 15, 16, 17, 18]⟩ ?_
      clear H N
      rintro m' ρ w113 ⟨junk, k, out_1, x_out_1, F_out_1, rfl, i0, E_out_1, z_out_1, rfl, N, H⟩
      have hn_out := H.jB (α := List Int) 1 rfl 0 rfl (by decide)
      refine qh (qh (qp ?_))
      refine sps [.int .i64 k, pp b40 (o41 + (i : Int).toNat * 9), pp b40 (o41 + (i : Int).toNat * 9)] ?_
      refine sw (qH b40 (o41 + (i : Int).toNat * 9) 7 Tryz.underlying110 rfl rfl Tryz.sizeOf108 rfl ?_)
      refine sw (qC (.slice ae43Into (((s.qf[i]!).qx).length) Qs) Tryz.isAgg108 rfl (H.xU 7 rfl 7 rfl) ?_)
      refine sw (zK Tryz.underlying108 ae43Into (((s.qf[i]!).qx).length) Qs rfl ?_)
      refine sp (.bool (decide ((k : Int) < (((s.qf[i]!).qx).length)))) ?_
      refine qo (t_n ?_)
      refine qP (decide ((k : Int) < (((s.qf[i]!).qx).length))) rfl (fun h114 => ?_) (fun h114 => ?_)
      ·skip
       replace h114 := of_decide_eq_true h114
       have qi := q.2.2.2.2.2.2.2.2.2.2 k (by omega)
       have qi1 := qi.1
       have bn4 := qi.2.2.1
       have ln4 := bn4.len
       refine xg (t_n (qh (xn (qh (qp ?_)))))
       refine sps [pp b40 (o41 + (i : Int).toNat * 9), pp b40 (o41 + (i : Int).toNat * 9)] ?_
       refine sw (qH b40 (o41 + (i : Int).toNat * 9) 7 Tryz.underlying110 rfl rfl Tryz.sizeOf108 rfl ?_)
       refine sw (qC (.slice ae43Into (((s.qf[i]!).qx).length) Qs) Tryz.isAgg108 rfl (H.xU 7 rfl 7 rfl) ?_)
       refine sp (.int .i64 k) ?_
       obtain ⟨b115, o116, rfl⟩ := H.addr 6 rfl (by omega)
       obtain ⟨ae118Bag, ce118Bag, Fe118Bag, H⟩ := H.vP 6 rfl k k (by omega) (by omega) (by omega)
       refine sw (xE k Tryz.underlying108 ti115 rfl rfl (by omega) (by omega) ?_)
       refine sw (qH b115 (o116 + (k : Int).toNat * 2) 0 Tryz.underlying115 rfl rfl Tryz.sizeOf2 rfl ?_)
       refine sw (qC (.int .i64 ((((s.qf[i]!).qx)[k]!).qw)) Tryz.isAgg2 rfl (H.xU 1 rfl 0 rfl) ?_)
       refine sp (.int .i64 ((((s.qf[i]!).qx)[k]!).qw)) ?_
       refine qo (t_n ?_)
       refine QI rfl H [0, 2, 3, 4, 5] fun H => ?_
       have S := H.QN [0, 2, 3, 4, 5] [0, 1, 2, 3, 4, 5, 6, 7, 8, 9, 10, 11, 12, 13, 14]
       refine rtp 0 (.slice (aa b62 0) ((xW s (s.qg.length + 1)).length) rc31) S ?_
       refine rtp 1 (.int .i64 ((((s.qf[i]!).qx)[k]!).qw)) S ?_
       refine rtp 2 (.slice (aa b62 0) ((xW s (s.qg.length + 1)).length) rc31) S ?_
       refine rtp 3 (.int .i64 ((((s.qf[i]!).qx)[k]!).qw)) S ?_
       refine rt 4 (pp b62 (0 + ((((s.qf[i]!).qx)[k]!).qw : Int).toNat * 1)) (xQ b62 (0) ((xW s (s.qg.length + 1)).length) rc31 ((((s.qf[i]!).qx)[k]!).qw) Tryz.underlying27 ti22 rfl rfl (by omega) (by omega)) S ?_
       refine rtp 6 (pp b40 (o41 + (i : Int).toNat * 9)) S ?_
       refine rtp 7 (pp b40 (o41 + (i : Int).toNat * 9)) S ?_
       refine rt 8 (pp b40 (o41 + (i : Int).toNat * 9 + 7)) (xH b40 (o41 + (i : Int).toNat * 9) 7 Tryz.underlying110 rfl rfl Tryz.sizeOf108 rfl) S ?_
       refine rt 9 (.slice (aa b115 o116) (((s.qf[i]!).qx).length) Qs) (xw Tryz.isAgg108 rfl (fun _ h => h.xU 9 rfl 7 rfl)) S ?_
       refine rtp 10 (.int .i64 k) S ?_
       refine rt 11 (pp b115 (o116 + (k : Int).toNat * 2)) (xQ b115 (o116) (((s.qf[i]!).qx).length) Qs k Tryz.underlying108 ti115 rfl rfl (by omega) (by omega)) S ?_
       refine rt 12 (pp b115 (o116 + (k : Int).toNat * 2 + 1)) (xH b115 (o116 + (k : Int).toNat * 2) 1 Tryz.underlying115 rfl rfl Tryz.sizeOf22 rfl) S ?_
       refine rt 13 (.slice ae118Bag (((((s.qf[i]!).qx)[k]!).zF).length) ce118Bag) (xw Tryz.isAgg22 rfl (fun _ h => h.xU 1 rfl 1 rfl)) S ?_
       refine rtp 14 (.slice (aa b45 0) ((xC s t).length) rc23) S ?_
       refine rtp 15 (.int .i64 i) S ?_
       refine rt 16 (pp b45 (0 + (i : Int).toNat * 1)) (xQ b45 (0) ((xC s t).length) rc23 i Tryz.underlying22 ti2 rfl rfl (by omega) (by omega)) S ?_
       refine rt 17 (.int .i64 ((xC s t)[i]!)) (xw Tryz.isAgg2 rfl (fun _ h => h.rowInt 2 rfl (iv := i) (i := i) (by omega) (by omega))) S ?_
       refine zt [5] (by kernel_rfl) (by simp) (yF rfl ?_ zu)
       obtain ⟨a120, c121, G122, s123, h124, H⟩ := H.Qb 1 rfl 2 rfl (iv := (((s.qf[i]!).qx)[k]!).qw) (((((s.qf[i]!).qx)[k]!).qw).toNat) (by omega) (by omega)
       refine qC (.slice a120 ((out_1[((((s.qf[i]!).qx)[k]!).qw).toNat]!).length) c121) Tryz.isAgg22 rfl (h124) ?_
       refine ⟨H.pick [0, 2, 3, 4, 5] [1, 2, 3, 4, 5, 6, 7, 8, 9, 10, 11, 12, 13, 14, 15], ?_⟩
       refine zt [18] (by kernel_rfl) (by simp) (yF rfl ?_ zu)
       obtain ⟨u1, u2⟩ := E_out_1.sh.row (c := ((((s.qf[i]!).qx)[k]!).qw).toNat) (by omega) p8 (by omega)
       have u4 := (by first | exact bn2.jw (by omega) | exact bn3.jw (by omega) | exact bn4.jw (by omega) : SmallT ((((s.qf[i]!).qx)[k]!).zF) ((xC s t)[i]!))
       have sz125 := H.base.size
       have lt126 := H.ltN (L := [F_out_1]) [3]
       refine xm #[.slice a120 ((out_1[((((s.qf[i]!).qx)[k]!).qw).toNat]!).length) c121, .slice ae118Bag (((((s.qf[i]!).qx)[k]!).zF).length) ce118Bag, .int .i64 ((xC s t)[i]!)] rfl rfl Tryz.call88 (l01Plus_ok w113.drew (out_1[((((s.qf[i]!).qx)[k]!).qw).toNat]!) ((((s.qf[i]!).qx)[k]!).zF) ((xC s t)[i]!) a120 c121 G122 ae118Bag ce118Bag Fe118Bag (H.get 0 rfl).1 (H.get 1 rfl).1 (by first | assumption | omega) (by first | assumption | omega) (by first | assumption | omega)) ?_
       rintro v130 w128 r130 x129
       replace H := H.jh x129 r130
       obtain ⟨a131, c132, rfl, hc133, hm134⟩ := H.Xe 0 rfl
       refine ⟨H.pick [1, 3, 4, 5, 6] [1, 2, 3, 4, 5, 6, 7, 8, 9, 10, 11, 12, 13, 14, 15], ?_⟩
       refine rt 19 (pp b62 (0 + ((((s.qf[i]!).qx)[k]!).qw : Int).toNat * 1)) (xQ b62 (0) ((xW s (s.qg.length + 1)).length) rc31 ((((s.qf[i]!).qx)[k]!).qw) Tryz.underlying27 ti22 rfl rfl (by omega) (by omega)) (H.pick [1, 3, 4, 5, 6] [1, 2, 3, 4, 5, 6, 7, 8, 9, 10, 11, 12, 13, 14, 15]) ?_
       refine zt [20] (by kernel_rfl) (by simp) (yF rfl ?_ zu)
       obtain ⟨G136, N, hn137, H⟩ := H.Xm 0 rfl N (H.awayN [3])
       try dsimp only [List.set] at H
       refine yg true H 2 rfl 4 rfl (.slice a131 ((yc (out_1[((((s.qf[i]!).qx)[k]!).qw).toNat]!) ((((s.qf[i]!).qx)[k]!).zF) ((xC s t)[i]!)).length) c132) 0 rfl rfl Tryz.sizeOf22 rfl rfl (i := (((((s.qf[i]!).qx)[k]!).qw).toNat)) (by omega) (by omega) (by simp) fun w135 xs138 F139 hs140 H => ?_
       replace N : Fresh w.heap.size [F139] := (N.pick [1, 0]).repl hs140
       try dsimp only [List.set] at H
       refine ⟨H.pick [1, 3, 4, 5, 6] [3, 4, 5, 6, 7, 8, 9, 10, 11, 12, 13, 14, 15, 16, 17], ?_⟩
       refine xZ (by kernel_rfl) (b_n (t_n ?_))
       refine qp ?_
       refine sp (.int .i64 k) ?_
       refine sw (zD k 1 rfl rfl (by omega) ?_)
       refine sp (.int .i64 (k + 1)) ?_
       refine qo ?_
       obtain ⟨bg141, e_bg141⟩ : ∃ z, z = (out_1.set (((((s.qf[i]!).qx)[k]!).qw).toNat) (yc (out_1[((((s.qf[i]!).qx)[k]!).qw).toNat]!) ((((s.qf[i]!).qx)[k]!).zF) ((xC s t)[i]!))) := ⟨_, rfl⟩
       rw [← e_bg141] at H
       have E_bg141 := Ent.add (D := 1000000) E_out_1 e_bg141 (by omega) (by first | exact bn1.mul (by omega) | exact bn2.mul (by omega) | exact bn3.mul (by omega) | exact bn4.mul (by omega)) (by omega)
       have z_bg141 := E_bg141.sh.1
       have E_cur := E_bg141
       refine xy (m' := ((((s.qf[i]!).qx).length) - ((k + 1) : Int)).toNat) (by omega) ⟨_, k + 1, bg141, xs138, F139, (by exact qj (qj (qj (qj (qj (qj (qj (qj (qj (qj (qj (qj (qj (rfl) rfl) rfl) rfl) rfl) rfl) rfl) rfl) rfl) rfl) rfl) rfl) rfl) rfl), ?_, ?_, ?_, rfl, N, H.pick [1, 2, 3, 4, 5, 6] [0, 6, 7, 8, 9, 10, 11, 12, 13, 14, 15, 16, 17]⟩
       · omega
       · exact E_cur.to (fun p q => by simp only [intoF]; omega) (by omega)
       · omega
      replace h114 := of_decide_eq_false h114
      refine zx (t_x (t_x (b_x (b_n (t_n (qp ?_))))))
      refine sp (.int .i64 i) ?_
      refine sw (zD i 1 rfl rfl (by omega) ?_)
      refine sp (.int .i64 (i + 1)) ?_
      refine qo ?_
      refine xy (m' := (((xC s t).length) - ((i + 1) : Int)).toNat) (by omega) ⟨_, a57, (yc took ((s.qf[i]!).qI) ((xC s t)[i]!)).length, c58, yc took ((s.qf[i]!).qI) ((xC s t)[i]!), i + 1, out_1, x_out_1, F_out_1, (by exact qj (qj (qj (qj (qj (qj (rfl) rfl) rfl) rfl) rfl) rfl) rfl), ?_, ?_, ?_, ?_, rfl, N, H.pick [1, 0, 3, 4, 5] [0, 8, 9, 10, 11, 12]⟩
      · omega
      · first | exact E_out.to (fun p q => by first | rw [puts_no (i := i) (by assumption)] | rw [puts_zero (i := i) (by assumption)]) (by omega) | exact E_out_1.to (fun p q => by rw [show k = ((s.qf[i]!).qx).length by omega, puts_yes (i := i) (by assumption)]; simp only [putF]; omega) (by omega)
      · omega
      · first | exact tk.plus bn1 (by omega) | exact tk.keep
     replace h84 := of_decide_eq_false h84
     obtain ⟨bg142, e_bg142⟩ : ∃ z, z = (out.set cell.toNat (yc (out[cell.toNat]!) ((s.qf[i]!).xe) ((xC s t)[i]!))) := ⟨_, rfl⟩
     rw [← e_bg142] at H
     have E_bg142 := Ent.add (D := 1000000) E_out e_bg142 (by omega) (by first | exact bn1.mul (by omega) | exact bn2.mul (by omega) | exact bn3.mul (by omega) | exact bn4.mul (by omega)) (by omega)
     have z_bg142 := E_bg142.sh.1
     have E_cur := E_bg142
     have po : outPl s t (s.qf[i]!) = s.qg.length := outPl_root (by omega)
     refine xg (t_n (qh ?_))
     refine QI rfl H [0, 1, 3, 4, 5, 6] fun H => ?_
     have S := H.QN [0, 1, 3, 4, 5, 6] [0, 1, 2, 3, 4, 5, 6, 7, 8, 9, 10, 11, 12, 13, 14, 15]
     refine rtp 0 (.slice (aa b62 0) ((xW s (s.qg.length + 1)).length) rc31) S ?_
     refine rtp 1 (.int .i64 s.qg.length) S ?_
     refine rtp 2 (.slice (aa b62 0) ((xW s (s.qg.length + 1)).length) rc31) S ?_
     refine rtp 3 (.int .i64 s.qg.length) S ?_
     refine rt 4 (pp b62 (0 + (s.qg.length : Int).toNat * 1)) (xQ b62 (0) ((xW s (s.qg.length + 1)).length) rc31 s.qg.length Tryz.underlying27 ti22 rfl rfl (by omega) (by omega)) S ?_
     refine rtp 6 (pp b40 (o41 + (i : Int).toNat * 9)) S ?_
     refine rtp 7 (pp b40 (o41 + (i : Int).toNat * 9)) S ?_
     refine rt 8 (pp b40 (o41 + (i : Int).toNat * 9 + 6)) (xH b40 (o41 + (i : Int).toNat * 9) 6 Tryz.underlying110 rfl rfl Tryz.sizeOf22 rfl) S ?_
     refine rt 9 (.slice ae43Out (((s.qf[i]!).xO).length) ce43Out) (xw Tryz.isAgg22 rfl (fun _ h => h.xU 9 rfl 6 rfl)) S ?_
     refine rtp 10 (.slice (aa b45 0) ((xC s t).length) rc23) S ?_
     refine rtp 11 (.int .i64 i) S ?_
     refine rt 12 (pp b45 (0 + (i : Int).toNat * 1)) (xQ b45 (0) ((xC s t).length) rc23 i Tryz.underlying22 ti2 rfl rfl (by omega) (by omega)) S ?_
     refine rt 13 (.int .i64 ((xC s t)[i]!)) (xw Tryz.isAgg2 rfl (fun _ h => h.rowInt 3 rfl (iv := i) (i := i) (by omega) (by omega))) S ?_
     refine zt [5] (by kernel_rfl) (by simp) (yF rfl ?_ zu)
     obtain ⟨a144, c145, G146, s147, h148, H⟩ := H.Qb 2 rfl 0 rfl (iv := s.qg.length) s.qg.length (by omega) (by omega)
     refine qC (.slice a144 ((bg142[s.qg.length]!).length) c145) Tryz.isAgg22 rfl (h148) ?_
     refine ⟨H.pick [0, 1, 3, 4, 5, 6] [1, 2, 3, 4, 5, 6, 7, 8, 9, 10, 11, 12, 13, 14, 15, 16], ?_⟩
     refine zt [14] (by kernel_rfl) (by simp) (yF rfl ?_ zu)
     obtain ⟨u1, u2⟩ := E_bg142.sh.row (c := s.qg.length) (by omega) p8 (by omega)
     have u4 := (by first | exact bn2.jw (by omega) | exact bn3.jw (by omega) | exact bn4.jw (by omega) : SmallT ((s.qf[i]!).xO) ((xC s t)[i]!))
     have sz149 := H.base.size
     have lt150 := H.ltN (L := [F82]) [1]
     refine xm #[.slice a144 ((bg142[s.qg.length]!).length) c145, .slice ae43Out (((s.qf[i]!).xO).length) ce43Out, .int .i64 ((xC s t)[i]!)] rfl rfl Tryz.call88 (l01Plus_ok w78.drew (bg142[s.qg.length]!) ((s.qf[i]!).xO) ((xC s t)[i]!) a144 c145 G146 ae43Out ce43Out Fe43Out (H.get 0 rfl).1 (H.get 8 rfl).1 (by first | assumption | omega) (by first | assumption | omega) (by first | assumption | omega)) ?_
     rintro v154 w152 r154 x153
     replace H := H.jh x153 r154
     obtain ⟨a155, c156, rfl, hc157, hm158⟩ := H.Xe 0 rfl
     refine ⟨H.pick [1, 2, 4, 5, 6, 7] [1, 2, 3, 4, 5, 6, 7, 8, 9, 10, 11, 12, 13, 14, 15, 16], ?_⟩
     refine rt 15 (pp b62 (0 + (s.qg.length : Int).toNat * 1)) (xQ b62 (0) ((xW s (s.qg.length + 1)).length) rc31 s.qg.length Tryz.underlying27 ti22 rfl rfl (by omega) (by omega)) (H.pick [1, 2, 4, 5, 6, 7] [1, 2, 3, 4, 5, 6, 7, 8, 9, 10, 11, 12, 13, 14, 15, 16]) ?_
     refine zt [16] (by kernel_rfl) (by simp) (yF rfl ?_ zu)
     obtain ⟨G160, N, hn161, H⟩ := H.Xm 0 rfl N (H.awayN [1])
     try dsimp only [List.set] at H
     refine yg true H 3 rfl 2 rfl (.slice a155 ((yc (bg142[s.qg.length]!) ((s.qf[i]!).xO) ((xC s t)[i]!)).length) c156) 0 rfl rfl Tryz.sizeOf22 rfl rfl (i := s.qg.length) (by omega) (by omega) (by simp) fun w159 xs162 F163 hs164 H => ?_
     replace N : Fresh w.heap.size [F163] := (N.pick [1, 0]).repl hs164
     try dsimp only [List.set] at H
     refine ⟨H.pick [1, 2, 4, 5, 6, 7] [3, 4, 5, 6, 7, 8, 9, 10, 11, 12, 13, 14, 15, 16, 17, 18], ?_⟩
     refine xZ (by kernel_rfl) (t_n ?_)
     refine qh (qp ?_)
     refine sp (.int .i64 0) ?_
     refine qo (t_n (xn ?_))
     obtain ⟨bg165, e_bg165⟩ : ∃ z, z = (bg142.set s.qg.length (yc (bg142[s.qg.length]!) ((s.qf[i]!).xO) ((xC s t)[i]!))) := ⟨_, rfl⟩
     rw [← e_bg165] at H
     have E_bg165 := Ent.add (D := 1000000) E_bg142 e_bg165 (by omega) (by first | exact bn1.mul (by omega) | exact bn2.mul (by omega) | exact bn3.mul (by omega) | exact bn4.mul (by omega)) (by omega)
     have z_bg165 := E_bg165.sh.1
     have E_cur := E_bg165
     refine zC (fun m' ρ w166 => ∃ (junk : Env) (k : Nat) (out_1 : List (List Int)) (x_out_1 : List Value) (F_out_1 : List Nat), ρ = upd (upd (upd (upd (upd (upd (upd (upd (upd (upd (upd (upd (upd junk 0 (pp b1 0)) 2 (.int .i64 cell)) 8 (.slice (aa b45 0) ((xC s t).length) rc23)) 9 (.slice a57 ((yc took ((s.qf[i]!).qI) ((xC s t)[i]!)).length) c58)) 10 (.slice (aa b62 0) ((xW s (s.qg.length + 1)).length) rc31)) 11 (.int .i64 i)) 12 (pp b40 (o41 + (i : Int).toNat * 9))) 14 (.int .i64 k)) 45 (.slice (aa b45 0) ((xC s t).length) rc23)) 46 (.int .i64 i)) 47 (pp b45 (0 + (i : Int).toNat * 1))) 48 (.int .i64 ((xC s t)[i]!))) 49 (.bool (((xC s t)[i]! : Int) == 0)) ∧ ((k : Int) ≤ (((s.qf[i]!).qx).length)) ∧ (Ent (s.qg.length + 1) (yQ s) (fun p q => putsOf s t (xC s t) cell i p q + at' p (s.qf[i]!).qw.toNat ((((xC s t))[i]!) * ((s.qf[i]!).xe)[q]!) + at' p (outPl s t (s.qf[i]!)) ((((xC s t))[i]!) * ((s.qf[i]!).xO)[q]!) + intoF (s.qf[i]!) (((xC s t))[i]!) k p q) (3000000 + 6000000 * i + 1000000 * k) out_1) ∧ (out_1.length = s.qg.length + 1) ∧ m' = ((((s.qf[i]!).qx).length) - (k : Int)).toNat ∧ Fresh w.heap.size [F_out_1] ∧ St w w166 [.row (.slice a57 ((yc took ((s.qf[i]!).qI) ((xC s t)[i]!)).length) c58) 2 1 ((yc took ((s.qf[i]!).qI) ((xC s t)[i]!)).length) ((yc took ((s.qf[i]!).qI) ((xC s t)[i]!)).map (Value.int .i64)), .row (.slice (aa b62 0) ((xW s (s.qg.length + 1)).length) rc31) 22 1 ((xW s (s.qg.length + 1)).length) x_out_1, .row (.slice a_took n_took c_took) 2 1 n_took (took.map (Value.int .i64)), .row (.slice (aa b45 0) ((xC s t).length) rc23) 2 1 ((xC s t).length) ((xC s t).map (Value.int .i64)), .box b3 [.slice xu t.qy.length qZ, .slice xB t.qG.length xx, .slice qV t.qB.length qU] 38, .box b1 [.int .i64 s.qF, .slice qm s.qg.length ql, .slice (aa b40 o41) s.qf.length qA] 36] [jo true F_out_1 x_out_1 out_1, isF false Fe43Need (.slice QD (((s.qf[i]!).qI).length) QC) ((s.qf[i]!).qI), isF false Fe43Have (.slice ae43Have (((s.qf[i]!).qW).length) ce43Have) ((s.qf[i]!).qW), isF false Fe43Lack (.slice ae43Lack (((s.qf[i]!).qX).length) ce43Lack) ((s.qf[i]!).qX), isF false Fe43Here (.slice ae43Here (((s.qf[i]!).xe).length) ce43Here) ((s.qf[i]!).xe), isF false Fe43Out (.slice ae43Out (((s.qf[i]!).xO).length) ce43Out) ((s.qf[i]!).xO), isF false Fe43Into (.slice ae43Into (((s.qf[i]!).qx).length) Qs) ((s.qf[i]!).qx), atF b40 (o41 + (i : Int).toNat * 9) [.int .i64 ((s.qf[i]!).qw), .int .i64 ((s.qf[i]!).xM), .slice QD (((s.qf[i]!).qI).length) QC, .slice ae43Have (((s.qf[i]!).qW).length) ce43Have, .slice ae43Lack (((s.qf[i]!).qX).length) ce43Lack, .slice ae43Here (((s.qf[i]!).xe).length) ce43Here, .slice ae43Out (((s.qf[i]!).xO).length) ce43Out, .slice ae43Into (((s.qf[i]!).qx).length) Qs, .bool ((s.qf[i]!).xG)], isF false qL (.slice qm s.qg.length ql) s.qg, isF false xk (.slice (aa b40 o41) s.qf.length qA) s.qf, isF false xY (.slice xu t.qy.length qZ) t.qy, isF false zG (.slice xB t.qG.length xx) t.qG, isF false xJ (.slice qV t.qB.length qU) t.qB]) (((((s.qf[i]!).qx).length) - (0 : Int)).toNat) ⟨_, 0, bg165, xs162, F163, (by exact qj (qj (qj (qj (qj (qj (qj (qj (qj (qj (qj (qj (qj (rfl) rfl) rfl) rfl) rfl) rfl) rfl) rfl) rfl) rfl) rfl) rfl) rfl) rfl), (by omega), (by exact E_cur.to (fun p q => by rw [po, (by assumption : (s.qf[i]!).qw = cell)]; simp only [intoF]; first | omega | (simp only [Int.toNat_natCast]; omega)) (by omega)), (by omega), rfl, N, H.pick [2, 3, 4, 5, 6, 7] [0, 6, 7, 8, 9, 10, 11, 12, 14, 15, 16, 17, 18]⟩ ?_
     clear H N
     rintro m' ρ w167 ⟨junk, k, out_1, x_out_1, F_out_1, rfl, i0, E_out_1, z_out_1, rfl, N, H⟩
     have hn_out := H.jB (α := List Int) 1 rfl 0 rfl (by decide)
     refine qh (qh (qp ?_))
     refine sps [.int .i64 k, pp b40 (o41 + (i : Int).toNat * 9), pp b40 (o41 + (i : Int).toNat * 9)] ?_
     refine sw (qH b40 (o41 + (i : Int).toNat * 9) 7 Tryz.underlying110 rfl rfl Tryz.sizeOf108 rfl ?_)
     refine sw (qC (.slice ae43Into (((s.qf[i]!).qx).length) Qs) Tryz.isAgg108 rfl (H.xU 7 rfl 7 rfl) ?_)
     refine sw (zK Tryz.underlying108 ae43Into (((s.qf[i]!).qx).length) Qs rfl ?_)
     refine sp (.bool (decide ((k : Int) < (((s.qf[i]!).qx).length)))) ?_
     refine qo (t_n ?_)
     refine qP (decide ((k : Int) < (((s.qf[i]!).qx).length))) rfl (fun h168 => ?_) (fun h168 => ?_)
     ·skip
      replace h168 := of_decide_eq_true h168
      have qi := q.2.2.2.2.2.2.2.2.2.2 k (by omega)
      have qi1 := qi.1
      have bn4 := qi.2.2.1
      have ln4 := bn4.len
      refine xg (t_n (qh (xn (qh (qp ?_)))))
      refine sps [pp b40 (o41 + (i : Int).toNat * 9), pp b40 (o41 + (i : Int).toNat * 9)] ?_
      refine sw (qH b40 (o41 + (i : Int).toNat * 9) 7 Tryz.underlying110 rfl rfl Tryz.sizeOf108 rfl ?_)
      refine sw (qC (.slice ae43Into (((s.qf[i]!).qx).length) Qs) Tryz.isAgg108 rfl (H.xU 7 rfl 7 rfl) ?_)
      refine sp (.int .i64 k) ?_
      obtain ⟨b169, o170, rfl⟩ := H.addr 6 rfl (by omega)
      obtain ⟨ae172Bag, ce172Bag, Fe172Bag, H⟩ := H.vP 6 rfl k k (by omega) (by omega) (by omega)
      refine sw (xE k Tryz.underlying108 ti115 rfl rfl (by omega) (by omega) ?_)
      refine sw (qH b169 (o170 + (k : Int).toNat * 2) 0 Tryz.underlying115 rfl rfl Tryz.sizeOf2 rfl ?_)
      refine sw (qC (.int .i64 ((((s.qf[i]!).qx)[k]!).qw)) Tryz.isAgg2 rfl (H.xU 1 rfl 0 rfl) ?_)
      refine sp (.int .i64 ((((s.qf[i]!).qx)[k]!).qw)) ?_
      refine qo (t_n ?_)
      refine QI rfl H [0, 2, 3, 4, 5] fun H => ?_
      have S := H.QN [0, 2, 3, 4, 5] [0, 1, 2, 3, 4, 5, 6, 7, 8, 9, 10, 11, 12, 13, 14]
      refine rtp 0 (.slice (aa b62 0) ((xW s (s.qg.length + 1)).length) rc31) S ?_
      refine rtp 1 (.int .i64 ((((s.qf[i]!).qx)[k]!).qw)) S ?_
      refine rtp 2 (.slice (aa b62 0) ((xW s (s.qg.length + 1)).length) rc31) S ?_
      refine rtp 3 (.int .i64 ((((s.qf[i]!).qx)[k]!).qw)) S ?_
      refine rt 4 (pp b62 (0 + ((((s.qf[i]!).qx)[k]!).qw : Int).toNat * 1)) (xQ b62 (0) ((xW s (s.qg.length + 1)).length) rc31 ((((s.qf[i]!).qx)[k]!).qw) Tryz.underlying27 ti22 rfl rfl (by omega) (by omega)) S ?_
      refine rtp 6 (pp b40 (o41 + (i : Int).toNat * 9)) S ?_
      refine rtp 7 (pp b40 (o41 + (i : Int).toNat * 9)) S ?_
      refine rt 8 (pp b40 (o41 + (i : Int).toNat * 9 + 7)) (xH b40 (o41 + (i : Int).toNat * 9) 7 Tryz.underlying110 rfl rfl Tryz.sizeOf108 rfl) S ?_
      refine rt 9 (.slice (aa b169 o170) (((s.qf[i]!).qx).length) Qs) (xw Tryz.isAgg108 rfl (fun _ h => h.xU 9 rfl 7 rfl)) S ?_
      refine rtp 10 (.int .i64 k) S ?_
      refine rt 11 (pp b169 (o170 + (k : Int).toNat * 2)) (xQ b169 (o170) (((s.qf[i]!).qx).length) Qs k Tryz.underlying108 ti115 rfl rfl (by omega) (by omega)) S ?_
      refine rt 12 (pp b169 (o170 + (k : Int).toNat * 2 + 1)) (xH b169 (o170 + (k : Int).toNat * 2) 1 Tryz.underlying115 rfl rfl Tryz.sizeOf22 rfl) S ?_
      refine rt 13 (.slice ae172Bag (((((s.qf[i]!).qx)[k]!).zF).length) ce172Bag) (xw Tryz.isAgg22 rfl (fun _ h => h.xU 1 rfl 1 rfl)) S ?_
      refine rtp 14 (.slice (aa b45 0) ((xC s t).length) rc23) S ?_
      refine rtp 15 (.int .i64 i) S ?_
      refine rt 16 (pp b45 (0 + (i : Int).toNat * 1)) (xQ b45 (0) ((xC s t).length) rc23 i Tryz.underlying22 ti2 rfl rfl (by omega) (by omega)) S ?_
      refine rt 17 (.int .i64 ((xC s t)[i]!)) (xw Tryz.isAgg2 rfl (fun _ h => h.rowInt 2 rfl (iv := i) (i := i) (by omega) (by omega))) S ?_
      refine zt [5] (by kernel_rfl) (by simp) (yF rfl ?_ zu)
      obtain ⟨a174, c175, G176, s177, h178, H⟩ := H.Qb 1 rfl 2 rfl (iv := (((s.qf[i]!).qx)[k]!).qw) (((((s.qf[i]!).qx)[k]!).qw).toNat) (by omega) (by omega)
      refine qC (.slice a174 ((out_1[((((s.qf[i]!).qx)[k]!).qw).toNat]!).length) c175) Tryz.isAgg22 rfl (h178) ?_
      refine ⟨H.pick [0, 2, 3, 4, 5] [1, 2, 3, 4, 5, 6, 7, 8, 9, 10, 11, 12, 13, 14, 15], ?_⟩
      refine zt [18] (by kernel_rfl) (by simp) (yF rfl ?_ zu)
      obtain ⟨u1, u2⟩ := E_out_1.sh.row (c := ((((s.qf[i]!).qx)[k]!).qw).toNat) (by omega) p8 (by omega)
      have u4 := (by first | exact bn2.jw (by omega) | exact bn3.jw (by omega) | exact bn4.jw (by omega) : SmallT ((((s.qf[i]!).qx)[k]!).zF) ((xC s t)[i]!))
      have sz179 := H.base.size
      have lt180 := H.ltN (L := [F_out_1]) [3]
      refine xm #[.slice a174 ((out_1[((((s.qf[i]!).qx)[k]!).qw).toNat]!).length) c175, .slice ae172Bag (((((s.qf[i]!).qx)[k]!).zF).length) ce172Bag, .int .i64 ((xC s t)[i]!)] rfl rfl Tryz.call88 (l01Plus_ok w167.drew (out_1[((((s.qf[i]!).qx)[k]!).qw).toNat]!) ((((s.qf[i]!).qx)[k]!).zF) ((xC s t)[i]!) a174 c175 G176 ae172Bag ce172Bag Fe172Bag (H.get 0 rfl).1 (H.get 1 rfl).1 (by first | assumption | omega) (by first | assumption | omega) (by first | assumption | omega)) ?_
      rintro v184 w182 r184 x183
      replace H := H.jh x183 r184
      obtain ⟨a185, c186, rfl, hc187, hm188⟩ := H.Xe 0 rfl
      refine ⟨H.pick [1, 3, 4, 5, 6] [1, 2, 3, 4, 5, 6, 7, 8, 9, 10, 11, 12, 13, 14, 15], ?_⟩
      refine rt 19 (pp b62 (0 + ((((s.qf[i]!).qx)[k]!).qw : Int).toNat * 1)) (xQ b62 (0) ((xW s (s.qg.length + 1)).length) rc31 ((((s.qf[i]!).qx)[k]!).qw) Tryz.underlying27 ti22 rfl rfl (by omega) (by omega)) (H.pick [1, 3, 4, 5, 6] [1, 2, 3, 4, 5, 6, 7, 8, 9, 10, 11, 12, 13, 14, 15]) ?_
      refine zt [20] (by kernel_rfl) (by simp) (yF rfl ?_ zu)
      obtain ⟨G190, N, hn191, H⟩ := H.Xm 0 rfl N (H.awayN [3])
      try dsimp only [List.set] at H
      refine yg true H 2 rfl 4 rfl (.slice a185 ((yc (out_1[((((s.qf[i]!).qx)[k]!).qw).toNat]!) ((((s.qf[i]!).qx)[k]!).zF) ((xC s t)[i]!)).length) c186) 0 rfl rfl Tryz.sizeOf22 rfl rfl (i := (((((s.qf[i]!).qx)[k]!).qw).toNat)) (by omega) (by omega) (by simp) fun w189 xs192 F193 hs194 H => ?_
      replace N : Fresh w.heap.size [F193] := (N.pick [1, 0]).repl hs194
      try dsimp only [List.set] at H
      refine ⟨H.pick [1, 3, 4, 5, 6] [3, 4, 5, 6, 7, 8, 9, 10, 11, 12, 13, 14, 15, 16, 17], ?_⟩
      refine xZ (by kernel_rfl) (b_n (t_n ?_))
      refine qp ?_
      refine sp (.int .i64 k) ?_
      refine sw (zD k 1 rfl rfl (by omega) ?_)
      refine sp (.int .i64 (k + 1)) ?_
      refine qo ?_
      obtain ⟨bg195, e_bg195⟩ : ∃ z, z = (out_1.set (((((s.qf[i]!).qx)[k]!).qw).toNat) (yc (out_1[((((s.qf[i]!).qx)[k]!).qw).toNat]!) ((((s.qf[i]!).qx)[k]!).zF) ((xC s t)[i]!))) := ⟨_, rfl⟩
      rw [← e_bg195] at H
      have E_bg195 := Ent.add (D := 1000000) E_out_1 e_bg195 (by omega) (by first | exact bn1.mul (by omega) | exact bn2.mul (by omega) | exact bn3.mul (by omega) | exact bn4.mul (by omega)) (by omega)
      have z_bg195 := E_bg195.sh.1
      have E_cur := E_bg195
      refine xy (m' := ((((s.qf[i]!).qx).length) - ((k + 1) : Int)).toNat) (by omega) ⟨_, k + 1, bg195, xs192, F193, (by exact qj (qj (qj (qj (qj (qj (qj (qj (qj (qj (qj (qj (qj (rfl) rfl) rfl) rfl) rfl) rfl) rfl) rfl) rfl) rfl) rfl) rfl) rfl) rfl), ?_, ?_, ?_, rfl, N, H.pick [1, 2, 3, 4, 5, 6] [0, 6, 7, 8, 9, 10, 11, 12, 13, 14, 15, 16, 17]⟩
      · omega
      · exact E_cur.to (fun p q => by simp only [intoF]; omega) (by omega)
      · omega
     replace h168 := of_decide_eq_false h168
     refine zx (t_x (t_x (b_x (b_n (t_n (qp ?_))))))
     refine sp (.int .i64 i) ?_
     refine sw (zD i 1 rfl rfl (by omega) ?_)
     refine sp (.int .i64 (i + 1)) ?_
     refine qo ?_
     refine xy (m' := (((xC s t).length) - ((i + 1) : Int)).toNat) (by omega) ⟨_, a57, (yc took ((s.qf[i]!).qI) ((xC s t)[i]!)).length, c58, yc took ((s.qf[i]!).qI) ((xC s t)[i]!), i + 1, out_1, x_out_1, F_out_1, (by exact qj (qj (qj (qj (qj (qj (rfl) rfl) rfl) rfl) rfl) rfl) rfl), ?_, ?_, ?_, ?_, rfl, N, H.pick [1, 0, 3, 4, 5] [0, 8, 9, 10, 11, 12]⟩
     · omega
     · first | exact E_out.to (fun p q => by first | rw [puts_no (i := i) (by assumption)] | rw [puts_zero (i := i) (by assumption)]) (by omega) | exact E_out_1.to (fun p q => by rw [show k = ((s.qf[i]!).qx).length by omega, puts_yes (i := i) (by assumption)]; simp only [putF]; omega) (by omega)
     · omega
     · first | exact tk.plus bn1 (by omega) | exact tk.keep
    replace h44 := bne_iff_ne.1 h44
    refine xN [45, 46, 47, 48, 49] ?_
    refine sp (.bool true) ?_
    refine qo (t_n ?_)
    refine qP true rfl (fun _ => ?_) (fun h => absurd h (by decide))
    refine zx (t_x (b_x (t_n (qp ?_))))
    refine sp (.int .i64 i) ?_
    refine sw (zD i 1 rfl rfl (by omega) ?_)
    refine sp (.int .i64 (i + 1)) ?_
    refine qo ?_
    refine xy (m' := (((xC s t).length) - ((i + 1) : Int)).toNat) (by omega) ⟨_, a_took, n_took, c_took, took, i + 1, out, x_out, F_out, (by exact qj (qj (qj (qj (qj (qj (rfl) rfl) rfl) rfl) rfl) rfl) rfl), ?_, ?_, ?_, ?_, rfl, N, H.pick [0, 1, 2, 3, 4] [7, 8, 9, 10, 11, 12]⟩
    · omega
    · first | exact E_out.to (fun p q => by first | rw [puts_no (i := i) (by assumption)] | rw [puts_zero (i := i) (by assumption)]) (by omega) | exact E_out_1.to (fun p q => by rw [show k = ((s.qf[i]!).qx).length by omega, puts_yes (i := i) (by assumption)]; simp only [putF]; omega) (by omega)
    · omega
    · first | exact tk.plus bn1 (by omega) | exact tk.keep
   replace h39 := of_decide_eq_false h39
   refine zx (t_x (t_x (b_x (t_n (qh (qp ?_))))))
   refine sps [.slice a_took n_took c_took, .slice ra31 ((xW s (s.qg.length + 1)).length) rc31, .slice a_took n_took c_took, .slice ra31 ((xW s (s.qg.length + 1)).length) rc31] ?_
   refine qo (t_n (xh ?_))
   refine ret2 (.slice a_took n_took c_took) (.slice ra31 ((xW s (s.qg.length + 1)).length) rc31) rfl rfl rfl ⟨_, rfl, ?_⟩
   replace H := H.erases [2]
   dsimp only [Qr, List.eraseIdx] at H
   refine sps [.tuple #[.slice a_took n_took c_took, .slice ra31 ((xW s (s.qg.length + 1)).length) rc31], .slice a_took n_took c_took, .slice ra31 ((xW s (s.qg.length + 1)).length) rc31, .slice a_took n_took c_took, .slice ra31 ((xW s (s.qg.length + 1)).length) rc31] ?_
   refine qo (t_n (qh (qh (qp ?_))))
   refine sp (.slice ra31 ((xW s (s.qg.length + 1)).length) rc31) ?_
   obtain ⟨G196, hn197, h198⟩ := H.rowIsR (α := List Int) 0 rfl 0 rfl (by decide)
   refine sw (xm #[.slice ra31 ((xW s (s.qg.length + 1)).length) rc31] rfl rfl Tryz.call46 (args_eq (by rw [← hn197]) (l08Bags_ok w38 out ra31 rc31 G196 (hn197 ▸ h198))) ?_)
   rintro _ w200 rfl x201
   replace H := H.ext x201
   refine sp (.bool (!(dec (QL out out.length)))) ?_
   refine qo (t_n ?_)
   refine qP (!(dec (QL out out.length))) rfl (fun h202 => ?_) (fun h202 => ?_)
   ·skip
    replace h202 := qQ h202
    replace h202 := xP h202
    refine qh (qp ?_)
    refine sw (Qq H Tryz.underlying27 ti22 fun b203 w204 H => ?_)
    refine sps [.slice (aa b203 0) 0 0, .int .i64 3] ?_
    refine qo (t_n (xh (t_r ?_)))
    replace H := H.boxRow 0 rfl 1 0 rfl (by decide)
    try dsimp only [List.set] at H
    replace H := H.Qp (α := List Int)
    refine ret2 (.slice (aa b203 0) 0 0) (.int .i64 3) rfl rfl rfl ⟨_, rfl, ?_, H.base⟩
    rw [puts_3 (b := out) kq kc (E_out.to (fun p q => by rw [show i = s.qf.length by omega]) (Int.le_refl _)).tab (by assumption)]
    exact ⟨(aa b203 0), 0, 0, [], [], rfl, (N.emp.pick [0]), H.pick [0] [0]⟩
   replace h202 := qN h202
   replace h202 := vT h202
   refine xg (t_n (qh (qp ?_)))
   refine sps [.slice ra31 ((xW s (s.qg.length + 1)).length) rc31, .slice ra31 ((xW s (s.qg.length + 1)).length) rc31, .int .i64 0] ?_
   refine qo (t_n (xh ?_))
   refine ret2 (.slice ra31 ((xW s (s.qg.length + 1)).length) rc31) (.int .i64 0) rfl rfl rfl ⟨_, rfl, ?_, H.base⟩
   rw [puts_0 (b := out) kq kc (E_out.to (fun p q => by rw [show i = s.qf.length by omega]) (Int.le_refl _)).tab (by assumption)]
   exact ⟨ra31, (xW s (s.qg.length + 1)).length, rc31, x_out, F_out, rfl, N, H.pick [0] [0]⟩
  replace h11 := qQ h11
  replace h11 := xP h11
  refine xN [17, 18] ?_
  refine sp (.bool true) ?_
  refine qo (t_n ?_)
  refine qP true rfl (fun _ => ?_) (fun h => absurd h (by decide))
  refine qh (qp ?_)
  refine sw (Qq H Tryz.underlying27 ti22 fun b205 w206 H => ?_)
  refine sps [.slice (aa b205 0) 0 0, .int .i64 1] ?_
  refine qo (t_n (xh (t_r ?_)))
  replace H := H.boxRow 0 rfl 1 0 rfl (by decide)
  try dsimp only [List.set] at H
  replace H := H.Qp (α := List Int)
  refine ret2 (.slice (aa b205 0) 0 0) (.int .i64 1) rfl rfl rfl ⟨_, rfl, ?_, H.base⟩
  rw [puts_1 (fun h => by obtain ⟨z1, z2, z3, z4⟩ := h; first | contradiction | exact absurd (And.intro z3 z4) (by assumption) | exact absurd (And.intro (And.intro z1 z3) z4) (by assumption))]
  exact ⟨(aa b205 0), 0, 0, [], [], rfl, N.emp, H.pick [0] [0]⟩
 replace h7 := qQ h7
 replace h7 := xP h7
 refine xN [13, 14] ?_
 refine sps [.bool true, .bool true] ?_
 refine xN [17, 18] ?_
 refine sp (.bool true) ?_
 refine qo (t_n ?_)
 refine qP true rfl (fun _ => ?_) (fun h => absurd h (by decide))
 refine qh (qp ?_)
 refine sw (Qq H Tryz.underlying27 ti22 fun b207 w208 H => ?_)
 refine sps [.slice (aa b207 0) 0 0, .int .i64 1] ?_
 refine qo (t_n (xh (t_r ?_)))
 replace H := H.boxRow 0 rfl 1 0 rfl (by decide)
 try dsimp only [List.set] at H
 replace H := H.Qp (α := List Int)
 refine ret2 (.slice (aa b207 0) 0 0) (.int .i64 1) rfl rfl rfl ⟨_, rfl, ?_, H.base⟩
 rw [puts_1 (fun h => by obtain ⟨z1, z2, z3, z4⟩ := h; first | contradiction | exact absurd (And.intro z3 z4) (by assumption) | exact absurd (And.intro (And.intro z1 z3) z4) (by assumption))]
 exact ⟨(aa b207 0), 0, 0, [], [], rfl, N.emp, H.pick [0] [0]⟩

theorem indexB_ok (w : World) (l : List Bool) (x : Bool) (al : Option Addr) (cl : Nat) (Fl : List Nat) (hl : qM.rep w Fl [.slice al l.length cl] l) : Calls Tryz.prog 141 #[.slice al l.length cl, .bool x] w (Ret (fun v w' => v = .int .i64 (firstIdx (fun k => x == l[k]!) l.length)) w) := by
 refine enter (n := 19) Tryz.func141 rfl Tryz.ntmps141 (Nat.le_of_ble_eq_true rfl) ?_
 have H := (St.start w).arg hl
 have nhl := qJ hl
 clear hl
 have N := Fresh.nil w.heap.size
 refine qh (qp ?_)
 refine sp (.int .i64 0) ?_
 refine qo (t_n (qh (qh (qp ?_))))
 refine sp (.slice al l.length cl) ?_
 refine sw (zK Tryz.underlying26 al l.length cl rfl ?_)
 refine sp (.int .i64 0) ?_
 refine qo (t_n (xn ?_))
 refine zC (fun m' ρ w1 => ∃ (junk : Env) (i : Nat), ρ = upd (upd (upd (upd junk 0 (.slice al l.length cl)) 1 (.bool x)) 7 (.int .i64 l.length)) 8 (.int .i64 i) ∧ ((i : Int) ≤ l.length) ∧ (noneTo (fun k => x == l[k]!) i) ∧ m' = (l.length - (i : Int)).toNat ∧ Fresh w.heap.size [] ∧ St w w1 [] [isF false Fl (.slice al l.length cl) l]) ((l.length - (0 : Int)).toNat) ⟨_, 0, (by exact qj (qj (qj (qj (rfl) rfl) rfl) rfl) rfl), (by omega), (by exact fun j hj => by omega), rfl, N, H⟩ ?_
 clear H N
 rintro m' ρ w2 ⟨junk, i, rfl, i0, i1, rfl, N, H⟩
 refine qh (qp ?_)
 refine sp (.bool (decide ((i : Int) < l.length))) ?_
 refine qo (t_n (qh ?_))
 refine qP (decide ((i : Int) < l.length)) rfl (fun h3 => ?_) (fun h3 => ?_)
 ·skip
  replace h3 := of_decide_eq_true h3
  refine xg (t_n (qh (xn (qh (qp ?_)))))
  refine sps [.int .i64 i, .int .i64 i] ?_
  refine qo (t_n (qh (qp ?_)))
  refine sps [.bool x, .slice al l.length cl, .int .i64 i] ?_
  obtain ⟨b4, o5, rfl⟩ := H.addr 0 rfl (by omega)
  refine sw (xE i Tryz.underlying26 ti4 rfl rfl (by omega) (by omega) ?_)
  refine sw (qC (.bool (l[i]!)) Tryz.isAgg4 rfl (H.yU 0 rfl i (by omega) (by omega)) ?_)
  refine sw (o_eqB Tryz.underlying4 x (l[i]!) rfl rfl ?_)
  refine qo (t_n ?_)
  refine qP (x == (l[i]!)) rfl (fun h7 => ?_) (fun h7 => ?_)
  ·skip
   replace h7 := eq_of_beq h7
   refine qh (qp ?_)
   refine sps [.int .i64 i, .int .i64 i] ?_
   refine qo (t_n (xh (b_r (t_r (t_r (b_r (t_r ?_)))))))
   refine ret1 (.int .i64 i) rfl rfl ⟨_, rfl, ?_, H.base⟩
   rw [firstIdx_some (k := i) (by omega) i1 (by first | assumption | simpa using ‹x = l[i]!›)]
  replace h7 := ne_of_beq_false h7
  refine xg (b_n (t_n (qp ?_)))
  refine sw (zD i 1 rfl rfl (by omega) ?_)
  refine sp (.int .i64 (i + 1)) ?_
  refine qo ?_
  refine xy (m' := (l.length - ((i + 1) : Int)).toNat) (by omega) ⟨_, i + 1, (by exact qj (qj (qj (qj (rfl) rfl) rfl) rfl) rfl), ?_, ?_, rfl, N, H⟩
  · omega
  · exact noneTo_succ i1 (by first | assumption | simpa using ‹x ≠ l[i]!›)
 replace h3 := of_decide_eq_false h3
 refine zx (t_x (t_x (b_x (t_n (qh (qp ?_))))))
 refine sp (.int .i64 (-1)) ?_
 refine qo (t_n (xh ?_))
 refine ret1 (.int .i64 (-1)) rfl rfl ⟨_, rfl, ?_, H.base⟩
 rw [firstIdx_none (fun j hj => i1 j (by omega))]

theorem containsB_ok (w : World) (l : List Bool) (x : Bool) (al : Option Addr) (cl : Nat) (Fl : List Nat) (hl : qM.rep w Fl [.slice al l.length cl] l) : Calls Tryz.prog 91 #[.slice al l.length cl, .bool x] w (Ret (fun v w' => v = .bool (anyTo (fun k => x == l[k]!) l.length)) w) := by
 refine enter (n := 9) Tryz.func91 rfl Tryz.ntmps91 (Nat.le_of_ble_eq_true rfl) ?_
 have H := (St.start w).arg hl
 have nhl := qJ hl
 clear hl
 have N := Fresh.nil w.heap.size
 refine qh (qp ?_)
 refine sp (.bool false) ?_
 refine qo (t_n (qh (qp ?_)))
 refine sps [.slice al l.length cl, .bool x] ?_
 refine sw (xm #[.slice al l.length cl, .bool x] rfl rfl Tryz.call141 (indexB_ok w l x al cl Fl (H.get 0 rfl).1) ?_)
 rintro _ w2 rfl x3
 replace H := H.ext x3
 refine sps [.bool (decide ((firstIdx (fun k => x == l[k]!) l.length : Int) ≥ 0)), .bool (decide ((firstIdx (fun k => x == l[k]!) l.length : Int) ≥ 0))] ?_
 refine qo (t_n (xh ?_))
 refine ret1 (.bool (decide ((firstIdx (fun k => x == l[k]!) l.length : Int) ≥ 0))) rfl rfl ⟨_, rfl, ?_, H.base⟩
 rw [anyTo_first]

theorem isWhole_ok (w : World) (s : qR) (t : xF) (qm : Option Addr) (ql : Nat) (qL : List Nat) (qE : Option Addr) (qA : Nat) (xk : List Nat) (xu : Option Addr) (qZ : Nat) (xY : List Nat) (xB : Option Addr) (xx : Nat) (zG : List Nat) (qV : Option Addr) (qU : Nat) (xJ : List Nat) (qY : qM.rep w qL [.slice qm s.qg.length ql] s.qg) (xA : qM.rep w xk [.slice qE s.qf.length qA] s.qf) (zo : qM.rep w xY [.slice xu t.qy.length qZ] t.qy) (zT : qM.rep w zG [.slice xB t.qG.length xx] t.qG) (xR : qM.rep w xJ [.slice qV t.qB.length qU] t.qB) : Calls Tryz.prog 49 #[.agg #[.int .i64 s.qF, .slice qm s.qg.length ql, .slice qE s.qf.length qA], .agg #[.slice xu t.qy.length qZ, .slice xB t.qG.length xx, .slice qV t.qB.length qU]] w (Ret (fun v w' => v = .bool (dec ((Qj s ∧ zY s t) ∧ Whole t))) w) := by
 refine enter (n := 14) Tryz.func49 rfl Tryz.ntmps49 (Nat.le_of_ble_eq_true rfl) ?_
 have H := (((((St.start w).arg xR).arg zT).arg zo).arg xA).arg qY
 have zH := qJ qY
 have vN := qJ xA
 have QB := qJ zo
 have nhtBags := qJ zT
 have yS := qJ xR
 clear qY xA zo zT xR
 have N := Fresh.nil w.heap.size
 refine qh (qp ?_)
 refine sw (jy H [.int .i64 s.qF, .slice qm s.qg.length ql, .slice qE s.qf.length qA] fun b1 w2 H => ?_)
 refine sw (jy H [.slice xu t.qy.length qZ, .slice xB t.qG.length xx, .slice qV t.qB.length qU] fun b3 w4 H => ?_)
 refine sp (.bool false) ?_
 refine qo (t_n (qh (qp ?_)))
 refine sw (zn [.int .i64 s.qF, .slice qm s.qg.length ql, .slice qE s.qf.length qA] Tryz.isAgg36 Tryz.sizeOf36 rfl (qK (H.cells 1 rfl) 0 3) ?_)
 refine sw (zn [.slice xu t.qy.length qZ, .slice xB t.qG.length xx, .slice qV t.qB.length qU] Tryz.isAgg38 Tryz.sizeOf38 rfl (qK (H.cells 0 rfl) 0 3) ?_)
 refine sw (xm #[.agg #[.int .i64 s.qF, .slice qm s.qg.length ql, .slice qE s.qf.length qA], .agg #[.slice xu t.qy.length qZ, .slice xB t.qG.length xx, .slice qV t.qB.length qU]] rfl rfl Tryz.call76 (validState_ok w4 s t qm ql qL qE qA xk xu qZ xY xB xx zG qV qU xJ (H.get 0 rfl).1 (H.get 1 rfl).1 (H.get 2 rfl).1 (H.get 3 rfl).1 (H.get 4 rfl).1) ?_)
 rintro _ w6 rfl x7
 replace H := H.ext x7
 refine sp (.bool (dec (Qj s ∧ zY s t))) ?_
 cases h8 : (dec (Qj s ∧ zY s t))
 ·skip
  replace h8 := xP h8
  refine xN [9, 10, 11, 12] ?_
  refine sps [.bool false, .bool false] ?_
  refine qo (t_n (xh ?_))
  refine ret1 (.bool false) rfl rfl ⟨_, rfl, ?_, H.base⟩
  rw [xf (fun h => absurd h.1 (by assumption))]
 replace h8 := vT h8
 refine qO 8 rfl rfl ?_
 refine sw (qH b3 (0) 0 Tryz.underlying38 rfl rfl Tryz.sizeOf26 rfl ?_)
 refine qO 8 rfl rfl ?_
 refine sw (qC (.slice xu t.qy.length qZ) Tryz.isAgg26 rfl (H.cell 0 rfl rfl) ?_)
 refine qO 8 rfl rfl ?_
 refine sw (xm #[.slice xu t.qy.length qZ, .bool false] rfl rfl Tryz.call91 (containsB_ok w6 t.qy false xu qZ xY (H.get 2 rfl).1) ?_)
 rintro _ w10 rfl x11
 replace H := H.ext x11
 refine qO 8 rfl rfl ?_
 refine sps [.bool (!(anyTo (fun k => false == t.qy[k]!) t.qy.length)), .bool (!(anyTo (fun k => false == t.qy[k]!) t.qy.length)), .bool (!(anyTo (fun k => false == t.qy[k]!) t.qy.length))] ?_
 refine qo (t_n (xh ?_))
 refine ret1 (.bool (!(anyTo (fun k => false == t.qy[k]!) t.qy.length))) rfl rfl ⟨_, rfl, ?_, H.base⟩
 rw [whole_any]
 refine congrArg Value.bool (dec_eq ?_)
 rw [Bool.not_eq_true']
 exact ⟨fun h => ⟨by assumption, Classical.byContradiction fun x => by rw [jD x] at h; cases h⟩, fun h => xf fun x => x h.2⟩

theorem canMeltAny_ok (w : World) (s : qR) (qm : Option Addr) (ql : Nat) (qL : List Nat) (qE : Option Addr) (qA : Nat) (xk : List Nat) (qY : qM.rep w qL [.slice qm s.qg.length ql] s.qg) (xA : qM.rep w xk [.slice qE s.qf.length qA] s.qf) : Calls Tryz.prog 50 #[.agg #[.int .i64 s.qF, .slice qm s.qg.length ql, .slice qE s.qf.length qA]] w (Ret (fun v w' => v = .bool (dec (¬ Still s))) w) := by
 refine enter (n := 6) Tryz.func50 rfl Tryz.ntmps50 (Nat.le_of_ble_eq_true rfl) ?_
 have H := ((St.start w).arg xA).arg qY
 have zH := qJ qY
 have vN := qJ xA
 clear qY xA
 have N := Fresh.nil w.heap.size
 refine qh (qp ?_)
 refine sw (jy H [.int .i64 s.qF, .slice qm s.qg.length ql, .slice qE s.qf.length qA] fun b1 w2 H => ?_)
 refine sp (.bool false) ?_
 refine qo (t_n (qh (qp ?_)))
 refine sw (qH b1 (0) 2 Tryz.underlying36 rfl rfl Tryz.sizeOf34 rfl ?_)
 refine sw (qC (.slice qE s.qf.length qA) Tryz.isAgg34 rfl (H.cell 0 rfl rfl) ?_)
 refine sw (yw #[.slice qE s.qf.length qA, .func (.func 93) #[] #[]] rfl rfl Tryz.call92 ?_)
 refine enter (n := 9) Tryz.func92 rfl Tryz.ntmps92 (Nat.le_of_ble_eq_true rfl) ?_
 refine qh (qp ?_)
 refine sp (.bool false) ?_
 refine qo (t_n (qh (qp ?_)))
 refine sps [.slice qE s.qf.length qA, .func (.func 93) #[] #[]] ?_
 refine sw (yw #[.slice qE s.qf.length qA, .func (.func 93) #[] #[]] rfl rfl Tryz.call142 ?_)
 refine enter (n := 19) Tryz.func142 rfl Tryz.ntmps142 (Nat.le_of_ble_eq_true rfl) ?_
 refine qh (qp ?_)
 refine sp (.int .i64 0) ?_
 refine qo (t_n (qh (qh (qp ?_))))
 refine sp (.slice qE s.qf.length qA) ?_
 refine sw (zK Tryz.underlying34 qE s.qf.length qA rfl ?_)
 refine sp (.int .i64 0) ?_
 refine qo (t_n (xn ?_))
 refine zC (fun m' ρ w3 => ∃ (junk : Env) (i : Nat), ρ = upd (upd (upd (upd junk 0 (.slice qE s.qf.length qA)) 1 (.func (.func 93) #[] #[])) 7 (.int .i64 s.qf.length)) 8 (.int .i64 i) ∧ ((i : Int) ≤ s.qf.length) ∧ (StillTo s i) ∧ m' = (s.qf.length - (i : Int)).toNat ∧ Fresh w.heap.size [] ∧ St w w3 [.box b1 [.int .i64 s.qF, .slice qm s.qg.length ql, .slice qE s.qf.length qA] 36] [isF false qL (.slice qm s.qg.length ql) s.qg, isF false xk (.slice qE s.qf.length qA) s.qf]) ((s.qf.length - (0 : Int)).toNat) ⟨_, 0, (by exact qj (qj (qj (qj (rfl) rfl) rfl) rfl) rfl), (by omega), (by exact fun j hj => by omega), rfl, N, H⟩ ?_
 clear H N
 rintro m' ρ w4 ⟨junk, i, rfl, i0, i1, rfl, N, H⟩
 refine qh (qp ?_)
 refine sp (.bool (decide ((i : Int) < s.qf.length))) ?_
 refine qo (t_n (qh ?_))
 refine qP (decide ((i : Int) < s.qf.length)) rfl (fun h5 => ?_) (fun h5 => ?_)
 ·skip
  replace h5 := of_decide_eq_true h5
  refine xg (t_n (qh (xn (qh (qp ?_)))))
  refine sps [.int .i64 i, .int .i64 i] ?_
  refine qo (t_n (qh (qp ?_)))
  refine sps [.func (.func 93) #[] #[], .slice qE s.qf.length qA, .int .i64 i] ?_
  obtain ⟨b6, o7, rfl⟩ := H.addr 1 rfl (by omega)
  obtain ⟨ae9Need, ce9Need, Fe9Need, ae9Have, ce9Have, Fe9Have, ae9Lack, ce9Lack, Fe9Lack, ae9Here, ce9Here, Fe9Here, ae9Out, ce9Out, Fe9Out, ae9Into, ce9Into, Fe9Into, H⟩ := H.jv 1 rfl i i (by omega) (by omega) (by omega)
  refine sw (xE i Tryz.underlying34 ti110 rfl rfl (by omega) (by omega) ?_)
  refine sw (zn [.int .i64 ((s.qf[i]!).qw), .int .i64 ((s.qf[i]!).xM), .slice ae9Need (((s.qf[i]!).qI).length) ce9Need, .slice ae9Have (((s.qf[i]!).qW).length) ce9Have, .slice ae9Lack (((s.qf[i]!).qX).length) ce9Lack, .slice ae9Here (((s.qf[i]!).xe).length) ce9Here, .slice ae9Out (((s.qf[i]!).xO).length) ce9Out, .slice ae9Into (((s.qf[i]!).qx).length) ce9Into, .bool ((s.qf[i]!).xG)] Tryz.isAgg110 Tryz.sizeOf110 rfl (qK (H.get 6 rfl) 0 9) ?_)
  refine sw (yw #[.agg #[.int .i64 ((s.qf[i]!).qw), .int .i64 ((s.qf[i]!).xM), .slice ae9Need (((s.qf[i]!).qI).length) ce9Need, .slice ae9Have (((s.qf[i]!).qW).length) ce9Have, .slice ae9Lack (((s.qf[i]!).qX).length) ce9Lack, .slice ae9Here (((s.qf[i]!).xe).length) ce9Here, .slice ae9Out (((s.qf[i]!).xO).length) ce9Out, .slice ae9Into (((s.qf[i]!).qx).length) ce9Into, .bool ((s.qf[i]!).xG)]] rfl rfl Tryz.call93 ?_)
  refine enter (n := 5) Tryz.func93 rfl Tryz.ntmps93 (Nat.le_of_ble_eq_true rfl) ?_
  refine qh (qp ?_)
  refine sw (jy H [.int .i64 ((s.qf[i]!).qw), .int .i64 ((s.qf[i]!).xM), .slice ae9Need (((s.qf[i]!).qI).length) ce9Need, .slice ae9Have (((s.qf[i]!).qW).length) ce9Have, .slice ae9Lack (((s.qf[i]!).qX).length) ce9Lack, .slice ae9Here (((s.qf[i]!).xe).length) ce9Here, .slice ae9Out (((s.qf[i]!).xO).length) ce9Out, .slice ae9Into (((s.qf[i]!).qx).length) ce9Into, .bool ((s.qf[i]!).xG)] fun b10 w11 H => ?_)
  refine sp (.bool false) ?_
  refine qo (t_n (qh (qp ?_)))
  refine sw (qH b10 (0) 8 Tryz.underlying110 rfl rfl Tryz.sizeOf4 rfl ?_)
  refine sw (qC (.bool ((s.qf[i]!).xG)) Tryz.isAgg4 rfl (H.cell 0 rfl rfl) ?_)
  refine sp (.bool ((s.qf[i]!).xG)) ?_
  refine qo (t_n (xh ?_))
  refine ret1 (.bool ((s.qf[i]!).xG)) rfl rfl ⟨_, rfl, ?_⟩
  replace H := H.erases [0]
  dsimp only [Qr, List.eraseIdx] at H
  refine qo (t_n ?_)
  refine qP ((s.qf[i]!).xG) rfl (fun h12 => ?_) (fun h12 => ?_)
  ·skip
   refine qh (qp ?_)
   refine sps [.int .i64 i, .int .i64 i] ?_
   refine qo (t_n (xh (b_r (t_r (t_r (b_r (t_r ?_)))))))
   refine ret1 (.int .i64 i) rfl rfl ⟨_, rfl, ?_⟩
   refine sw (o_pure (.bool true) (by show some (Value.bool (decide ((i : Int) ≥ 0))) = some (Value.bool true); rw [decide_eq_true (by omega)]) ?_)
   refine sp (.bool true) ?_
   refine qo (t_n (xh ?_))
   refine ret1 (.bool true) rfl rfl ⟨_, rfl, ?_⟩
   refine sp (.bool true) ?_
   refine qo (t_n (xh ?_))
   refine ret1 (.bool true) rfl rfl ⟨_, rfl, ?_, H.base⟩
   rw [jD (fun h => ft (by assumption : (s.qf[i]!).xG = true) (h i (by omega)))]
  refine xg (b_n (t_n (qp ?_)))
  refine sw (zD i 1 rfl rfl (by omega) ?_)
  refine sp (.int .i64 (i + 1)) ?_
  refine qo ?_
  refine xy (m' := (s.qf.length - ((i + 1) : Int)).toNat) (by omega) ⟨_, i + 1, (by exact qj (qj (qj (qj (rfl) rfl) rfl) rfl) rfl), ?_, ?_, rfl, N, H.pick [0] [7, 8]⟩
  · omega
  · exact i1.succ (by assumption)
 replace h5 := of_decide_eq_false h5
 refine zx (t_x (t_x (b_x (t_n (qh (qp ?_))))))
 refine sp (.int .i64 (-1)) ?_
 refine qo (t_n (xh ?_))
 refine ret1 (.int .i64 (-1)) rfl rfl ⟨_, rfl, ?_⟩
 refine sps [.bool false, .bool false] ?_
 refine qo (t_n (xh ?_))
 refine ret1 (.bool false) rfl rfl ⟨_, rfl, ?_⟩
 refine sp (.bool false) ?_
 refine qo (t_n (xh ?_))
 refine ret1 (.bool false) rfl rfl ⟨_, rfl, ?_, H.base⟩
 rw [xf (fun x => x (fun j hj => i1 j (by omega)))]

theorem noBags_ok (w : World) (s : qR) (qm : Option Addr) (ql : Nat) (qL : List Nat) (qE : Option Addr) (qA : Nat) (xk : List Nat) (qY : qM.rep w qL [.slice qm s.qg.length ql] s.qg) (xA : qM.rep w xk [.slice qE s.qf.length qA] s.qf) (p0 : vZ s) : Calls Tryz.prog 96 #[.agg #[.int .i64 s.qF, .slice qm s.qg.length ql, .slice qE s.qf.length qA]] w (Ret (fun v w' => ∃ (ra : Option Addr) (rn : Nat) (rc : Nat) (rx : List Value) (rF : List Nat), v = .slice ra rn rc ∧ Fresh w.heap.size [rF] ∧ St w w' [.row (.slice ra rn rc) 22 1 rn rx] [jo true rF rx (xW s (s.qg.length + 1))]) w) := by
 refine enter (n := 18) Tryz.func96 rfl Tryz.ntmps96 (Nat.le_of_ble_eq_true rfl) ?_
 have H := ((St.start w).arg xA).arg qY
 have zH := qJ qY
 have vN := qJ xA
 clear qY xA
 have N := Fresh.nil w.heap.size
 have p1 := p0.1
 have p2 := p0.2.1
 refine qh (qp ?_)
 refine sw (jy H [.int .i64 s.qF, .slice qm s.qg.length ql, .slice qE s.qf.length qA] fun b1 w2 H => ?_)
 refine sp (.slice none 0 0) ?_
 refine qo (t_n (qh (qp ?_)))
 refine sw (Qq H Tryz.underlying27 ti22 fun b3 w4 H => ?_)
 refine sp (.slice (aa b3 0) 0 0) ?_
 refine qo (t_n (qh (qh (qp ?_))))
 refine sw (zn [.int .i64 s.qF, .slice qm s.qg.length ql, .slice qE s.qf.length qA] Tryz.isAgg36 Tryz.sizeOf36 rfl (qK (H.cells 1 rfl) 0 3) ?_)
 refine sw (xm #[.agg #[.int .i64 s.qF, .slice qm s.qg.length ql, .slice qE s.qf.length qA]] rfl rfl Tryz.call113 (around_ok w4 s qm ql qL qE qA xk (H.get 0 rfl).1 (H.get 1 rfl).1) ?_)
 rintro _ w6 rfl x7
 replace H := H.ext x7
 refine sw (zD s.qg.length 1 rfl rfl (by omega) ?_)
 refine sp (.int .i64 0) ?_
 refine qo (t_n (xn ?_))
 replace H := H.boxRow 0 rfl 1 0 rfl (by decide)
 try dsimp only [List.set] at H
 replace H := H.Qp (α := List Int)
 refine zC (fun m' ρ w8 => ∃ (junk : Env) (yl : Option Addr) (vO : Nat) (jK : Nat) (out : List (List Int)) (x_out : List Value) (F_out : List Nat) (k : Nat), ρ = upd (upd (upd (upd junk 1 (pp b1 0)) 3 (.slice yl vO jK)) 7 (.int .i64 (s.qg.length + 1))) 8 (.int .i64 k) ∧ out = xW s k ∧ ((k : Int) ≤ (s.qg.length + 1)) ∧ m' = ((s.qg.length + 1) - (k : Int)).toNat ∧ Fresh w.heap.size [F_out] ∧ St w w8 [.row (.slice yl vO jK) 22 1 vO x_out, .box b1 [.int .i64 s.qF, .slice qm s.qg.length ql, .slice qE s.qf.length qA] 36] [jo true F_out x_out out, isF false qL (.slice qm s.qg.length ql) s.qg, isF false xk (.slice qE s.qf.length qA) s.qf]) (((s.qg.length + 1) - (0 : Int)).toNat) ⟨_, (aa b3 0), 0, 0, ([] : List (List Int)), [], [], 0, (by exact qj (qj (qj (qj (rfl) rfl) rfl) rfl) rfl), (by rfl), (by omega), rfl, N.emp, H⟩ ?_
 clear H N
 rintro m' ρ w9 ⟨junk, yl, vO, jK, out, x_out, F_out, k, rfl, rfl, i0, rfl, N, H⟩
 have hn_out := H.jB (α := List Int) 0 rfl 0 rfl (by decide)
 have zl := zeros_len s k
 refine qh (qp ?_)
 refine sp (.bool (decide ((k : Int) < (s.qg.length + 1)))) ?_
 refine qo (t_n (qh ?_))
 refine qP (decide ((k : Int) < (s.qg.length + 1))) rfl (fun h10 => ?_) (fun h10 => ?_)
 ·skip
  replace h10 := of_decide_eq_true h10
  refine xg (t_n (qh (xn (qp ?_))))
  refine sp (.slice yl vO jK) ?_
  refine sw (qH b1 (0) 0 Tryz.underlying36 rfl rfl Tryz.sizeOf2 rfl ?_)
  refine sw (qC (.int .i64 s.qF) Tryz.isAgg2 rfl (H.cell 1 rfl rfl) ?_)
  refine sw (o_makeI H Tryz.underlying22 ti2 s.qF.toNat rfl rfl (by omega) (by omega) (by omega) fun b11 w12 H => ?_)
  refine sw (o_build1C H Tryz.underlying27 ti22 [.slice (aa b11 0) s.qF.toNat s.qF.toNat] fun b13 w14 H => ?_)
  obtain ⟨G18, N, hn19, H⟩ := H.Xm 1 rfl N (H.awayN [0])
  try dsimp only [List.set] at H
  refine sw (o_appendR H 2 rfl 0 rfl Tryz.underlying27 ti22 rfl (by decide) rfl rfl rfl (by simp [Value.oneCell', Value.cells]) (by unfold maxLen; omega) (by omega) fun a15 c16 w17 H => ?_)
  try dsimp only [List.set] at H
  replace H := H.repsSnoc 1 rfl 0 rfl
  replace N : Fresh w.heap.size [(F_out ++ G18)] := (N.pick [1, 0]).join
  refine sp (.slice a15 (vO + 1) c16) ?_
  refine qo (b_n (t_n (qp ?_)))
  refine sw (zD k 1 rfl rfl (by omega) ?_)
  refine sp (.int .i64 (k + 1)) ?_
  refine qo ?_
  refine xy (m' := ((s.qg.length + 1) - ((k + 1) : Int)).toNat) (by omega) ⟨_, a15, vO + 1, c16, ((xW s k) ++ [(List.replicate s.qF.toNat (0 : Int))]), x_out ++ [.slice (aa b11 0) s.qF.toNat s.qF.toNat], (F_out ++ G18), k + 1, (by exact qj (qj (qj (qj (rfl) rfl) rfl) rfl) rfl), ?_, ?_, rfl, N, H.pick [2, 3] [0, 3, 4]⟩
  · exact zeros_snoc s k
  · omega
 replace h10 := of_decide_eq_false h10
 refine zx (t_x (t_x (b_x (t_n (qh (qp ?_))))))
 refine sps [.slice yl vO jK, .slice yl vO jK] ?_
 refine qo (t_n (xh ?_))
 refine ret1 (.slice yl vO jK) rfl rfl ⟨_, rfl, ?_, H.base⟩
 obtain rfl : k = s.qg.length + 1 := by omega
 exact ⟨yl, vO, jK, x_out, F_out, rfl, N, H.pick [0] [0]⟩

theorem isBag_ok (w : World) (l : List Int) (al : Option Addr) (cl : Nat) (Fl : List Nat) (hl : qM.rep w Fl [.slice al l.length cl] l) : Calls Tryz.prog 103 #[.slice al l.length cl] w (Ret (fun v w' => v = .bool (dec (BagAny l))) w) := by
 refine enter (n := 7) Tryz.func103 rfl Tryz.ntmps103 (Nat.le_of_ble_eq_true rfl) ?_
 have H := (St.start w).arg hl
 have nhl := qJ hl
 clear hl
 have N := Fresh.nil w.heap.size
 refine qh (qp ?_)
 refine sp (.bool false) ?_
 refine qo (t_n (qh (qp ?_)))
 refine sp (.slice al l.length cl) ?_
 refine sw (xm #[.slice al l.length cl] rfl rfl Tryz.call95 (sizeI_ok w l al cl Fl (H.get 0 rfl).1) ?_)
 rintro _ w1 rfl x2
 replace H := H.ext x2
 refine sp (.slice al l.length cl) ?_
 refine sw (xm #[.int .i64 (l.length : Int), .slice al l.length cl] rfl rfl Tryz.call123 (Xl w1 (l.length : Int) l al cl Fl (H.get 0 rfl).1) ?_)
 rintro _ w3 rfl x4
 replace H := H.ext x4
 refine sp (.bool (dec (zi (l.length : Int) l))) ?_
 refine qo (t_n (xh ?_))
 refine ret1 (.bool (dec (zi (l.length : Int) l))) rfl rfl ⟨_, rfl, ?_, H.base⟩
 rw [dec_congr bagAny_ok]

theorem areBags_ok (w : World) (l : List (List Int)) (al : Option Addr) (cl : Nat) (Fl : List Nat) (hl : qM.rep w Fl [.slice al l.length cl] l) : Calls Tryz.prog 54 #[.slice al l.length cl] w (Ret (fun v w' => v = .bool (dec (QL l l.length))) w) := by
 refine enter (n := 6) Tryz.func54 rfl Tryz.ntmps54 (Nat.le_of_ble_eq_true rfl) ?_
 have H := (St.start w).arg hl
 have nhl := qJ hl
 clear hl
 have N := Fresh.nil w.heap.size
 refine qh (qp ?_)
 refine sp (.bool false) ?_
 refine qo (t_n (qh (qp ?_)))
 refine sp (.slice al l.length cl) ?_
 refine sw (yw #[.slice al l.length cl, .func (.func 102) #[] #[]] rfl rfl Tryz.call101 ?_)
 refine enter (n := 9) Tryz.func101 rfl Tryz.ntmps101 (Nat.le_of_ble_eq_true rfl) ?_
 refine qh (qp ?_)
 refine sp (.bool false) ?_
 refine qo (t_n (qh (qp ?_)))
 refine sps [.slice al l.length cl, .func (.func 102) #[] #[]] ?_
 refine sw (yw #[.slice al l.length cl, .func (.func 102) #[] #[]] rfl rfl Tryz.call147 ?_)
 refine enter (n := 19) Tryz.func147 rfl Tryz.ntmps147 (Nat.le_of_ble_eq_true rfl) ?_
 refine qh (qp ?_)
 refine sp (.int .i64 0) ?_
 refine qo (t_n (qh (qh (qp ?_))))
 refine sp (.slice al l.length cl) ?_
 refine sw (zK Tryz.underlying27 al l.length cl rfl ?_)
 refine sp (.int .i64 0) ?_
 refine qo (t_n (xn ?_))
 refine zC (fun m' ρ w1 => ∃ (junk : Env) (i : Nat), ρ = upd (upd (upd (upd junk 0 (.slice al l.length cl)) 1 (.func (.func 102) #[] #[])) 7 (.int .i64 l.length)) 8 (.int .i64 i) ∧ ((i : Int) ≤ l.length) ∧ (QL l i) ∧ m' = (l.length - (i : Int)).toNat ∧ Fresh w.heap.size [] ∧ St w w1 [] [isF false Fl (.slice al l.length cl) l]) ((l.length - (0 : Int)).toNat) ⟨_, 0, (by exact qj (qj (qj (qj (rfl) rfl) rfl) rfl) rfl), (by omega), (by exact fun j hj => by omega), rfl, N, H⟩ ?_
 clear H N
 rintro m' ρ w2 ⟨junk, i, rfl, i0, i1, rfl, N, H⟩
 refine qh (qp ?_)
 refine sp (.bool (decide ((i : Int) < l.length))) ?_
 refine qo (t_n (qh ?_))
 refine qP (decide ((i : Int) < l.length)) rfl (fun h3 => ?_) (fun h3 => ?_)
 ·skip
  replace h3 := of_decide_eq_true h3
  refine xg (t_n (qh (xn (qh (qp ?_)))))
  refine sps [.int .i64 i, .int .i64 i] ?_
  refine qo (t_n (qh (qp ?_)))
  refine sps [.func (.func 102) #[] #[], .slice al l.length cl, .int .i64 i] ?_
  obtain ⟨b4, o5, rfl⟩ := H.addr 0 rfl (by omega)
  obtain ⟨ae7, ce7, Fe7, H⟩ := H.Xk 0 rfl i i (by omega) (by omega) (by omega)
  refine sw (xE i Tryz.underlying27 ti22 rfl rfl (by omega) (by omega) ?_)
  refine sw (qC (.slice ae7 ((l[i]!).length) ce7) Tryz.isAgg22 rfl (H.xU 1 rfl 0 rfl) ?_)
  refine sw (yw #[.slice ae7 ((l[i]!).length) ce7] rfl rfl Tryz.call102 ?_)
  refine enter (n := 6) Tryz.func102 rfl Tryz.ntmps102 (Nat.le_of_ble_eq_true rfl) ?_
  refine qh (qp ?_)
  refine sp (.bool false) ?_
  refine qo (t_n (qh (qp ?_)))
  refine sp (.slice ae7 ((l[i]!).length) ce7) ?_
  refine sw (xm #[.slice ae7 ((l[i]!).length) ce7] rfl rfl Tryz.call103 (isBag_ok w2 (l[i]!) ae7 ce7 Fe7 (H.get 0 rfl).1) ?_)
  rintro _ w9 rfl x10
  replace H := H.ext x10
  refine sps [.bool (!(dec (BagAny (l[i]!)))), .bool (!(dec (BagAny (l[i]!))))] ?_
  refine qo (t_n (xh ?_))
  refine ret1 (.bool (!(dec (BagAny (l[i]!))))) rfl rfl ⟨_, rfl, ?_⟩
  refine qo (t_n ?_)
  refine qP (!(dec (BagAny (l[i]!)))) rfl (fun h11 => ?_) (fun h11 => ?_)
  ·skip
   replace h11 := qQ h11
   replace h11 := xP h11
   refine qh (qp ?_)
   refine sps [.int .i64 i, .int .i64 i] ?_
   refine qo (t_n (xh (b_r (t_r (t_r (b_r (t_r ?_)))))))
   refine ret1 (.int .i64 i) rfl rfl ⟨_, rfl, ?_⟩
   refine sw (o_pure (.bool true) (by show some (Value.bool (decide ((i : Int) ≥ 0))) = some (Value.bool true); rw [decide_eq_true (by omega)]) ?_)
   refine sp (.bool true) ?_
   refine qo (t_n (xh ?_))
   refine ret1 (.bool true) rfl rfl ⟨_, rfl, ?_⟩
   refine sps [.bool false, .bool false] ?_
   refine qo (t_n (xh ?_))
   refine ret1 (.bool false) rfl rfl ⟨_, rfl, ?_, H.base⟩
   rw [xf (fun h => absurd (h i (by omega)) (by assumption))]
  replace h11 := qN h11
  replace h11 := vT h11
  refine xg (b_n (t_n (qp ?_)))
  refine sw (zD i 1 rfl rfl (by omega) ?_)
  refine sp (.int .i64 (i + 1)) ?_
  refine qo ?_
  refine xy (m' := (l.length - ((i + 1) : Int)).toNat) (by omega) ⟨_, i + 1, (by exact qj (qj (qj (qj (rfl) rfl) rfl) rfl) rfl), ?_, ?_, rfl, N, H.pick [] [2]⟩
  · omega
  · exact i1.succ (by assumption)
 replace h3 := of_decide_eq_false h3
 refine zx (t_x (t_x (b_x (t_n (qh (qp ?_))))))
 refine sp (.int .i64 (-1)) ?_
 refine qo (t_n (xh ?_))
 refine ret1 (.int .i64 (-1)) rfl rfl ⟨_, rfl, ?_⟩
 refine sps [.bool false, .bool false] ?_
 refine qo (t_n (xh ?_))
 refine ret1 (.bool false) rfl rfl ⟨_, rfl, ?_⟩
 refine sps [.bool true, .bool true] ?_
 refine qo (t_n (xh ?_))
 refine ret1 (.bool true) rfl rfl ⟨_, rfl, ?_, H.base⟩
 rw [jD (show QL l l.length from fun j hj => i1 j (by omega))]

theorem puts_ok (w : World) (s : qR) (t : xF) (counts : List Int) (cell : Int) (qm : Option Addr) (ql : Nat) (qL : List Nat) (qE : Option Addr) (qA : Nat) (xk : List Nat) (xu : Option Addr) (qZ : Nat) (xY : List Nat) (xB : Option Addr) (xx : Nat) (zG : List Nat) (qV : Option Addr) (qU : Nat) (xJ : List Nat) (acounts : Option Addr) (ccounts : Nat) (Fcounts : List Nat) (qY : qM.rep w qL [.slice qm s.qg.length ql] s.qg) (xA : qM.rep w xk [.slice qE s.qf.length qA] s.qf) (zo : qM.rep w xY [.slice xu t.qy.length qZ] t.qy) (zT : qM.rep w zG [.slice xB t.qG.length xx] t.qG) (xR : qM.rep w xJ [.slice qV t.qB.length qU] t.qB) (hcounts : qM.rep w Fcounts [.slice acounts counts.length ccounts] counts) (p0 : Qj s) (p1 : zY s t) (p2 : CntOk s counts) : Calls Tryz.prog 52 #[.agg #[.int .i64 s.qF, .slice qm s.qg.length ql, .slice qE s.qf.length qA], .agg #[.slice xu t.qy.length qZ, .slice xB t.qG.length xx, .slice qV t.qB.length qU], .slice acounts counts.length ccounts, .int .i64 cell] w (Ret (fun v w' => ∃ (ra : Option Addr) (rn : Nat) (rc : Nat) (rx : List Value) (rF : List Nat), v = .slice ra rn rc ∧ Fresh w.heap.size [rF] ∧ St w w' [.row (.slice ra rn rc) 22 1 rn rx] [jo true rF rx (putsL s t counts cell)]) w) := by
 refine enter (n := 39) Tryz.func52 rfl Tryz.ntmps52 (Nat.le_of_ble_eq_true rfl) ?_
 have H := ((((((St.start w).arg hcounts).arg xR).arg zT).arg zo).arg xA).arg qY
 have zH := qJ qY
 have vN := qJ xA
 have QB := qJ zo
 have nhtBags := qJ zT
 have yS := qJ xR
 have nhcounts := qJ hcounts
 clear qY xA zo zT xR hcounts
 have N := Fresh.nil w.heap.size
 have p5 := p0.2.1
 have p6 := p2.1
 have p7 := p1.2.1
 have p8 := kinds_le p0
 have p9 := p0.1.2.1
 have p12 := p1.1
 have p15 := p0.1
 have p16 := p0.1.1
 refine qh (qp ?_)
 refine sw (jy H [.int .i64 s.qF, .slice qm s.qg.length ql, .slice qE s.qf.length qA] fun b1 w2 H => ?_)
 refine sw (jy H [.slice xu t.qy.length qZ, .slice xB t.qG.length xx, .slice qV t.qB.length qU] fun b3 w4 H => ?_)
 refine sp (.slice none 0 0) ?_
 refine qo (t_n (qh (qp ?_)))
 refine sw (zn [.int .i64 s.qF, .slice qm s.qg.length ql, .slice qE s.qf.length qA] Tryz.isAgg36 Tryz.sizeOf36 rfl (qK (H.cells 1 rfl) 0 3) ?_)
 have sz8 := H.base.size
 refine sw (xm #[.agg #[.int .i64 s.qF, .slice qm s.qg.length ql, .slice qE s.qf.length qA]] rfl rfl Tryz.call96 (noBags_ok w4 s qm ql qL qE qA xk (H.get 0 rfl).1 (H.get 1 rfl).1 (by first | assumption | omega)) ?_)
 rintro _ w6 ⟨ra5, rn5, rc5, rx5, rF5, rfl, M, K⟩ _
 replace N := N.merge sz8 (by simp) M
 replace H := H.merge K M
 dsimp only [List.cons_append, List.nil_append] at H
 obtain rfl := H.jB (α := List Int) 0 rfl 0 rfl (by decide)
 refine sp (.slice ra5 ((xW s (s.qg.length + 1)).length) rc5) ?_
 refine qo (t_n (qh (qh (qp ?_))))
 refine sp (.slice acounts counts.length ccounts) ?_
 refine sw (zK Tryz.underlying22 acounts counts.length ccounts rfl ?_)
 refine sp (.int .i64 0) ?_
 refine qo (t_n (xn ?_))
 refine zC (fun m' ρ w11 => ∃ (junk : Env) (i : Nat) (bags : List (List Int)) (x_bags : List Value) (F_bags : List Nat), ρ = upd (upd (upd (upd (upd (upd (upd junk 3 (.int .i64 cell)) 4 (pp b1 0)) 5 (pp b3 0)) 9 (.slice ra5 ((xW s (s.qg.length + 1)).length) rc5)) 15 (.slice acounts counts.length ccounts)) 16 (.int .i64 counts.length)) 17 (.int .i64 i) ∧ ((i : Int) ≤ counts.length) ∧ (Ent (s.qg.length + 1) (yQ s) (fun p q => putsOf s t counts cell i p q) (1000 + 6000000 * i) bags) ∧ (bags.length = s.qg.length + 1) ∧ m' = (counts.length - (i : Int)).toNat ∧ Fresh w.heap.size [F_bags] ∧ St w w11 [.row (.slice ra5 ((xW s (s.qg.length + 1)).length) rc5) 22 1 ((xW s (s.qg.length + 1)).length) x_bags, .box b3 [.slice xu t.qy.length qZ, .slice xB t.qG.length xx, .slice qV t.qB.length qU] 38, .box b1 [.int .i64 s.qF, .slice qm s.qg.length ql, .slice qE s.qf.length qA] 36] [jo true F_bags x_bags bags, isF false qL (.slice qm s.qg.length ql) s.qg, isF false xk (.slice qE s.qf.length qA) s.qf, isF false xY (.slice xu t.qy.length qZ) t.qy, isF false zG (.slice xB t.qG.length xx) t.qG, isF false xJ (.slice qV t.qB.length qU) t.qB, isF false Fcounts (.slice acounts counts.length ccounts) counts]) ((counts.length - (0 : Int)).toNat) ⟨_, 0, xW s (s.qg.length + 1), rx5, rF5, (by exact qj (qj (qj (qj (qj (qj (qj (rfl) rfl) rfl) rfl) rfl) rfl) rfl) rfl), (by omega), (by exact (zeros_ent (B := 0) (by omega)).to (fun _ _ => rfl) (by omega)), (by rw [zeros_len]), rfl, N, H⟩ ?_
 clear H N
 rintro m' ρ w12 ⟨junk, i, bags, x_bags, F_bags, rfl, i0, E_bags, z_bags, rfl, N, H⟩
 have hn_bags := H.jB (α := List Int) 0 rfl 0 rfl (by decide)
 refine qh (qp ?_)
 refine sp (.bool (decide ((i : Int) < counts.length))) ?_
 refine qo (t_n (qh ?_))
 refine qP (decide ((i : Int) < counts.length)) rfl (fun h13 => ?_) (fun h13 => ?_)
 ·skip
  replace h13 := of_decide_eq_true h13
  have q := p0.rule (i := i) (by omega)
  have qc := q.1
  have qk := q.cell
  have qr := q.2.1
  have bn1 := q.2.2.2.2.1
  have bn2 := q.2.2.2.2.2.2.2.1
  have bn3 := q.2.2.2.2.2.2.2.2.1
  have ln1 := bn1.len
  have ln2 := bn2.len
  have ln3 := bn3.len
  have p10 := p2.bd (i := i) (by omega)
  have qn := q.2.2.2.1
  refine xg (t_n (qh (xn (qh (qp ?_)))))
  refine sp (.int .i64 i) ?_
  obtain ⟨b14, o15, rfl⟩ := H.addr 6 rfl (by omega)
  refine sw (xE i Tryz.underlying22 ti2 rfl rfl (by omega) (by omega) ?_)
  refine sw (qC (.int .i64 (counts[i]!)) Tryz.isAgg2 rfl (H.vH 6 rfl i (by omega) (by omega)) ?_)
  refine sps [.int .i64 i, .int .i64 (counts[i]!)] ?_
  refine qo (t_n (qh (qp ?_)))
  refine sw (qH b1 (0) 2 Tryz.underlying36 rfl rfl Tryz.sizeOf34 rfl ?_)
  refine sw (qC (.slice qE s.qf.length qA) Tryz.isAgg34 rfl (H.cell 2 rfl rfl) ?_)
  refine sp (.int .i64 i) ?_
  obtain ⟨b17, o18, rfl⟩ := H.addr 2 rfl (by omega)
  obtain ⟨QV, QS, Fe20Need, QX, QU, Fe20Have, QW, QT, Fe20Lack, yM, yJ, Fe20Here, yH, yG, Fe20Out, yA, yz, Fe20Into, H⟩ := H.jv 2 rfl i i (by omega) (by omega) (by omega)
  refine sw (xE i Tryz.underlying34 ti110 rfl rfl (by omega) (by omega) ?_)
  refine sw (zn [.int .i64 ((s.qf[i]!).qw), .int .i64 ((s.qf[i]!).xM), .slice QV (((s.qf[i]!).qI).length) QS, .slice QX (((s.qf[i]!).qW).length) QU, .slice QW (((s.qf[i]!).qX).length) QT, .slice yM (((s.qf[i]!).xe).length) yJ, .slice yH (((s.qf[i]!).xO).length) yG, .slice yA (((s.qf[i]!).qx).length) yz, .bool ((s.qf[i]!).xG)] Tryz.isAgg110 Tryz.sizeOf110 rfl (qK (H.get 6 rfl) 0 9) ?_)
  refine sw (QP H ti110 [.int .i64 0, .int .i64 0, .slice none 0 0, .slice none 0 0, .slice none 0 0, .slice none 0 0, .slice none 0 0, .slice none 0 0, .bool false] fun b21 w22 H => ?_)
  refine sw (QO H 0 [.int .i64 ((s.qf[i]!).qw), .int .i64 ((s.qf[i]!).xM), .slice QV (((s.qf[i]!).qI).length) QS, .slice QX (((s.qf[i]!).qW).length) QU, .slice QW (((s.qf[i]!).qX).length) QT, .slice yM (((s.qf[i]!).xe).length) yJ, .slice yH (((s.qf[i]!).xO).length) yG, .slice yA (((s.qf[i]!).qx).length) yz, .bool ((s.qf[i]!).xG)] Tryz.sizeOf110 fun w23 H => ?_)
  try dsimp only [List.set] at H
  refine qo (t_n (qh (qp ?_)))
  refine sw (qH b21 (0) 0 Tryz.underlying110 rfl rfl Tryz.sizeOf2 rfl ?_)
  refine sw (qC (.int .i64 ((s.qf[i]!).qw)) Tryz.isAgg2 rfl (H.cell 0 rfl rfl) ?_)
  refine sps [.int .i64 cell, .bool (((s.qf[i]!).qw : Int) == cell)] ?_
  refine qo (t_n ?_)
  refine qP (((s.qf[i]!).qw : Int) == cell) rfl (fun h24 => ?_) (fun h24 => ?_)
  ·skip
   replace h24 := eq_of_beq h24
   refine qp ?_
   refine sw (zn [.int .i64 s.qF, .slice qm s.qg.length ql, .slice (aa b17 o18) s.qf.length qA] Tryz.isAgg36 Tryz.sizeOf36 rfl (qK (H.cells 3 rfl) 0 3) ?_)
   refine sw (zn [.slice xu t.qy.length qZ, .slice xB t.qG.length xx, .slice qV t.qB.length qU] Tryz.isAgg38 Tryz.sizeOf38 rfl (qK (H.cells 2 rfl) 0 3) ?_)
   refine sp (.slice ra5 ((xW s (s.qg.length + 1)).length) rc5) ?_
   refine sw (zn [.int .i64 ((s.qf[i]!).qw), .int .i64 ((s.qf[i]!).xM), .slice QV (((s.qf[i]!).qI).length) QS, .slice QX (((s.qf[i]!).qW).length) QU, .slice QW (((s.qf[i]!).qX).length) QT, .slice yM (((s.qf[i]!).xe).length) yJ, .slice yH (((s.qf[i]!).xO).length) yG, .slice yA (((s.qf[i]!).qx).length) yz, .bool ((s.qf[i]!).xG)] Tryz.isAgg110 Tryz.sizeOf110 rfl (qK (H.cells 0 rfl) 0 9) ?_)
   refine sp (.int .i64 (counts[i]!)) ?_
   refine sw (yw #[.agg #[.int .i64 s.qF, .slice qm s.qg.length ql, .slice (aa b17 o18) s.qf.length qA], .agg #[.slice xu t.qy.length qZ, .slice xB t.qG.length xx, .slice qV t.qB.length qU], .slice ra5 ((xW s (s.qg.length + 1)).length) rc5, .agg #[.int .i64 ((s.qf[i]!).qw), .int .i64 ((s.qf[i]!).xM), .slice QV (((s.qf[i]!).qI).length) QS, .slice QX (((s.qf[i]!).qW).length) QU, .slice QW (((s.qf[i]!).qX).length) QT, .slice yM (((s.qf[i]!).xe).length) yJ, .slice yH (((s.qf[i]!).xO).length) yG, .slice yA (((s.qf[i]!).qx).length) yz, .bool ((s.qf[i]!).xG)], .int .i64 (counts[i]!)] rfl rfl Tryz.call97 ?_)
   refine enter (n := 53) Tryz.func97 rfl Tryz.ntmps97 (Nat.le_of_ble_eq_true rfl) ?_
   refine qh (qp ?_)
   refine sw (jy H [.int .i64 s.qF, .slice qm s.qg.length ql, .slice (aa b17 o18) s.qf.length qA] fun b25 w26 H => ?_)
   refine sw (jy H [.slice xu t.qy.length qZ, .slice xB t.qG.length xx, .slice qV t.qB.length qU] fun b27 w28 H => ?_)
   refine sw (jy H [.slice ra5 ((xW s (s.qg.length + 1)).length) rc5] fun b29 w30 H => ?_)
   refine sw (jy H [.int .i64 ((s.qf[i]!).qw), .int .i64 ((s.qf[i]!).xM), .slice QV (((s.qf[i]!).qI).length) QS, .slice QX (((s.qf[i]!).qW).length) QU, .slice QW (((s.qf[i]!).qX).length) QT, .slice yM (((s.qf[i]!).xe).length) yJ, .slice yH (((s.qf[i]!).xO).length) yG, .slice yA (((s.qf[i]!).qx).length) yz, .bool ((s.qf[i]!).xG)] fun b31 w32 H => ?_)
   refine sw (jy H [.int .i64 (counts[i]!)] fun b33 w34 H => ?_)
   refine qo (t_n (qh (qp ?_)))
   refine sps [.func (.func 143) #[] #[pp b29 0, pp b33 0], .func (.func 143) #[] #[pp b29 0, pp b33 0]] ?_
   refine qo (t_n (qh (qp ?_)))
   refine sp (.func (.func 143) #[] #[pp b29 0, pp b33 0]) ?_
   refine sw (qH b31 (0) 0 Tryz.underlying110 rfl rfl Tryz.sizeOf2 rfl ?_)
   refine sw (qC (.int .i64 ((s.qf[i]!).qw)) Tryz.isAgg2 rfl (H.cell 1 rfl rfl) ?_)
   refine sw (qH b31 (0) 5 Tryz.underlying110 rfl rfl Tryz.sizeOf22 rfl ?_)
   refine sw (qC (.slice yM (((s.qf[i]!).xe).length) yJ) Tryz.isAgg22 rfl (H.cell 1 rfl rfl) ?_)
   refine sw (yw #[.int .i64 ((s.qf[i]!).qw), .slice yM (((s.qf[i]!).xe).length) yJ, pp b29 0, pp b33 0] rfl rfl Tryz.call143 ?_)
   refine enter (n := 16) Tryz.func143 rfl Tryz.ntmps143 (Nat.le_of_ble_eq_true rfl) ?_
   refine QI rfl H [0, 1, 2, 3, 4, 5, 7, 8] fun H => ?_
   have S := H.QN [0, 1, 2, 3, 4, 5, 7, 8] [0, 1, 2, 3, 4, 5, 6, 7, 8, 9, 10, 11, 12, 13]
   refine rt 0 (.slice ra5 ((xW s (s.qg.length + 1)).length) rc5) (xw Tryz.isAgg27 rfl (fun _ h => h.cell 2 rfl rfl)) S ?_
   refine rtp 1 (.int .i64 ((s.qf[i]!).qw)) S ?_
   refine rt 2 (.slice ra5 ((xW s (s.qg.length + 1)).length) rc5) (xw Tryz.isAgg27 rfl (fun _ h => h.cell 2 rfl rfl)) S ?_
   refine rtp 3 (.int .i64 ((s.qf[i]!).qw)) S ?_
   obtain ⟨b36, rfl⟩ := H.rowAddr 6 rfl (by omega)
   have S := H.QN [0, 1, 2, 3, 4, 5, 7, 8] [0, 1, 2, 3, 4, 5, 6, 7, 8, 9, 10, 11, 12, 13]
   refine rt 4 (pp b36 (0 + ((s.qf[i]!).qw : Int).toNat * 1)) (xQ b36 (0) ((xW s (s.qg.length + 1)).length) rc5 ((s.qf[i]!).qw) Tryz.underlying27 ti22 rfl rfl (by omega) (by omega)) S ?_
   refine rtp 6 (.slice yM (((s.qf[i]!).xe).length) yJ) S ?_
   refine rt 7 (.int .i64 (counts[i]!)) (xw Tryz.isAgg2 rfl (fun _ h => h.cell 0 rfl rfl)) S ?_
   refine zt [5] (by kernel_rfl) (by simp) (yF rfl ?_ zu)
   obtain ⟨a37, c38, G39, s40, h41, H⟩ := H.Qb 6 rfl 7 rfl (iv := (s.qf[i]!).qw) (((s.qf[i]!).qw).toNat) (by omega) (by omega)
   refine qC (.slice a37 ((bags[((s.qf[i]!).qw).toNat]!).length) c38) Tryz.isAgg22 rfl (h41) ?_
   refine ⟨H.pick [0, 1, 2, 3, 4, 5, 7, 8] [1, 2, 3, 4, 5, 6, 7, 8, 9, 10, 11, 12, 13, 14], ?_⟩
   refine zt [8] (by kernel_rfl) (by simp) (yF rfl ?_ zu)
   obtain ⟨u1, u2⟩ := E_bags.sh.row (c := ((s.qf[i]!).qw).toNat) (by omega) p8 (by omega)
   have u4 := (by first | exact bn1.jw (by omega) | exact bn2.jw (by omega) | exact bn3.jw (by omega) | exact bn4.jw (by omega) : SmallT ((s.qf[i]!).xe) (counts[i]!))
   have sz42 := H.base.size
   have lt43 := H.ltN (L := [F_bags]) [8]
   refine xm #[.slice a37 ((bags[((s.qf[i]!).qw).toNat]!).length) c38, .slice yM (((s.qf[i]!).xe).length) yJ, .int .i64 (counts[i]!)] rfl rfl Tryz.call100 (plus_ok w34.drew (bags[((s.qf[i]!).qw).toNat]!) ((s.qf[i]!).xe) (counts[i]!) a37 c38 G39 yM yJ Fe20Here (H.get 0 rfl).1 (H.get 4 rfl).1 (by first | assumption | omega) (by first | assumption | omega) (by first | assumption | omega)) ?_
   rintro v47 w45 r47 x46
   replace H := H.jh x46 r47
   obtain ⟨a48, c49, rfl, hc50, hm51⟩ := H.Xe 0 rfl
   refine ⟨H.pick [1, 2, 3, 4, 5, 6, 8, 9] [1, 2, 3, 4, 5, 6, 7, 8, 9, 10, 11, 12, 13, 14], ?_⟩
   refine rt 9 (pp b36 (0 + ((s.qf[i]!).qw : Int).toNat * 1)) (xQ b36 (0) ((xW s (s.qg.length + 1)).length) rc5 ((s.qf[i]!).qw) Tryz.underlying27 ti22 rfl rfl (by omega) (by omega)) (H.pick [1, 2, 3, 4, 5, 6, 8, 9] [1, 2, 3, 4, 5, 6, 7, 8, 9, 10, 11, 12, 13, 14]) ?_
   refine zt [10] (by kernel_rfl) (by simp) (yF rfl ?_ zu)
   obtain ⟨G53, N, hn54, H⟩ := H.Xm 0 rfl N (H.awayN [8])
   try dsimp only [List.set] at H
   refine yg true H 7 rfl 9 rfl (.slice a48 ((yc (bags[((s.qf[i]!).qw).toNat]!) ((s.qf[i]!).xe) (counts[i]!)).length) c49) 0 rfl rfl Tryz.sizeOf22 rfl rfl (i := (((s.qf[i]!).qw).toNat)) (by omega) (by omega) (by simp) fun w52 xs55 F56 hs57 H => ?_
   replace N : Fresh w.heap.size [F56] := (N.pick [1, 0]).repl hs57
   try dsimp only [List.set] at H
   refine ⟨H.pick [1, 2, 3, 4, 5, 6, 8, 9] [3, 4, 5, 6, 7, 8, 9, 10, 11, 12, 13, 14, 15, 16], ?_⟩
   refine xZ (by kernel_rfl) (?_)
   refine ret0 rfl ⟨_, rfl, ?_⟩
   replace H := H.erases [0]
   dsimp only [Qr, List.eraseIdx] at H
   obtain ⟨bg58, e_bg58⟩ : ∃ z, z = (bags.set (((s.qf[i]!).qw).toNat) (yc (bags[((s.qf[i]!).qw).toNat]!) ((s.qf[i]!).xe) (counts[i]!))) := ⟨_, rfl⟩
   rw [← e_bg58] at H
   have E_bg58 := Ent.add (D := 1000000) E_bags e_bg58 (by omega) (by first | exact bn1.mul (by omega) | exact bn2.mul (by omega) | exact bn3.mul (by omega) | exact bn4.mul (by omega)) (by omega)
   have z_bg58 := E_bg58.sh.1
   have E_cur := E_bg58
   refine qo (t_n (qh (qh (qp ?_))))
   refine sw (zn [.int .i64 s.qF, .slice qm s.qg.length ql, .slice (aa b17 o18) s.qf.length qA] Tryz.isAgg36 Tryz.sizeOf36 rfl (qK (H.cells 4 rfl) 0 3) ?_)
   refine sw (zn [.slice xu t.qy.length qZ, .slice xB t.qG.length xx, .slice qV t.qB.length qU] Tryz.isAgg38 Tryz.sizeOf38 rfl (qK (H.cells 3 rfl) 0 3) ?_)
   refine sw (qH b31 (0) 0 Tryz.underlying110 rfl rfl Tryz.sizeOf2 rfl ?_)
   refine sw (qC (.int .i64 ((s.qf[i]!).qw)) Tryz.isAgg2 rfl (H.cell 1 rfl rfl) ?_)
   have qc' := qc
   refine sw (xm #[.agg #[.int .i64 s.qF, .slice qm s.qg.length ql, .slice (aa b17 o18) s.qf.length qA], .agg #[.slice xu t.qy.length qZ, .slice xB t.qG.length xx, .slice qV t.qB.length qU], .int .i64 ((s.qf[i]!).qw)] rfl rfl Tryz.call144 (parentNow_ok w52 s t ((s.qf[i]!).qw) qm ql qL (aa b17 o18) qA xk xu qZ xY xB xx zG qV qU xJ (H.get 11 rfl).1 (H.get 12 rfl).1 (H.get 13 rfl).1 (H.get 14 rfl).1 (H.get 15 rfl).1 (by first | assumption | omega) (by first | assumption | omega) (by first | assumption | omega)) ?_)
   rintro _ w60 rfl x61
   replace H := H.ext x61
   have pl := parentNow_lt p15 p1.2.2.1 qc
   refine sp (.int .i64 (xK s t ((s.qf[i]!).qw))) ?_
   refine qo (t_n (qh (qp ?_)))
   refine sps [.int .i64 (xK s t ((s.qf[i]!).qw)), .bool (decide ((xK s t ((s.qf[i]!).qw) : Int) ≥ 0))] ?_
   refine qo (t_n ?_)
   refine qP (decide ((xK s t ((s.qf[i]!).qw) : Int) ≥ 0)) rfl (fun h62 => ?_) (fun h62 => ?_)
   ·skip
    replace h62 := of_decide_eq_true h62
    have po := outPl_in (r := s.qf[i]!) p15 ‹_›
    refine qp ?_
    refine sps [.func (.func 143) #[] #[pp b29 0, pp b33 0], .int .i64 (xK s t ((s.qf[i]!).qw))] ?_
    refine sw (qH b31 (0) 6 Tryz.underlying110 rfl rfl Tryz.sizeOf22 rfl ?_)
    refine sw (qC (.slice yH (((s.qf[i]!).xO).length) yG) Tryz.isAgg22 rfl (H.cell 1 rfl rfl) ?_)
    refine sw (yw #[.int .i64 (xK s t ((s.qf[i]!).qw)), .slice yH (((s.qf[i]!).xO).length) yG, pp b29 0, pp b33 0] rfl rfl Tryz.call143 ?_)
    refine enter (n := 16) Tryz.func143 rfl Tryz.ntmps143 (Nat.le_of_ble_eq_true rfl) ?_
    refine QI rfl H [0, 1, 2, 3, 4, 5, 7, 8] fun H => ?_
    have S := H.QN [0, 1, 2, 3, 4, 5, 7, 8] [0, 1, 2, 3, 4, 5, 6, 7, 8, 9, 10, 11, 12, 13, 14, 15, 16]
    refine rt 0 (.slice (aa b36 0) ((xW s (s.qg.length + 1)).length) rc5) (xw Tryz.isAgg27 rfl (fun _ h => h.cell 2 rfl rfl)) S ?_
    refine rtp 1 (.int .i64 (xK s t ((s.qf[i]!).qw))) S ?_
    refine rt 2 (.slice (aa b36 0) ((xW s (s.qg.length + 1)).length) rc5) (xw Tryz.isAgg27 rfl (fun _ h => h.cell 2 rfl rfl)) S ?_
    refine rtp 3 (.int .i64 (xK s t ((s.qf[i]!).qw))) S ?_
    refine rt 4 (pp b36 (0 + (xK s t ((s.qf[i]!).qw) : Int).toNat * 1)) (xQ b36 (0) ((xW s (s.qg.length + 1)).length) rc5 (xK s t ((s.qf[i]!).qw)) Tryz.underlying27 ti22 rfl rfl (by omega) (by omega)) S ?_
    refine rtp 6 (.slice yH (((s.qf[i]!).xO).length) yG) S ?_
    refine rt 7 (.int .i64 (counts[i]!)) (xw Tryz.isAgg2 rfl (fun _ h => h.cell 0 rfl rfl)) S ?_
    refine zt [5] (by kernel_rfl) (by simp) (yF rfl ?_ zu)
    obtain ⟨a64, c65, G66, s67, h68, H⟩ := H.Qb 6 rfl 0 rfl (iv := xK s t ((s.qf[i]!).qw)) ((xK s t ((s.qf[i]!).qw)).toNat) (by omega) (by omega)
    refine qC (.slice a64 ((bg58[(xK s t ((s.qf[i]!).qw)).toNat]!).length) c65) Tryz.isAgg22 rfl (h68) ?_
    refine ⟨H.pick [0, 1, 2, 3, 4, 5, 7, 8] [1, 2, 3, 4, 5, 6, 7, 8, 9, 10, 11, 12, 13, 14, 15, 16, 17], ?_⟩
    refine zt [8] (by kernel_rfl) (by simp) (yF rfl ?_ zu)
    obtain ⟨u1, u2⟩ := E_bg58.sh.row (c := (xK s t ((s.qf[i]!).qw)).toNat) (by omega) p8 (by omega)
    have u4 := (by first | exact bn1.jw (by omega) | exact bn2.jw (by omega) | exact bn3.jw (by omega) | exact bn4.jw (by omega) : SmallT ((s.qf[i]!).xO) (counts[i]!))
    have sz69 := H.base.size
    have lt70 := H.ltN (L := [F56]) [1]
    refine xm #[.slice a64 ((bg58[(xK s t ((s.qf[i]!).qw)).toNat]!).length) c65, .slice yH (((s.qf[i]!).xO).length) yG, .int .i64 (counts[i]!)] rfl rfl Tryz.call100 (plus_ok w60.drew (bg58[(xK s t ((s.qf[i]!).qw)).toNat]!) ((s.qf[i]!).xO) (counts[i]!) a64 c65 G66 yH yG Fe20Out (H.get 0 rfl).1 (H.get 8 rfl).1 (by first | assumption | omega) (by first | assumption | omega) (by first | assumption | omega)) ?_
    rintro v74 w72 r74 x73
    replace H := H.jh x73 r74
    obtain ⟨a75, c76, rfl, hc77, hm78⟩ := H.Xe 0 rfl
    refine ⟨H.pick [1, 2, 3, 4, 5, 6, 8, 9] [1, 2, 3, 4, 5, 6, 7, 8, 9, 10, 11, 12, 13, 14, 15, 16, 17], ?_⟩
    refine rt 9 (pp b36 (0 + (xK s t ((s.qf[i]!).qw) : Int).toNat * 1)) (xQ b36 (0) ((xW s (s.qg.length + 1)).length) rc5 (xK s t ((s.qf[i]!).qw)) Tryz.underlying27 ti22 rfl rfl (by omega) (by omega)) (H.pick [1, 2, 3, 4, 5, 6, 8, 9] [1, 2, 3, 4, 5, 6, 7, 8, 9, 10, 11, 12, 13, 14, 15, 16, 17]) ?_
    refine zt [10] (by kernel_rfl) (by simp) (yF rfl ?_ zu)
    obtain ⟨G80, N, hn81, H⟩ := H.Xm 0 rfl N (H.awayN [1])
    try dsimp only [List.set] at H
    refine yg true H 7 rfl 2 rfl (.slice a75 ((yc (bg58[(xK s t ((s.qf[i]!).qw)).toNat]!) ((s.qf[i]!).xO) (counts[i]!)).length) c76) 0 rfl rfl Tryz.sizeOf22 rfl rfl (i := ((xK s t ((s.qf[i]!).qw)).toNat)) (by omega) (by omega) (by simp) fun w79 xs82 F83 hs84 H => ?_
    replace N : Fresh w.heap.size [F83] := (N.pick [1, 0]).repl hs84
    try dsimp only [List.set] at H
    refine ⟨H.pick [1, 2, 3, 4, 5, 6, 8, 9] [3, 4, 5, 6, 7, 8, 9, 10, 11, 12, 13, 14, 15, 16, 17, 18, 19], ?_⟩
    refine xZ (by kernel_rfl) (?_)
    refine ret0 rfl ⟨_, rfl, ?_⟩
    replace H := H.erases [0]
    dsimp only [Qr, List.eraseIdx] at H
    obtain ⟨bg85, e_bg85⟩ : ∃ z, z = (bg58.set ((xK s t ((s.qf[i]!).qw)).toNat) (yc (bg58[(xK s t ((s.qf[i]!).qw)).toNat]!) ((s.qf[i]!).xO) (counts[i]!))) := ⟨_, rfl⟩
    rw [← e_bg85] at H
    have E_bg85 := Ent.add (D := 1000000) E_bg58 e_bg85 (by omega) (by first | exact bn1.mul (by omega) | exact bn2.mul (by omega) | exact bn3.mul (by omega) | exact bn4.mul (by omega)) (by omega)
    have z_bg85 := E_bg85.sh.1
    have E_cur := E_bg85
    refine qo (t_n (qh (qp ?_)))
    refine sw (qH b31 (0) 7 Tryz.underlying110 rfl rfl Tryz.sizeOf108 rfl ?_)
    refine sw (qC (.slice yA (((s.qf[i]!).qx).length) yz) Tryz.isAgg108 rfl (H.cell 1 rfl rfl) ?_)
    refine sw (zK Tryz.underlying108 yA (((s.qf[i]!).qx).length) yz rfl ?_)
    refine sp (.int .i64 0) ?_
    refine qo (t_n (xn ?_))
    refine zC (fun m' ρ w86 => ∃ (junk : Env) (k : Nat) (bags_1 : List (List Int)) (x_bags_1 : List Value) (F_bags_1 : List Nat), ρ = upd (upd (upd (upd junk 10 (.func (.func 143) #[] #[pp b29 0, pp b33 0])) 40 (.slice yA (((s.qf[i]!).qx).length) yz)) 41 (.int .i64 (((s.qf[i]!).qx).length))) 42 (.int .i64 k) ∧ ((k : Int) ≤ (((s.qf[i]!).qx).length)) ∧ (Ent (s.qg.length + 1) (yQ s) (fun p q => putsOf s t counts cell i p q + at' p (s.qf[i]!).qw.toNat (((counts)[i]!) * ((s.qf[i]!).xe)[q]!) + at' p (outPl s t (s.qf[i]!)) (((counts)[i]!) * ((s.qf[i]!).xO)[q]!) + intoF (s.qf[i]!) ((counts)[i]!) k p q) (3000000 + 6000000 * i + 1000000 * k) bags_1) ∧ (bags_1.length = s.qg.length + 1) ∧ m' = ((((s.qf[i]!).qx).length) - (k : Int)).toNat ∧ Fresh w.heap.size [F_bags_1] ∧ St w w86 [.box b33 [.int .i64 (counts[i]!)] 2, .box b31 [.int .i64 ((s.qf[i]!).qw), .int .i64 ((s.qf[i]!).xM), .slice QV (((s.qf[i]!).qI).length) QS, .slice QX (((s.qf[i]!).qW).length) QU, .slice QW (((s.qf[i]!).qX).length) QT, .slice yM (((s.qf[i]!).xe).length) yJ, .slice yH (((s.qf[i]!).xO).length) yG, .slice yA (((s.qf[i]!).qx).length) yz, .bool ((s.qf[i]!).xG)] 110, .box b29 [.slice (aa b36 0) ((xW s (s.qg.length + 1)).length) rc5] 27, .box b27 [.slice xu t.qy.length qZ, .slice xB t.qG.length xx, .slice qV t.qB.length qU] 38, .box b25 [.int .i64 s.qF, .slice qm s.qg.length ql, .slice (aa b17 o18) s.qf.length qA] 36, .box b21 [.int .i64 ((s.qf[i]!).qw), .int .i64 ((s.qf[i]!).xM), .slice QV (((s.qf[i]!).qI).length) QS, .slice QX (((s.qf[i]!).qW).length) QU, .slice QW (((s.qf[i]!).qX).length) QT, .slice yM (((s.qf[i]!).xe).length) yJ, .slice yH (((s.qf[i]!).xO).length) yG, .slice yA (((s.qf[i]!).qx).length) yz, .bool ((s.qf[i]!).xG)] 110, .row (.slice (aa b36 0) ((xW s (s.qg.length + 1)).length) rc5) 22 1 ((xW s (s.qg.length + 1)).length) x_bags_1, .box b3 [.slice xu t.qy.length qZ, .slice xB t.qG.length xx, .slice qV t.qB.length qU] 38, .box b1 [.int .i64 s.qF, .slice qm s.qg.length ql, .slice (aa b17 o18) s.qf.length qA] 36] [jo true F_bags_1 x_bags_1 bags_1, isF false Fe20Need (.slice QV (((s.qf[i]!).qI).length) QS) ((s.qf[i]!).qI), isF false Fe20Have (.slice QX (((s.qf[i]!).qW).length) QU) ((s.qf[i]!).qW), isF false Fe20Lack (.slice QW (((s.qf[i]!).qX).length) QT) ((s.qf[i]!).qX), isF false Fe20Here (.slice yM (((s.qf[i]!).xe).length) yJ) ((s.qf[i]!).xe), isF false Fe20Out (.slice yH (((s.qf[i]!).xO).length) yG) ((s.qf[i]!).xO), isF false Fe20Into (.slice yA (((s.qf[i]!).qx).length) yz) ((s.qf[i]!).qx), atF b17 (o18 + (i : Int).toNat * 9) [.int .i64 ((s.qf[i]!).qw), .int .i64 ((s.qf[i]!).xM), .slice QV (((s.qf[i]!).qI).length) QS, .slice QX (((s.qf[i]!).qW).length) QU, .slice QW (((s.qf[i]!).qX).length) QT, .slice yM (((s.qf[i]!).xe).length) yJ, .slice yH (((s.qf[i]!).xO).length) yG, .slice yA (((s.qf[i]!).qx).length) yz, .bool ((s.qf[i]!).xG)], isF false qL (.slice qm s.qg.length ql) s.qg, isF false xk (.slice (aa b17 o18) s.qf.length qA) s.qf, isF false xY (.slice xu t.qy.length qZ) t.qy, isF false zG (.slice xB t.qG.length xx) t.qG, isF false xJ (.slice qV t.qB.length qU) t.qB, isF false Fcounts (.slice (aa b14 o15) counts.length ccounts) counts]) (((((s.qf[i]!).qx).length) - (0 : Int)).toNat) ⟨_, 0, bg85, xs82, F83, (by exact qj (qj (qj (qj (rfl) rfl) rfl) rfl) rfl), (by omega), (by exact E_cur.to (fun p q => by rw [po]; simp only [intoF]; first | omega | (simp only [Int.toNat_natCast]; omega)) (by omega)), (by omega), rfl, N, H.pick [0, 1, 2, 3, 4, 5, 6, 7, 8] [0, 6, 7, 8, 9, 10, 11, 12, 14, 15, 16, 17, 18, 19]⟩ ?_
    clear H N
    rintro m' ρ w87 ⟨junk, k, bags_1, x_bags_1, F_bags_1, rfl, i0, E_bags_1, z_bags_1, rfl, N, H⟩
    have hn_bags := H.jB (α := List Int) 6 rfl 0 rfl (by decide)
    refine qh (qp ?_)
    refine sp (.bool (decide ((k : Int) < (((s.qf[i]!).qx).length)))) ?_
    refine qo (t_n (qh ?_))
    refine qP (decide ((k : Int) < (((s.qf[i]!).qx).length))) rfl (fun h88 => ?_) (fun h88 => ?_)
    ·skip
     replace h88 := of_decide_eq_true h88
     have qi := q.2.2.2.2.2.2.2.2.2.2 k (by omega)
     have qi1 := qi.1
     have bn4 := qi.2.2.1
     have ln4 := bn4.len
     refine xg (t_n (qh (xn (qh (qp ?_)))))
     obtain ⟨b89, o90, rfl⟩ := H.addr 6 rfl (by omega)
     obtain ⟨ae92Bag, ce92Bag, Fe92Bag, H⟩ := H.vP 6 rfl k k (by omega) (by omega) (by omega)
     refine sw (xE k Tryz.underlying108 ti115 rfl rfl (by omega) (by omega) ?_)
     refine sw (zn [.int .i64 ((((s.qf[i]!).qx)[k]!).qw), .slice ae92Bag (((((s.qf[i]!).qx)[k]!).zF).length) ce92Bag] Tryz.isAgg115 Tryz.sizeOf115 rfl (qK (H.get 1 rfl) 0 2) ?_)
     refine sw (QP H ti115 [.int .i64 0, .slice none 0 0] fun b93 w94 H => ?_)
     refine sw (QO H 0 [.int .i64 ((((s.qf[i]!).qx)[k]!).qw), .slice ae92Bag (((((s.qf[i]!).qx)[k]!).zF).length) ce92Bag] Tryz.sizeOf115 fun w95 H => ?_)
     try dsimp only [List.set] at H
     refine qo (t_n (qp ?_))
     refine sp (.func (.func 143) #[] #[pp b29 0, pp b33 0]) ?_
     refine sw (qH b93 (0) 0 Tryz.underlying115 rfl rfl Tryz.sizeOf2 rfl ?_)
     refine sw (qC (.int .i64 ((((s.qf[i]!).qx)[k]!).qw)) Tryz.isAgg2 rfl (H.cell 0 rfl rfl) ?_)
     refine sw (qH b93 (0) 1 Tryz.underlying115 rfl rfl Tryz.sizeOf22 rfl ?_)
     refine sw (qC (.slice ae92Bag (((((s.qf[i]!).qx)[k]!).zF).length) ce92Bag) Tryz.isAgg22 rfl (H.cell 0 rfl rfl) ?_)
     refine sw (yw #[.int .i64 ((((s.qf[i]!).qx)[k]!).qw), .slice ae92Bag (((((s.qf[i]!).qx)[k]!).zF).length) ce92Bag, pp b29 0, pp b33 0] rfl rfl Tryz.call143 ?_)
     refine enter (n := 16) Tryz.func143 rfl Tryz.ntmps143 (Nat.le_of_ble_eq_true rfl) ?_
     refine QI rfl H [0, 1, 2, 3, 4, 5, 6, 8, 9] fun H => ?_
     have S := H.QN [0, 1, 2, 3, 4, 5, 6, 8, 9] [0, 1, 2, 3, 4, 5, 6, 7, 8, 9, 10, 11, 12, 13, 14, 15]
     refine rt 0 (.slice (aa b36 0) ((xW s (s.qg.length + 1)).length) rc5) (xw Tryz.isAgg27 rfl (fun _ h => h.cell 3 rfl rfl)) S ?_
     refine rtp 1 (.int .i64 ((((s.qf[i]!).qx)[k]!).qw)) S ?_
     refine rt 2 (.slice (aa b36 0) ((xW s (s.qg.length + 1)).length) rc5) (xw Tryz.isAgg27 rfl (fun _ h => h.cell 3 rfl rfl)) S ?_
     refine rtp 3 (.int .i64 ((((s.qf[i]!).qx)[k]!).qw)) S ?_
     refine rt 4 (pp b36 (0 + ((((s.qf[i]!).qx)[k]!).qw : Int).toNat * 1)) (xQ b36 (0) ((xW s (s.qg.length + 1)).length) rc5 ((((s.qf[i]!).qx)[k]!).qw) Tryz.underlying27 ti22 rfl rfl (by omega) (by omega)) S ?_
     refine rtp 6 (.slice ae92Bag (((((s.qf[i]!).qx)[k]!).zF).length) ce92Bag) S ?_
     refine rt 7 (.int .i64 (counts[i]!)) (xw Tryz.isAgg2 rfl (fun _ h => h.cell 1 rfl rfl)) S ?_
     refine zt [5] (by kernel_rfl) (by simp) (yF rfl ?_ zu)
     obtain ⟨a97, c98, G99, s100, h101, H⟩ := H.Qb 7 rfl 2 rfl (iv := (((s.qf[i]!).qx)[k]!).qw) (((((s.qf[i]!).qx)[k]!).qw).toNat) (by omega) (by omega)
     refine qC (.slice a97 ((bags_1[((((s.qf[i]!).qx)[k]!).qw).toNat]!).length) c98) Tryz.isAgg22 rfl (h101) ?_
     refine ⟨H.pick [0, 1, 2, 3, 4, 5, 6, 8, 9] [1, 2, 3, 4, 5, 6, 7, 8, 9, 10, 11, 12, 13, 14, 15, 16], ?_⟩
     refine zt [8] (by kernel_rfl) (by simp) (yF rfl ?_ zu)
     obtain ⟨u1, u2⟩ := E_bags_1.sh.row (c := ((((s.qf[i]!).qx)[k]!).qw).toNat) (by omega) p8 (by omega)
     have u4 := (by first | exact bn1.jw (by omega) | exact bn2.jw (by omega) | exact bn3.jw (by omega) | exact bn4.jw (by omega) : SmallT ((((s.qf[i]!).qx)[k]!).zF) (counts[i]!))
     have sz102 := H.base.size
     have lt103 := H.ltN (L := [F_bags_1]) [3]
     refine xm #[.slice a97 ((bags_1[((((s.qf[i]!).qx)[k]!).qw).toNat]!).length) c98, .slice ae92Bag (((((s.qf[i]!).qx)[k]!).zF).length) ce92Bag, .int .i64 (counts[i]!)] rfl rfl Tryz.call100 (plus_ok w95.drew (bags_1[((((s.qf[i]!).qx)[k]!).qw).toNat]!) ((((s.qf[i]!).qx)[k]!).zF) (counts[i]!) a97 c98 G99 ae92Bag ce92Bag Fe92Bag (H.get 0 rfl).1 (H.get 1 rfl).1 (by first | assumption | omega) (by first | assumption | omega) (by first | assumption | omega)) ?_
     rintro v107 w105 r107 x106
     replace H := H.jh x106 r107
     obtain ⟨a108, c109, rfl, hc110, hm111⟩ := H.Xe 0 rfl
     refine ⟨H.pick [1, 2, 3, 4, 5, 6, 7, 9, 10] [1, 2, 3, 4, 5, 6, 7, 8, 9, 10, 11, 12, 13, 14, 15, 16], ?_⟩
     refine rt 9 (pp b36 (0 + ((((s.qf[i]!).qx)[k]!).qw : Int).toNat * 1)) (xQ b36 (0) ((xW s (s.qg.length + 1)).length) rc5 ((((s.qf[i]!).qx)[k]!).qw) Tryz.underlying27 ti22 rfl rfl (by omega) (by omega)) (H.pick [1, 2, 3, 4, 5, 6, 7, 9, 10] [1, 2, 3, 4, 5, 6, 7, 8, 9, 10, 11, 12, 13, 14, 15, 16]) ?_
     refine zt [10] (by kernel_rfl) (by simp) (yF rfl ?_ zu)
     obtain ⟨G113, N, hn114, H⟩ := H.Xm 0 rfl N (H.awayN [3])
     try dsimp only [List.set] at H
     refine yg true H 8 rfl 4 rfl (.slice a108 ((yc (bags_1[((((s.qf[i]!).qx)[k]!).qw).toNat]!) ((((s.qf[i]!).qx)[k]!).zF) (counts[i]!)).length) c109) 0 rfl rfl Tryz.sizeOf22 rfl rfl (i := (((((s.qf[i]!).qx)[k]!).qw).toNat)) (by omega) (by omega) (by simp) fun w112 xs115 F116 hs117 H => ?_
     replace N : Fresh w.heap.size [F116] := (N.pick [1, 0]).repl hs117
     try dsimp only [List.set] at H
     refine ⟨H.pick [1, 2, 3, 4, 5, 6, 7, 9, 10] [3, 4, 5, 6, 7, 8, 9, 10, 11, 12, 13, 14, 15, 16, 17, 18], ?_⟩
     refine xZ (by kernel_rfl) (?_)
     refine ret0 rfl ⟨_, rfl, ?_⟩
     replace H := H.erases [0]
     dsimp only [Qr, List.eraseIdx] at H
     obtain ⟨bg118, e_bg118⟩ : ∃ z, z = (bags_1.set (((((s.qf[i]!).qx)[k]!).qw).toNat) (yc (bags_1[((((s.qf[i]!).qx)[k]!).qw).toNat]!) ((((s.qf[i]!).qx)[k]!).zF) (counts[i]!))) := ⟨_, rfl⟩
     rw [← e_bg118] at H
     have E_bg118 := Ent.add (D := 1000000) E_bags_1 e_bg118 (by omega) (by first | exact bn1.mul (by omega) | exact bn2.mul (by omega) | exact bn3.mul (by omega) | exact bn4.mul (by omega)) (by omega)
     have z_bg118 := E_bg118.sh.1
     have E_cur := E_bg118
     refine qo (b_n (t_n (qp ?_)))
     refine sw (zD k 1 rfl rfl (by omega) ?_)
     refine sp (.int .i64 (k + 1)) ?_
     refine qo ?_
     refine xy (m' := ((((s.qf[i]!).qx).length) - ((k + 1) : Int)).toNat) (by omega) ⟨_, k + 1, bg118, xs115, F116, (by exact qj (qj (qj (qj (rfl) rfl) rfl) rfl) rfl), ?_, ?_, ?_, rfl, N, H.pick [1, 2, 3, 4, 5, 6, 7, 8, 9] [0, 6, 7, 8, 9, 10, 11, 12, 13, 14, 15, 16, 17, 18]⟩
     · omega
     · exact E_cur.to (fun p q => by simp only [intoF]; omega) (by omega)
     · omega
    replace h88 := of_decide_eq_false h88
    refine zx (t_x (t_x (b_x ?_)))
    refine ret0 rfl ⟨_, rfl, ?_⟩
    replace H := H.erases [4, 3, 2, 1, 0]
    dsimp only [Qr, List.eraseIdx] at H
    refine qo (b_n (t_n (qp ?_)))
    refine sw (zD i 1 rfl rfl (by omega) ?_)
    refine sp (.int .i64 (i + 1)) ?_
    refine qo ?_
    refine xy (m' := (counts.length - ((i + 1) : Int)).toNat) (by omega) ⟨_, i + 1, bags_1, x_bags_1, F_bags_1, (by exact qj (qj (qj (qj (qj (qj (qj (rfl) rfl) rfl) rfl) rfl) rfl) rfl) rfl), ?_, ?_, ?_, rfl, N, H.pick [1, 2, 3] [0, 8, 9, 10, 11, 12, 13]⟩
    · omega
    · first | exact E_bags.to (fun p q => by rw [puts_no (i := i) (by assumption)]) (by omega) | exact E_bags_1.to (fun p q => by rw [show k = ((s.qf[i]!).qx).length by omega, puts_yes (i := i) (by assumption)]; simp only [putF]; omega) (by omega)
    · omega
   replace h62 := of_decide_eq_false h62
   have po := outPl_out (r := s.qf[i]!) p15 p1.2.2.1 qc (by omega)
   refine QI rfl H [0, 1, 2, 3, 4, 5, 7, 8] fun H => ?_
   have S := H.QN [0, 1, 2, 3, 4, 5, 7, 8] [0, 1, 2, 3, 4, 5, 6, 7, 8, 9, 10, 11, 12, 13, 14, 15, 16]
   refine rtp 0 (.func (.func 143) #[] #[pp b29 0, pp b33 0]) S ?_
   refine rt 1 (.agg #[.int .i64 s.qF, .slice qm s.qg.length ql, .slice (aa b17 o18) s.qf.length qA]) (yu (cs := [.int .i64 s.qF, .slice qm s.qg.length ql, .slice (aa b17 o18) s.qf.length qA]) Tryz.isAgg36 Tryz.sizeOf36 rfl (fun _ h => qK (h.cells 4 rfl) 0 3)) S ?_
   refine rt 3 (pp b31 (0 + 6)) (xH b31 (0) 6 Tryz.underlying110 rfl rfl Tryz.sizeOf22 rfl) S ?_
   refine rt 4 (.slice yH (((s.qf[i]!).xO).length) yG) (xw Tryz.isAgg22 rfl (fun _ h => h.cell 1 rfl rfl)) S ?_
   refine zt [2] (by kernel_rfl) (by simp) (yF rfl ?_ zu)
   refine xm #[.agg #[.int .i64 s.qF, .slice qm s.qg.length ql, .slice (aa b17 o18) s.qf.length qA]] rfl rfl Tryz.call113 (around_ok w60.drew s qm ql qL (aa b17 o18) qA xk (H.get 11 rfl).1 (H.get 12 rfl).1) ?_
   rintro _ w121 rfl x122
   replace H := H.ext x122
   refine ⟨H.pick [0, 1, 2, 3, 4, 5, 7, 8] [0, 1, 2, 3, 4, 5, 6, 7, 8, 9, 10, 11, 12, 13, 14, 15, 16], ?_⟩
   refine zt [5] (by kernel_rfl) (by simp) (yF rfl ?_ zu)
   refine yw #[.int .i64 s.qg.length, .slice yH (((s.qf[i]!).xO).length) yG, pp b29 0, pp b33 0] rfl rfl Tryz.call143 ?_
   refine enter (n := 16) Tryz.func143 rfl Tryz.ntmps143 (Nat.le_of_ble_eq_true rfl) ?_
   refine QI rfl H [0, 1, 2, 3, 4, 5, 7, 8] fun H => ?_
   have S := H.QN [0, 1, 2, 3, 4, 5, 7, 8] [0, 1, 2, 3, 4, 5, 6, 7, 8, 9, 10, 11, 12, 13, 14, 15, 16]
   refine rt 0 (.slice (aa b36 0) ((xW s (s.qg.length + 1)).length) rc5) (xw Tryz.isAgg27 rfl (fun _ h => h.cell 2 rfl rfl)) S ?_
   refine rtp 1 (.int .i64 s.qg.length) S ?_
   refine rt 2 (.slice (aa b36 0) ((xW s (s.qg.length + 1)).length) rc5) (xw Tryz.isAgg27 rfl (fun _ h => h.cell 2 rfl rfl)) S ?_
   refine rtp 3 (.int .i64 s.qg.length) S ?_
   refine rt 4 (pp b36 (0 + (s.qg.length : Int).toNat * 1)) (xQ b36 (0) ((xW s (s.qg.length + 1)).length) rc5 s.qg.length Tryz.underlying27 ti22 rfl rfl (by omega) (by omega)) S ?_
   refine rtp 6 (.slice yH (((s.qf[i]!).xO).length) yG) S ?_
   refine rt 7 (.int .i64 (counts[i]!)) (xw Tryz.isAgg2 rfl (fun _ h => h.cell 0 rfl rfl)) S ?_
   refine zt [5] (by kernel_rfl) (by simp) (yF rfl ?_ zu)
   obtain ⟨a124, c125, G126, s127, h128, H⟩ := H.Qb 6 rfl 0 rfl (iv := s.qg.length) s.qg.length (by omega) (by omega)
   refine qC (.slice a124 ((bg58[s.qg.length]!).length) c125) Tryz.isAgg22 rfl (h128) ?_
   refine ⟨H.pick [0, 1, 2, 3, 4, 5, 7, 8] [1, 2, 3, 4, 5, 6, 7, 8, 9, 10, 11, 12, 13, 14, 15, 16, 17], ?_⟩
   refine zt [8] (by kernel_rfl) (by simp) (yF rfl ?_ zu)
   obtain ⟨u1, u2⟩ := E_bg58.sh.row (c := s.qg.length) (by omega) p8 (by omega)
   have u4 := (by first | exact bn1.jw (by omega) | exact bn2.jw (by omega) | exact bn3.jw (by omega) | exact bn4.jw (by omega) : SmallT ((s.qf[i]!).xO) (counts[i]!))
   have sz129 := H.base.size
   have lt130 := H.ltN (L := [F56]) [1]
   refine xm #[.slice a124 ((bg58[s.qg.length]!).length) c125, .slice yH (((s.qf[i]!).xO).length) yG, .int .i64 (counts[i]!)] rfl rfl Tryz.call100 (plus_ok w121.drew (bg58[s.qg.length]!) ((s.qf[i]!).xO) (counts[i]!) a124 c125 G126 yH yG Fe20Out (H.get 0 rfl).1 (H.get 8 rfl).1 (by first | assumption | omega) (by first | assumption | omega) (by first | assumption | omega)) ?_
   rintro v134 w132 r134 x133
   replace H := H.jh x133 r134
   obtain ⟨a135, c136, rfl, hc137, hm138⟩ := H.Xe 0 rfl
   refine ⟨H.pick [1, 2, 3, 4, 5, 6, 8, 9] [1, 2, 3, 4, 5, 6, 7, 8, 9, 10, 11, 12, 13, 14, 15, 16, 17], ?_⟩
   refine rt 9 (pp b36 (0 + (s.qg.length : Int).toNat * 1)) (xQ b36 (0) ((xW s (s.qg.length + 1)).length) rc5 s.qg.length Tryz.underlying27 ti22 rfl rfl (by omega) (by omega)) (H.pick [1, 2, 3, 4, 5, 6, 8, 9] [1, 2, 3, 4, 5, 6, 7, 8, 9, 10, 11, 12, 13, 14, 15, 16, 17]) ?_
   refine zt [10] (by kernel_rfl) (by simp) (yF rfl ?_ zu)
   obtain ⟨G140, N, hn141, H⟩ := H.Xm 0 rfl N (H.awayN [1])
   try dsimp only [List.set] at H
   refine yg true H 7 rfl 2 rfl (.slice a135 ((yc (bg58[s.qg.length]!) ((s.qf[i]!).xO) (counts[i]!)).length) c136) 0 rfl rfl Tryz.sizeOf22 rfl rfl (i := s.qg.length) (by omega) (by omega) (by simp) fun w139 xs142 F143 hs144 H => ?_
   replace N : Fresh w.heap.size [F143] := (N.pick [1, 0]).repl hs144
   try dsimp only [List.set] at H
   refine ⟨H.pick [1, 2, 3, 4, 5, 6, 8, 9] [3, 4, 5, 6, 7, 8, 9, 10, 11, 12, 13, 14, 15, 16, 17, 18, 19], ?_⟩
   refine xZ (by kernel_rfl) (?_)
   refine ret0 rfl ⟨_, rfl, ?_⟩
   replace H := H.erases [0]
   dsimp only [Qr, List.eraseIdx] at H
   obtain ⟨bg145, e_bg145⟩ : ∃ z, z = (bg58.set s.qg.length (yc (bg58[s.qg.length]!) ((s.qf[i]!).xO) (counts[i]!))) := ⟨_, rfl⟩
   rw [← e_bg145] at H
   have E_bg145 := Ent.add (D := 1000000) E_bg58 e_bg145 (by omega) (by first | exact bn1.mul (by omega) | exact bn2.mul (by omega) | exact bn3.mul (by omega) | exact bn4.mul (by omega)) (by omega)
   have z_bg145 := E_bg145.sh.1
   have E_cur := E_bg145
   refine ⟨H.pick [0, 1, 2, 3, 4, 5, 7, 8] [3, 4, 5, 6, 7, 8, 9, 10, 11, 12, 13, 14, 15, 16, 17, 18, 19], ?_⟩
   refine xZ (by kernel_rfl) (t_n ?_)
   refine qh (qp ?_)
   refine sw (qH b31 (0) 7 Tryz.underlying110 rfl rfl Tryz.sizeOf108 rfl ?_)
   refine sw (qC (.slice yA (((s.qf[i]!).qx).length) yz) Tryz.isAgg108 rfl (H.cell 1 rfl rfl) ?_)
   refine sw (zK Tryz.underlying108 yA (((s.qf[i]!).qx).length) yz rfl ?_)
   refine sp (.int .i64 0) ?_
   refine qo (t_n (xn ?_))
   refine zC (fun m' ρ w146 => ∃ (junk : Env) (k : Nat) (bags_1 : List (List Int)) (x_bags_1 : List Value) (F_bags_1 : List Nat), ρ = upd (upd (upd (upd junk 10 (.func (.func 143) #[] #[pp b29 0, pp b33 0])) 40 (.slice yA (((s.qf[i]!).qx).length) yz)) 41 (.int .i64 (((s.qf[i]!).qx).length))) 42 (.int .i64 k) ∧ ((k : Int) ≤ (((s.qf[i]!).qx).length)) ∧ (Ent (s.qg.length + 1) (yQ s) (fun p q => putsOf s t counts cell i p q + at' p (s.qf[i]!).qw.toNat (((counts)[i]!) * ((s.qf[i]!).xe)[q]!) + at' p (outPl s t (s.qf[i]!)) (((counts)[i]!) * ((s.qf[i]!).xO)[q]!) + intoF (s.qf[i]!) ((counts)[i]!) k p q) (3000000 + 6000000 * i + 1000000 * k) bags_1) ∧ (bags_1.length = s.qg.length + 1) ∧ m' = ((((s.qf[i]!).qx).length) - (k : Int)).toNat ∧ Fresh w.heap.size [F_bags_1] ∧ St w w146 [.box b33 [.int .i64 (counts[i]!)] 2, .box b31 [.int .i64 ((s.qf[i]!).qw), .int .i64 ((s.qf[i]!).xM), .slice QV (((s.qf[i]!).qI).length) QS, .slice QX (((s.qf[i]!).qW).length) QU, .slice QW (((s.qf[i]!).qX).length) QT, .slice yM (((s.qf[i]!).xe).length) yJ, .slice yH (((s.qf[i]!).xO).length) yG, .slice yA (((s.qf[i]!).qx).length) yz, .bool ((s.qf[i]!).xG)] 110, .box b29 [.slice (aa b36 0) ((xW s (s.qg.length + 1)).length) rc5] 27, .box b27 [.slice xu t.qy.length qZ, .slice xB t.qG.length xx, .slice qV t.qB.length qU] 38, .box b25 [.int .i64 s.qF, .slice qm s.qg.length ql, .slice (aa b17 o18) s.qf.length qA] 36, .box b21 [.int .i64 ((s.qf[i]!).qw), .int .i64 ((s.qf[i]!).xM), .slice QV (((s.qf[i]!).qI).length) QS, .slice QX (((s.qf[i]!).qW).length) QU, .slice QW (((s.qf[i]!).qX).length) QT, .slice yM (((s.qf[i]!).xe).length) yJ, .slice yH (((s.qf[i]!).xO).length) yG, .slice yA (((s.qf[i]!).qx).length) yz, .bool ((s.qf[i]!).xG)] 110, .row (.slice (aa b36 0) ((xW s (s.qg.length + 1)).length) rc5) 22 1 ((xW s (s.qg.length + 1)).length) x_bags_1, .box b3 [.slice xu t.qy.length qZ, .slice xB t.qG.length xx, .slice qV t.qB.length qU] 38, .box b1 [.int .i64 s.qF, .slice qm s.qg.length ql, .slice (aa b17 o18) s.qf.length qA] 36] [jo true F_bags_1 x_bags_1 bags_1, isF false Fe20Need (.slice QV (((s.qf[i]!).qI).length) QS) ((s.qf[i]!).qI), isF false Fe20Have (.slice QX (((s.qf[i]!).qW).length) QU) ((s.qf[i]!).qW), isF false Fe20Lack (.slice QW (((s.qf[i]!).qX).length) QT) ((s.qf[i]!).qX), isF false Fe20Here (.slice yM (((s.qf[i]!).xe).length) yJ) ((s.qf[i]!).xe), isF false Fe20Out (.slice yH (((s.qf[i]!).xO).length) yG) ((s.qf[i]!).xO), isF false Fe20Into (.slice yA (((s.qf[i]!).qx).length) yz) ((s.qf[i]!).qx), atF b17 (o18 + (i : Int).toNat * 9) [.int .i64 ((s.qf[i]!).qw), .int .i64 ((s.qf[i]!).xM), .slice QV (((s.qf[i]!).qI).length) QS, .slice QX (((s.qf[i]!).qW).length) QU, .slice QW (((s.qf[i]!).qX).length) QT, .slice yM (((s.qf[i]!).xe).length) yJ, .slice yH (((s.qf[i]!).xO).length) yG, .slice yA (((s.qf[i]!).qx).length) yz, .bool ((s.qf[i]!).xG)], isF false qL (.slice qm s.qg.length ql) s.qg, isF false xk (.slice (aa b17 o18) s.qf.length qA) s.qf, isF false xY (.slice xu t.qy.length qZ) t.qy, isF false zG (.slice xB t.qG.length xx) t.qG, isF false xJ (.slice qV t.qB.length qU) t.qB, isF false Fcounts (.slice (aa b14 o15) counts.length ccounts) counts]) (((((s.qf[i]!).qx).length) - (0 : Int)).toNat) ⟨_, 0, bg145, xs142, F143, (by exact qj (qj (qj (qj (rfl) rfl) rfl) rfl) rfl), (by omega), (by exact E_cur.to (fun p q => by rw [po]; simp only [intoF]; first | omega | (simp only [Int.toNat_natCast]; omega)) (by omega)), (by omega), rfl, N, H.pick [0, 1, 2, 3, 4, 5, 6, 7, 8] [0, 6, 7, 8, 9, 10, 11, 12, 14, 15, 16, 17, 18, 19]⟩ ?_
   clear H N
   rintro m' ρ w147 ⟨junk, k, bags_1, x_bags_1, F_bags_1, rfl, i0, E_bags_1, z_bags_1, rfl, N, H⟩
   have hn_bags := H.jB (α := List Int) 6 rfl 0 rfl (by decide)
   refine qh (qp ?_)
   refine sp (.bool (decide ((k : Int) < (((s.qf[i]!).qx).length)))) ?_
   refine qo (t_n (qh ?_))
   refine qP (decide ((k : Int) < (((s.qf[i]!).qx).length))) rfl (fun h148 => ?_) (fun h148 => ?_)
   ·skip
    replace h148 := of_decide_eq_true h148
    have qi := q.2.2.2.2.2.2.2.2.2.2 k (by omega)
    have qi1 := qi.1
    have bn4 := qi.2.2.1
    have ln4 := bn4.len
    refine xg (t_n (qh (xn (qh (qp ?_)))))
    obtain ⟨b149, o150, rfl⟩ := H.addr 6 rfl (by omega)
    obtain ⟨ae152Bag, ce152Bag, Fe152Bag, H⟩ := H.vP 6 rfl k k (by omega) (by omega) (by omega)
    refine sw (xE k Tryz.underlying108 ti115 rfl rfl (by omega) (by omega) ?_)
    refine sw (zn [.int .i64 ((((s.qf[i]!).qx)[k]!).qw), .slice ae152Bag (((((s.qf[i]!).qx)[k]!).zF).length) ce152Bag] Tryz.isAgg115 Tryz.sizeOf115 rfl (qK (H.get 1 rfl) 0 2) ?_)
    refine sw (QP H ti115 [.int .i64 0, .slice none 0 0] fun b153 w154 H => ?_)
    refine sw (QO H 0 [.int .i64 ((((s.qf[i]!).qx)[k]!).qw), .slice ae152Bag (((((s.qf[i]!).qx)[k]!).zF).length) ce152Bag] Tryz.sizeOf115 fun w155 H => ?_)
    try dsimp only [List.set] at H
    refine qo (t_n (qp ?_))
    refine sp (.func (.func 143) #[] #[pp b29 0, pp b33 0]) ?_
    refine sw (qH b153 (0) 0 Tryz.underlying115 rfl rfl Tryz.sizeOf2 rfl ?_)
    refine sw (qC (.int .i64 ((((s.qf[i]!).qx)[k]!).qw)) Tryz.isAgg2 rfl (H.cell 0 rfl rfl) ?_)
    refine sw (qH b153 (0) 1 Tryz.underlying115 rfl rfl Tryz.sizeOf22 rfl ?_)
    refine sw (qC (.slice ae152Bag (((((s.qf[i]!).qx)[k]!).zF).length) ce152Bag) Tryz.isAgg22 rfl (H.cell 0 rfl rfl) ?_)
    refine sw (yw #[.int .i64 ((((s.qf[i]!).qx)[k]!).qw), .slice ae152Bag (((((s.qf[i]!).qx)[k]!).zF).length) ce152Bag, pp b29 0, pp b33 0] rfl rfl Tryz.call143 ?_)
    refine enter (n := 16) Tryz.func143 rfl Tryz.ntmps143 (Nat.le_of_ble_eq_true rfl) ?_
    refine QI rfl H [0, 1, 2, 3, 4, 5, 6, 8, 9] fun H => ?_
    have S := H.QN [0, 1, 2, 3, 4, 5, 6, 8, 9] [0, 1, 2, 3, 4, 5, 6, 7, 8, 9, 10, 11, 12, 13, 14, 15]
    refine rt 0 (.slice (aa b36 0) ((xW s (s.qg.length + 1)).length) rc5) (xw Tryz.isAgg27 rfl (fun _ h => h.cell 3 rfl rfl)) S ?_
    refine rtp 1 (.int .i64 ((((s.qf[i]!).qx)[k]!).qw)) S ?_
    refine rt 2 (.slice (aa b36 0) ((xW s (s.qg.length + 1)).length) rc5) (xw Tryz.isAgg27 rfl (fun _ h => h.cell 3 rfl rfl)) S ?_
    refine rtp 3 (.int .i64 ((((s.qf[i]!).qx)[k]!).qw)) S ?_
    refine rt 4 (pp b36 (0 + ((((s.qf[i]!).qx)[k]!).qw : Int).toNat * 1)) (xQ b36 (0) ((xW s (s.qg.length + 1)).length) rc5 ((((s.qf[i]!).qx)[k]!).qw) Tryz.underlying27 ti22 rfl rfl (by omega) (by omega)) S ?_
    refine rtp 6 (.slice ae152Bag (((((s.qf[i]!).qx)[k]!).zF).length) ce152Bag) S ?_
    refine rt 7 (.int .i64 (counts[i]!)) (xw Tryz.isAgg2 rfl (fun _ h => h.cell 1 rfl rfl)) S ?_
    refine zt [5] (by kernel_rfl) (by simp) (yF rfl ?_ zu)
    obtain ⟨a157, c158, G159, s160, h161, H⟩ := H.Qb 7 rfl 2 rfl (iv := (((s.qf[i]!).qx)[k]!).qw) (((((s.qf[i]!).qx)[k]!).qw).toNat) (by omega) (by omega)
    refine qC (.slice a157 ((bags_1[((((s.qf[i]!).qx)[k]!).qw).toNat]!).length) c158) Tryz.isAgg22 rfl (h161) ?_
    refine ⟨H.pick [0, 1, 2, 3, 4, 5, 6, 8, 9] [1, 2, 3, 4, 5, 6, 7, 8, 9, 10, 11, 12, 13, 14, 15, 16], ?_⟩
    refine zt [8] (by kernel_rfl) (by simp) (yF rfl ?_ zu)
    obtain ⟨u1, u2⟩ := E_bags_1.sh.row (c := ((((s.qf[i]!).qx)[k]!).qw).toNat) (by omega) p8 (by omega)
    have u4 := (by first | exact bn1.jw (by omega) | exact bn2.jw (by omega) | exact bn3.jw (by omega) | exact bn4.jw (by omega) : SmallT ((((s.qf[i]!).qx)[k]!).zF) (counts[i]!))
    have sz162 := H.base.size
    have lt163 := H.ltN (L := [F_bags_1]) [3]
    refine xm #[.slice a157 ((bags_1[((((s.qf[i]!).qx)[k]!).qw).toNat]!).length) c158, .slice ae152Bag (((((s.qf[i]!).qx)[k]!).zF).length) ce152Bag, .int .i64 (counts[i]!)] rfl rfl Tryz.call100 (plus_ok w155.drew (bags_1[((((s.qf[i]!).qx)[k]!).qw).toNat]!) ((((s.qf[i]!).qx)[k]!).zF) (counts[i]!) a157 c158 G159 ae152Bag ce152Bag Fe152Bag (H.get 0 rfl).1 (H.get 1 rfl).1 (by first | assumption | omega) (by first | assumption | omega) (by first | assumption | omega)) ?_
    rintro v167 w165 r167 x166
    replace H := H.jh x166 r167
    obtain ⟨a168, c169, rfl, hc170, hm171⟩ := H.Xe 0 rfl
    refine ⟨H.pick [1, 2, 3, 4, 5, 6, 7, 9, 10] [1, 2, 3, 4, 5, 6, 7, 8, 9, 10, 11, 12, 13, 14, 15, 16], ?_⟩
    refine rt 9 (pp b36 (0 + ((((s.qf[i]!).qx)[k]!).qw : Int).toNat * 1)) (xQ b36 (0) ((xW s (s.qg.length + 1)).length) rc5 ((((s.qf[i]!).qx)[k]!).qw) Tryz.underlying27 ti22 rfl rfl (by omega) (by omega)) (H.pick [1, 2, 3, 4, 5, 6, 7, 9, 10] [1, 2, 3, 4, 5, 6, 7, 8, 9, 10, 11, 12, 13, 14, 15, 16]) ?_
    refine zt [10] (by kernel_rfl) (by simp) (yF rfl ?_ zu)
    obtain ⟨G173, N, hn174, H⟩ := H.Xm 0 rfl N (H.awayN [3])
    try dsimp only [List.set] at H
    refine yg true H 8 rfl 4 rfl (.slice a168 ((yc (bags_1[((((s.qf[i]!).qx)[k]!).qw).toNat]!) ((((s.qf[i]!).qx)[k]!).zF) (counts[i]!)).length) c169) 0 rfl rfl Tryz.sizeOf22 rfl rfl (i := (((((s.qf[i]!).qx)[k]!).qw).toNat)) (by omega) (by omega) (by simp) fun w172 xs175 F176 hs177 H => ?_
    replace N : Fresh w.heap.size [F176] := (N.pick [1, 0]).repl hs177
    try dsimp only [List.set] at H
    refine ⟨H.pick [1, 2, 3, 4, 5, 6, 7, 9, 10] [3, 4, 5, 6, 7, 8, 9, 10, 11, 12, 13, 14, 15, 16, 17, 18], ?_⟩
    refine xZ (by kernel_rfl) (?_)
    refine ret0 rfl ⟨_, rfl, ?_⟩
    replace H := H.erases [0]
    dsimp only [Qr, List.eraseIdx] at H
    obtain ⟨bg178, e_bg178⟩ : ∃ z, z = (bags_1.set (((((s.qf[i]!).qx)[k]!).qw).toNat) (yc (bags_1[((((s.qf[i]!).qx)[k]!).qw).toNat]!) ((((s.qf[i]!).qx)[k]!).zF) (counts[i]!))) := ⟨_, rfl⟩
    rw [← e_bg178] at H
    have E_bg178 := Ent.add (D := 1000000) E_bags_1 e_bg178 (by omega) (by first | exact bn1.mul (by omega) | exact bn2.mul (by omega) | exact bn3.mul (by omega) | exact bn4.mul (by omega)) (by omega)
    have z_bg178 := E_bg178.sh.1
    have E_cur := E_bg178
    refine qo (b_n (t_n (qp ?_)))
    refine sw (zD k 1 rfl rfl (by omega) ?_)
    refine sp (.int .i64 (k + 1)) ?_
    refine qo ?_
    refine xy (m' := ((((s.qf[i]!).qx).length) - ((k + 1) : Int)).toNat) (by omega) ⟨_, k + 1, bg178, xs175, F176, (by exact qj (qj (qj (qj (rfl) rfl) rfl) rfl) rfl), ?_, ?_, ?_, rfl, N, H.pick [1, 2, 3, 4, 5, 6, 7, 8, 9] [0, 6, 7, 8, 9, 10, 11, 12, 13, 14, 15, 16, 17, 18]⟩
    · omega
    · exact E_cur.to (fun p q => by simp only [intoF]; omega) (by omega)
    · omega
   replace h148 := of_decide_eq_false h148
   refine zx (t_x (t_x (b_x ?_)))
   refine ret0 rfl ⟨_, rfl, ?_⟩
   replace H := H.erases [4, 3, 2, 1, 0]
   dsimp only [Qr, List.eraseIdx] at H
   refine qo (b_n (t_n (qp ?_)))
   refine sw (zD i 1 rfl rfl (by omega) ?_)
   refine sp (.int .i64 (i + 1)) ?_
   refine qo ?_
   refine xy (m' := (counts.length - ((i + 1) : Int)).toNat) (by omega) ⟨_, i + 1, bags_1, x_bags_1, F_bags_1, (by exact qj (qj (qj (qj (qj (qj (qj (rfl) rfl) rfl) rfl) rfl) rfl) rfl) rfl), ?_, ?_, ?_, rfl, N, H.pick [1, 2, 3] [0, 8, 9, 10, 11, 12, 13]⟩
   · omega
   · first | exact E_bags.to (fun p q => by rw [puts_no (i := i) (by assumption)]) (by omega) | exact E_bags_1.to (fun p q => by rw [show k = ((s.qf[i]!).qx).length by omega, puts_yes (i := i) (by assumption)]; simp only [putF]; omega) (by omega)
   · omega
  replace h24 := ne_of_beq_false h24
  refine xg (b_n (t_n (qp ?_)))
  refine sw (zD i 1 rfl rfl (by omega) ?_)
  refine sp (.int .i64 (i + 1)) ?_
  refine qo ?_
  refine xy (m' := (counts.length - ((i + 1) : Int)).toNat) (by omega) ⟨_, i + 1, bags, x_bags, F_bags, (by exact qj (qj (qj (qj (qj (qj (qj (rfl) rfl) rfl) rfl) rfl) rfl) rfl) rfl), ?_, ?_, ?_, rfl, N, H.pick [1, 2, 3] [7, 8, 9, 10, 11, 12, 13]⟩
  · omega
  · first | exact E_bags.to (fun p q => by rw [puts_no (i := i) (by assumption)]) (by omega) | exact E_bags_1.to (fun p q => by rw [show k = ((s.qf[i]!).qx).length by omega, puts_yes (i := i) (by assumption)]; simp only [putF]; omega) (by omega)
  · omega
 replace h13 := of_decide_eq_false h13
 refine zx (t_x (t_x (b_x (t_n (qh (qp ?_))))))
 refine sps [.slice ra5 ((xW s (s.qg.length + 1)).length) rc5, .slice ra5 ((xW s (s.qg.length + 1)).length) rc5] ?_
 refine qo (t_n (xh ?_))
 refine ret1 (.slice ra5 ((xW s (s.qg.length + 1)).length) rc5) rfl rfl ⟨_, rfl, ?_, H.base⟩
 rw [show putsL s t counts cell = bags from (E_bags.to (fun p q => by rw [show i = s.qf.length by omega]) (Int.le_refl _)).tab.symm]
 exact ⟨ra5, (xW s (s.qg.length + 1)).length, rc5, x_bags, F_bags, rfl, N, H.pick [0] [0]⟩

theorem implPuts_ok (w : World) (s : qR) (t : xF) (cell : Int) (qm : Option Addr) (ql : Nat) (qL : List Nat) (qE : Option Addr) (qA : Nat) (xk : List Nat) (xu : Option Addr) (qZ : Nat) (xY : List Nat) (xB : Option Addr) (xx : Nat) (zG : List Nat) (qV : Option Addr) (qU : Nat) (xJ : List Nat) (qY : qM.rep w qL [.slice qm s.qg.length ql] s.qg) (xA : qM.rep w xk [.slice qE s.qf.length qA] s.qf) (zo : qM.rep w xY [.slice xu t.qy.length qZ] t.qy) (zT : qM.rep w zG [.slice xB t.qG.length xx] t.qG) (xR : qM.rep w xJ [.slice qV t.qB.length qU] t.qB) : Calls Tryz.prog 13 #[.agg #[.int .i64 s.qF, .slice qm s.qg.length ql, .slice qE s.qf.length qA], .agg #[.slice xu t.qy.length qZ, .slice xB t.qG.length xx, .slice qV t.qB.length qU], .int .i64 cell] w (Ret (fun v w' => ∃ (ra0 : Option Addr) (rn0 : Nat) (rc0 : Nat) (rx0 : List Value) (rF0 : List Nat), v = .tuple #[.slice ra0 rn0 rc0, .int .i64 ((xq s t cell).2)] ∧ Fresh w.heap.size [rF0] ∧ St w w' [.row (.slice ra0 rn0 rc0) 22 1 rn0 rx0] [jo true rF0 rx0 ((xq s t cell).1)]) w) := by
 refine enter (n := 32) Tryz.func13 rfl Tryz.ntmps13 (Nat.le_of_ble_eq_true rfl) ?_
 have H := (((((St.start w).arg xR).arg zT).arg zo).arg xA).arg qY
 have zH := qJ qY
 have vN := qJ xA
 have QB := qJ zo
 have nhtBags := qJ zT
 have yS := qJ xR
 clear qY xA zo zT xR
 have N := Fresh.nil w.heap.size
 refine qh (qp ?_)
 refine sw (jy H [.int .i64 s.qF, .slice qm s.qg.length ql, .slice qE s.qf.length qA] fun b1 w2 H => ?_)
 refine sw (jy H [.slice xu t.qy.length qZ, .slice xB t.qG.length xx, .slice qV t.qB.length qU] fun b3 w4 H => ?_)
 refine sps [.slice none 0 0, .int .i64 0] ?_
 refine qo (t_n (qh (qh (qp ?_))))
 refine sw (zn [.int .i64 s.qF, .slice qm s.qg.length ql, .slice qE s.qf.length qA] Tryz.isAgg36 Tryz.sizeOf36 rfl (qK (H.cells 1 rfl) 0 3) ?_)
 refine sw (zn [.slice xu t.qy.length qZ, .slice xB t.qG.length xx, .slice qV t.qB.length qU] Tryz.isAgg38 Tryz.sizeOf38 rfl (qK (H.cells 0 rfl) 0 3) ?_)
 refine sw (xm #[.agg #[.int .i64 s.qF, .slice qm s.qg.length ql, .slice qE s.qf.length qA], .agg #[.slice xu t.qy.length qZ, .slice xB t.qG.length xx, .slice qV t.qB.length qU]] rfl rfl Tryz.call49 (isWhole_ok w4 s t qm ql qL qE qA xk xu qZ xY xB xx zG qV qU xJ (H.get 0 rfl).1 (H.get 1 rfl).1 (H.get 2 rfl).1 (H.get 3 rfl).1 (H.get 4 rfl).1) ?_)
 rintro _ w6 rfl x7
 replace H := H.ext x7
 refine sps [.bool (!(dec ((Qj s ∧ zY s t) ∧ Whole t))), .bool (!(dec ((Qj s ∧ zY s t) ∧ Whole t)))] ?_
 cases h8 : (!(dec ((Qj s ∧ zY s t) ∧ Whole t)))
 ·skip
  replace h8 := qN h8
  replace h8 := vT h8
  refine qO 13 rfl rfl ?_
  refine sw (zn [.int .i64 s.qF, .slice qm s.qg.length ql, .slice qE s.qf.length qA] Tryz.isAgg36 Tryz.sizeOf36 rfl (qK (H.cells 1 rfl) 0 3) ?_)
  refine qO 13 rfl rfl ?_
  refine sw (xm #[.agg #[.int .i64 s.qF, .slice qm s.qg.length ql, .slice qE s.qf.length qA]] rfl rfl Tryz.call50 (canMeltAny_ok w6 s qm ql qL qE qA xk (H.get 0 rfl).1 (H.get 1 rfl).1) ?_)
  rintro _ w10 rfl x11
  replace H := H.ext x11
  refine sp (.bool (dec (¬ Still s))) ?_
  refine qo (t_n ?_)
  refine qP (dec (¬ Still s)) rfl (fun h12 => ?_) (fun h12 => ?_)
  ·skip
   replace h12 := vT h12
   refine qh (qp ?_)
   refine sps [.slice none 0 0, .int .i64 1] ?_
   refine qo (t_n (xh (t_r ?_)))
   replace H := H.nilRow 22 1
   replace H := H.Qp (α := List Int)
   refine ret2 (.slice none 0 0) (.int .i64 1) rfl rfl rfl ⟨_, rfl, ?_, H.base⟩
   rw [puts_1 (fun h => by obtain ⟨z1, z2, z3, z4⟩ := h; first | contradiction | exact absurd (And.intro z3 z4) (by assumption) | exact absurd (And.intro (And.intro z1 z3) z4) (by assumption))]
   exact ⟨none, 0, 0, [], [], rfl, N.emp, H.pick [0] [0]⟩
  replace h12 := xP h12
  have kz := (by assumption : (Qj s ∧ zY s t) ∧ Whole t)
  have k1 := kz.1.1
  have k2 := kz.1.2
  have kw := kz.2
  have ks : Still s := Classical.byContradiction (by assumption)
  have kq := And.intro k1 (And.intro ks (And.intro k2 kw))
  have k3 := first_cnt k1 k2
  refine xg (t_n (qh (qh (qp ?_))))
  refine sw (zn [.int .i64 s.qF, .slice qm s.qg.length ql, .slice qE s.qf.length qA] Tryz.isAgg36 Tryz.sizeOf36 rfl (qK (H.cells 1 rfl) 0 3) ?_)
  refine sp (.int .i64 cell) ?_
  refine sw (xm #[.agg #[.int .i64 s.qF, .slice qm s.qg.length ql, .slice qE s.qf.length qA], .int .i64 cell] rfl rfl Tryz.call51 (isCell_ok w10 s cell qm ql qL qE qA xk (H.get 0 rfl).1 (H.get 1 rfl).1) ?_)
  rintro _ w14 rfl x15
  replace H := H.ext x15
  refine sp (.bool (!(inR cell 0 ((s.qg.length : Int) - 1)))) ?_
  refine qo (t_n ?_)
  refine qP (!(inR cell 0 ((s.qg.length : Int) - 1))) rfl (fun h16 => ?_) (fun h16 => ?_)
  ·skip
   replace h16 := qQ h16
   replace h16 := Qx h16
   refine qh (qp ?_)
   refine sps [.slice none 0 0, .int .i64 2] ?_
   refine qo (t_n (xh (t_r ?_)))
   replace H := H.nilRow 22 1
   replace H := H.Qp (α := List Int)
   refine ret2 (.slice none 0 0) (.int .i64 2) rfl rfl rfl ⟨_, rfl, ?_, H.base⟩
   rw [puts_2 kq (by first | assumption | exact fun h => absurd h (by assumption))]
   exact ⟨none, 0, 0, [], [], rfl, N.emp, H.pick [0] [0]⟩
  replace h16 := qN h16
  replace h16 := yZ.1 h16
  have kc : CellIn s cell := by assumption
  have kc1 := kc
  refine xg (t_n (qh ?_))
  refine jf rfl H fun H => ?_
  refine rt 0 (.agg #[.int .i64 s.qF, .slice qm s.qg.length ql, .slice qE s.qf.length qA]) (yu (cs := [.int .i64 s.qF, .slice qm s.qg.length ql, .slice qE s.qf.length qA]) Tryz.isAgg36 Tryz.sizeOf36 rfl (fun _ h => qK (h.cells 1 rfl) 0 3)) H ?_
  refine rt 1 (.agg #[.slice xu t.qy.length qZ, .slice xB t.qG.length xx, .slice qV t.qB.length qU]) (yu (cs := [.slice xu t.qy.length qZ, .slice xB t.qG.length xx, .slice qV t.qB.length qU]) Tryz.isAgg38 Tryz.sizeOf38 rfl (fun _ h => qK (h.cells 0 rfl) 0 3)) H ?_
  refine rt 2 (.agg #[.int .i64 s.qF, .slice qm s.qg.length ql, .slice qE s.qf.length qA]) (yu (cs := [.int .i64 s.qF, .slice qm s.qg.length ql, .slice qE s.qf.length qA]) Tryz.isAgg36 Tryz.sizeOf36 rfl (fun _ h => qK (h.cells 1 rfl) 0 3)) H ?_
  refine rt 3 (.agg #[.slice xu t.qy.length qZ, .slice xB t.qG.length xx, .slice qV t.qB.length qU]) (yu (cs := [.slice xu t.qy.length qZ, .slice xB t.qG.length xx, .slice qV t.qB.length qU]) Tryz.isAgg38 Tryz.sizeOf38 rfl (fun _ h => qK (h.cells 0 rfl) 0 3)) H ?_
  refine rtp 5 (.int .i64 cell) H ?_
  refine zt [4] (by kernel_rfl) (by simp) (yF rfl ?_ zu)
  have sz21 := H.base.size
  refine xm #[.agg #[.int .i64 s.qF, .slice qm s.qg.length ql, .slice qE s.qf.length qA], .agg #[.slice xu t.qy.length qZ, .slice xB t.qG.length xx, .slice qV t.qB.length qU]] rfl rfl Tryz.call53 (firstChoice_ok w14.drew s t qm ql qL qE qA xk xu qZ xY xB xx zG qV qU xJ (H.get 0 rfl).1 (H.get 1 rfl).1 (H.get 2 rfl).1 (H.get 3 rfl).1 (H.get 4 rfl).1 (by first | assumption | omega) (by first | assumption | omega)) ?_
  rintro _ w19 ⟨ra18, rn18, rc18, rfl, M, K⟩ _
  replace H := H.merge K M
  dsimp only [List.cons_append, List.nil_append] at H
  obtain rfl := H.rowNI 0 rfl
  refine ⟨H.pick [1, 2] [0, 1, 2, 3, 4], ?_⟩
  refine zt [6] (by kernel_rfl) (by simp) (yF rfl ?_ zu)
  obtain ⟨G24, hn25, h26⟩ := H.rowIsI 0 rfl
  have sz30 := H.base.size
  refine xm #[.agg #[.int .i64 s.qF, .slice qm s.qg.length ql, .slice qE s.qf.length qA], .agg #[.slice xu t.qy.length qZ, .slice xB t.qG.length xx, .slice qV t.qB.length qU], .slice ra18 ((xC s t).length) rc18, .int .i64 cell] rfl rfl Tryz.call52 (puts_ok w19 s t (xC s t) cell qm ql qL qE qA xk xu qZ xY xB xx zG qV qU xJ ra18 rc18 G24 (H.get 0 rfl).1 (H.get 1 rfl).1 (H.get 2 rfl).1 (H.get 3 rfl).1 (H.get 4 rfl).1 h26 (by first | assumption | omega) (by first | assumption | omega) (by first | assumption | omega)) ?_
  rintro _ w28 ⟨ra27, rn27, rc27, rx27, rF27, rfl, M, K⟩ _
  replace N := N.merge sz30 (by simp) M
  replace H := H.merge K M
  dsimp only [List.cons_append, List.nil_append] at H
  obtain rfl := H.jB (α := List Int) 0 rfl 0 rfl (by decide)
  refine ⟨H.pick [2, 3] [1, 2, 3, 4, 5], ?_⟩
  refine rtp 7 (.slice ra27 ((putsL s t (xC s t) cell).length) rc27) (H.pick [2, 3] [1, 2, 3, 4, 5]) ?_
  refine xZ (by kernel_rfl) (t_n ?_)
  refine qh (qh (qp ?_))
  refine sp (.slice ra27 ((putsL s t (xC s t) cell).length) rc27) ?_
  obtain ⟨G33, hn34, h35⟩ := H.rowIsR (α := List Int) 0 rfl 0 rfl (by decide)
  refine sw (xm #[.slice ra27 ((putsL s t (xC s t) cell).length) rc27] rfl rfl Tryz.call54 (areBags_ok w28 (putsL s t (xC s t) cell) ra27 rc27 G33 h35) ?_)
  rintro _ w37 rfl x38
  replace H := H.ext x38
  refine sp (.bool (!(dec (QL (putsL s t (xC s t) cell) (putsL s t (xC s t) cell).length)))) ?_
  refine qo (t_n ?_)
  refine qP (!(dec (QL (putsL s t (xC s t) cell) (putsL s t (xC s t) cell).length))) rfl (fun h39 => ?_) (fun h39 => ?_)
  ·skip
   replace h39 := qQ h39
   replace h39 := xP h39
   refine qh (qp ?_)
   refine sps [.slice none 0 0, .int .i64 3] ?_
   refine qo (t_n (xh (t_r ?_)))
   replace H := H.nilRow 22 1
   replace H := H.Qp (α := List Int)
   refine ret2 (.slice none 0 0) (.int .i64 3) rfl rfl rfl ⟨_, rfl, ?_, H.base⟩
   rw [puts_3  kq kc rfl (by assumption)]
   exact ⟨none, 0, 0, [], [], rfl, (N.emp.pick [0]), H.pick [0] [0]⟩
  replace h39 := qN h39
  replace h39 := vT h39
  refine xg (t_n (qh (qp ?_)))
  refine sps [.slice ra27 ((putsL s t (xC s t) cell).length) rc27, .slice ra27 ((putsL s t (xC s t) cell).length) rc27, .int .i64 0] ?_
  refine qo (t_n (xh ?_))
  refine ret2 (.slice ra27 ((putsL s t (xC s t) cell).length) rc27) (.int .i64 0) rfl rfl rfl ⟨_, rfl, ?_, H.base⟩
  rw [puts_0  kq kc rfl (by assumption)]
  exact ⟨ra27, (putsL s t (xC s t) cell).length, rc27, rx27, rF27, rfl, N, H.pick [0] [0]⟩
 replace h8 := qQ h8
 replace h8 := xP h8
 refine xN [14, 15] ?_
 refine sp (.bool true) ?_
 refine qo (t_n ?_)
 refine qP true rfl (fun _ => ?_) (fun h => absurd h (by decide))
 refine qh (qp ?_)
 refine sps [.slice none 0 0, .int .i64 1] ?_
 refine qo (t_n (xh (t_r ?_)))
 replace H := H.nilRow 22 1
 replace H := H.Qp (α := List Int)
 refine ret2 (.slice none 0 0) (.int .i64 1) rfl rfl rfl ⟨_, rfl, ?_, H.base⟩
 rw [puts_1 (fun h => by obtain ⟨z1, z2, z3, z4⟩ := h; first | contradiction | exact absurd (And.intro z3 z4) (by assumption) | exact absurd (And.intro (And.intro z1 z3) z4) (by assumption))]
 exact ⟨none, 0, 0, [], [], rfl, N.emp, H.pick [0] [0]⟩

end Go.Proofs.YtkmlihdacnfhdaaGreat
