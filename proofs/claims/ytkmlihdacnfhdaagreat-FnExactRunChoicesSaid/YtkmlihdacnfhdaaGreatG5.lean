/- Walks, printed by program (wip/tools/gv.py): what each function comes to, for all arguments. -/
import Derived.Test.YtkmlihdacnfhdaaGreatG4
import Derived.Test.YtkmlihdacnfhdaaGreatQ
import Derived.Test.YtkmlihdacnfhdaaGreatP2
namespace Go.Proofs.YtkmlihdacnfhdaaGreat
open Go.Proofs.YtkmlihdacnfhdaaGreat.Tot (tot)
open Go.Proofs.YtkmlihdacnfhdaaGreat.Mark (cnt mrk mkd mkd_mark cnt_mark)
open Go.RowKit
set_option linter.unusedVariables false
set_option linter.unusedSimpArgs false
set_option maxRecDepth 100000
set_option maxHeartbeats 4000000



theorem cloneB_ok (w : World) (l : List Bool) (al : Option Addr) (cl : Nat) (Fl : List Nat) (hl : qV.rep w Fl [.slice al l.length cl] l) (p0 : l.length ≤ 1000000) : Calls Tryz.prog 125 #[.slice al l.length cl] w (Ret (fun v w' => ∃ (ra : Option Addr) (rn : Nat) (rc : Nat), v = .slice ra rn rc ∧ Fresh w.heap.size [] ∧ St w w' [.row (.slice ra rn rc) 4 1 rn (l.map (Value.bool))] []) w) := by
 refine enter (n := 8) Tryz.func125 rfl Tryz.ntmps125 (Nat.le_of_ble_eq_true rfl) ?_
 have H := (St.start w).arg hl
 have nhl := qN hl
 clear hl
 have N := Fresh.nil w.heap.size
 refine qm (qA ?_)
 refine sp (.slice none 0 0) ?_
 refine qx (t_n (qm (qm (qA ?_))))
 refine sp (.slice al l.length cl) ?_
 refine sw (o_eqnil Tryz.underlying26 al l.length cl rfl ?_)
 refine qx (t_n ?_)
 refine qW (al.isNone) rfl (fun h1 => ?_) (fun h1 => ?_)
 ·skip
  refine qm (qA ?_)
  refine sp (.slice none 0 0) ?_
  refine qx (t_n (xC (t_r ?_)))
  replace H := H.Va 4
  refine ret1 (.slice none 0 0) rfl rfl ⟨_, rfl, ?_, H.base⟩
  obtain rfl := H.nilOf 0 rfl ‹_›
  exact ⟨none, 0, 0, rfl, N, H.pick [0] []⟩
 refine xk (t_n (qm (qA ?_)))
 refine sw (o_build0 H Tryz.underlying26 ti4 fun b2 w3 H => ?_)
 refine sp (.slice al l.length cl) ?_
 replace H := H.boxRowB 0 [] 0
 try dsimp only [List.set] at H
 refine sw (o_appendFR H 0 rfl 0 rfl Tryz.underlying26 ti4 rfl (by decide) rfl rfl (by unfold maxLen; omega) (by omega) fun a4 c5 w6 us7 G8 H hG9 => ?_)
 obtain ⟨_, rfl⟩ := reps_bools (H.get 0 rfl).1
 replace H := H.sub _ fun f hf => List.mem_cons_of_mem _ hf
 rw [catB] at H
 try dsimp only [List.set] at H
 refine sp (.slice a4 (0 + l.length) c5) ?_
 refine qx (t_n (xC ?_))
 refine ret1 (.slice a4 (0 + l.length) c5) rfl rfl ⟨_, rfl, ?_, H.base⟩
 exact ⟨a4, 0 + l.length, c5, rfl, N, H.pick [0] []⟩

theorem l02Own_ok (w : World) (t : qU) (bt ot : Nat) (qM : Option Addr) (qI : Nat) (xJ : List Nat) (xF : Option Addr) (xn : Nat) (zq : List Nat) (qL : Option Addr) (qK : Nat) (xI : List Nat) (ht : jb w bt ot [.slice qM t.qh.length qI, .slice xF t.qp.length xn, .slice qL t.ql.length qK]) (zo : qV.rep w xJ [.slice qM t.qh.length qI] t.qh) (zY : qV.rep w zq [.slice xF t.qp.length xn] t.qp) (xW : qV.rep w xI [.slice qL t.ql.length qK] t.ql) (p0 : t.qh.length ≤ 1000000) (p1 : t.ql.length ≤ 1000000) (p2 : t.qp.length ≤ 1000000) (p3 : ∀ k, k < t.qp.length → (t.qp[k]!).length ≤ 1000000) : Calls Tryz.prog 73 #[pp bt ot] w (Ret (fun v w' => ∃ (raAlive : Option Addr) (rnAlive : Nat) (rcAlive : Nat) (raBags : Option Addr) (rnBags : Nat) (rcBags : Nat) (rxBags : List Value) (rFBags : List Nat) (raAround : Option Addr) (rnAround : Nat) (rcAround : Nat), v = .agg #[.slice raAlive rnAlive rcAlive, .slice raBags rnBags rcBags, .slice raAround rnAround rcAround] ∧ Fresh w.heap.size [rFBags] ∧ St w w' [.row (.slice raAlive rnAlive rcAlive) 4 1 rnAlive (t.qh.map (Value.bool)), .row (.slice raBags rnBags rcBags) 22 1 rnBags rxBags, .row (.slice raAround rnAround rcAround) 2 1 rnAround (t.ql.map (Value.int .i64))] [vX true rFBags rxBags t.qp]) w) := by
 refine enter (n := 40) Tryz.func73 rfl Tryz.ntmps73 (Nat.le_of_ble_eq_true rfl) ?_
 have H := ((((St.start w).arg xW).arg zY).arg zo).argAt ht
 have QB := qN zo
 have Xn := qN zY
 have yT := qN xW
 clear ht zo zY xW
 have N := Fresh.nil w.heap.size
 refine qm (qA ?_)
 refine sw (zn H ti38 [.slice none 0 0, .slice none 0 0, .slice none 0 0] fun b1 w2 H => ?_)
 refine qx (t_n (qm ?_))
 refine c_cut (fun ρ w3 => ∃ (junk : Env) (b4 : Nat) (a5 : Option Addr) (c6 : Nat) (a7 : Option Addr) (c8 : Nat), ρ = upd (upd (upd junk 0 (pp bt ot)) 2 (pp b1 0)) 3 (pp b4 0) ∧ Fresh w.heap.size [] ∧ St w w3 [.box b4 [.slice a5 (0 + t.qh.length) c6, .slice none 0 0, .slice a7 t.ql.length c8] 38, .row (.slice a7 t.ql.length c8) 2 1 t.ql.length (t.ql.map (Value.int .i64)), .row (.slice a5 (0 + t.qh.length) c6) 4 1 (0 + t.qh.length) ((([] : List Bool) ++ t.qh).map (Value.bool)), .box b1 [.slice none 0 0, .slice none 0 0, .slice none 0 0] 38] [atF bt ot [.slice qM t.qh.length qI, .slice xF t.qp.length xn, .slice qL t.ql.length qK], isF false xJ (.slice qM t.qh.length qI) t.qh, isF false zq (.slice xF t.qp.length xn) t.qp, isF false xI (.slice qL t.ql.length qK) t.ql]) ?_ ?_
 ·skip
  refine yw rfl H fun H => ?_
  refine rtp 1 (pp bt ot) H ?_
  refine rtp 2 (pp bt ot) H ?_
  refine rt 3 (pp bt (ot + 0)) (xG bt (ot) 0 Tryz.underlying38 rfl rfl Tryz.sizeOf26 rfl) H ?_
  refine rt 4 (.slice qM t.qh.length qI) (xA Tryz.isAgg26 rfl (fun _ h => h.xY 0 rfl 0 rfl)) H ?_
  refine rtp 6 (pp bt ot) H ?_
  refine rtp 7 (pp bt ot) H ?_
  refine rt 8 (pp bt (ot + 2)) (xG bt (ot) 2 Tryz.underlying38 rfl rfl Tryz.sizeOf22 rfl) H ?_
  refine rt 9 (.slice qL t.ql.length qK) (xA Tryz.isAgg22 rfl (fun _ h => h.xY 0 rfl 2 rfl)) H ?_
  refine xq [0, 12] (by kernel_rfl) (by simp) (xZ rfl ?_ (xZ rfl ?_ xu))
  ·skip
   refine o_build0 H Tryz.underlying26 ti4 fun b10 w11 H => ?_
   refine ⟨H.pick [1] [0, 1, 2, 3], ?_⟩
   refine xq [5, 12] (by kernel_rfl) (by simp) (xZ rfl ?_ (xZ rfl ?_ xu))
   ·skip
    replace H := H.boxRowB 0 [] 0
    try dsimp only [List.set] at H
    refine o_appendFR H 0 rfl 1 rfl Tryz.underlying26 ti4 rfl (by decide) rfl rfl (by unfold maxLen; omega) (by omega) fun a12 c13 w14 us15 G16 H hG17 => ?_
    obtain ⟨_, rfl⟩ := reps_bools (H.get 0 rfl).1
    replace H := H.sub _ fun f hf => List.mem_cons_of_mem _ hf
    rw [catB] at H
    try dsimp only [List.set] at H
    refine ⟨H.pick [1] [0, 1, 2, 3], ?_⟩
    refine xq [10, 12] (by kernel_rfl) (by simp) (xZ rfl ?_ (xZ rfl ?_ xu))
    ·skip
     have sz18 := H.base.size
     refine qZ #[.slice qL t.ql.length qK] rfl rfl Tryz.call120 (l00Own_ok w14 t.ql qL qK xI (H.get 3 rfl).1 (by first | assumption | omega)) ?_
     rintro v23 w21 r23 x22
     replace H := H.zJ x22 r23
     obtain ⟨a24, c25, rfl, hc26, hm27⟩ := H.jv 0 rfl
     refine ⟨H.pick [2] [0, 1, 2, 3], ?_⟩
     refine xq [11, 12] (by kernel_rfl) (by simp) (xZ rfl ?_ (xZ rfl ?_ xu))
     ·skip
      refine jo [.slice a12 (0 + t.qh.length) c13, .slice none 0 0, .slice a24 t.ql.length c25] [(0, .slice a12 (0 + t.qh.length) c13), (2, .slice a24 t.ql.length c25)] ?_
      refine ⟨H.pick [2] [0, 1, 2, 3], ?_⟩
      refine xq [12] (by kernel_rfl) (by simp) (xZ rfl ?_ xu)
      refine zn H ti38 [.slice none 0 0, .slice none 0 0, .slice none 0 0] fun b28 w29 H => ?_
      refine ⟨H.pick [3] [0, 1, 2, 3], ?_⟩
      refine xq [13] (by kernel_rfl) (by simp) (xZ rfl ?_ xu)
      refine xP H 0 [.slice a12 (0 + t.qh.length) c13, .slice none 0 0, .slice a24 t.ql.length c25] Tryz.sizeOf38 fun w30 H => ?_
      try dsimp only [List.set] at H
      refine ⟨H.pick [3] [0, 1, 2, 3], ?_⟩
      refine xN (by kernel_rfl) (?_)
      exact meet ⟨_, b28, a12, c13, a24, c25, (by exact qj (qj (qj (rfl) rfl) rfl) rfl), N, H⟩
     refine zn H ti38 [.slice none 0 0, .slice none 0 0, .slice none 0 0] fun b31 w32 H => ?_
     refine ⟨H.pick [3] [0, 1, 2, 3], ?_⟩
     refine xq [11] (by kernel_rfl) (by simp) (xZ rfl ?_ xu)
     refine jo [.slice a12 (0 + t.qh.length) c13, .slice none 0 0, .slice a24 t.ql.length c25] [(0, .slice a12 (0 + t.qh.length) c13), (2, .slice a24 t.ql.length c25)] ?_
     refine ⟨H.pick [3] [0, 1, 2, 3], ?_⟩
     refine xq [13] (by kernel_rfl) (by simp) (xZ rfl ?_ xu)
     refine xP H 0 [.slice a12 (0 + t.qh.length) c13, .slice none 0 0, .slice a24 t.ql.length c25] Tryz.sizeOf38 fun w33 H => ?_
     try dsimp only [List.set] at H
     refine ⟨H.pick [3] [0, 1, 2, 3], ?_⟩
     refine xN (by kernel_rfl) (?_)
     exact meet ⟨_, b31, a12, c13, a24, c25, (by exact qj (qj (qj (rfl) rfl) rfl) rfl), N, H⟩
    refine zn H ti38 [.slice none 0 0, .slice none 0 0, .slice none 0 0] fun b34 w35 H => ?_
    refine ⟨H.pick [2] [0, 1, 2, 3], ?_⟩
    refine xq [10] (by kernel_rfl) (by simp) (xZ rfl ?_ xu)
    have sz36 := H.base.size
    refine qZ #[.slice qL t.ql.length qK] rfl rfl Tryz.call120 (l00Own_ok w35 t.ql qL qK xI (H.get 3 rfl).1 (by first | assumption | omega)) ?_
    rintro v41 w39 r41 x40
    replace H := H.zJ x40 r41
    obtain ⟨a42, c43, rfl, hc44, hm45⟩ := H.jv 0 rfl
    refine ⟨H.pick [3] [0, 1, 2, 3], ?_⟩
    refine xq [11] (by kernel_rfl) (by simp) (xZ rfl ?_ xu)
    refine jo [.slice a12 (0 + t.qh.length) c13, .slice none 0 0, .slice a42 t.ql.length c43] [(0, .slice a12 (0 + t.qh.length) c13), (2, .slice a42 t.ql.length c43)] ?_
    refine ⟨H.pick [3] [0, 1, 2, 3], ?_⟩
    refine xq [13] (by kernel_rfl) (by simp) (xZ rfl ?_ xu)
    refine xP H 1 [.slice a12 (0 + t.qh.length) c13, .slice none 0 0, .slice a42 t.ql.length c43] Tryz.sizeOf38 fun w46 H => ?_
    try dsimp only [List.set] at H
    refine ⟨H.pick [3] [0, 1, 2, 3], ?_⟩
    refine xN (by kernel_rfl) (?_)
    exact meet ⟨_, b34, a12, c13, a42, c43, (by exact qj (qj (qj (rfl) rfl) rfl) rfl), N, H.pick [1, 0, 2, 3] [0, 1, 2, 3]⟩
   refine zn H ti38 [.slice none 0 0, .slice none 0 0, .slice none 0 0] fun b47 w48 H => ?_
   refine ⟨H.pick [2] [0, 1, 2, 3], ?_⟩
   refine xq [5] (by kernel_rfl) (by simp) (xZ rfl ?_ xu)
   replace H := H.boxRowB 1 [] 0
   try dsimp only [List.set] at H
   refine o_appendFR H 1 rfl 1 rfl Tryz.underlying26 ti4 rfl (by decide) rfl rfl (by unfold maxLen; omega) (by omega) fun a49 c50 w51 us52 G53 H hG54 => ?_
   obtain ⟨_, rfl⟩ := reps_bools (H.get 0 rfl).1
   replace H := H.sub _ fun f hf => List.mem_cons_of_mem _ hf
   rw [catB] at H
   try dsimp only [List.set] at H
   refine ⟨H.pick [2] [0, 1, 2, 3], ?_⟩
   refine xq [10] (by kernel_rfl) (by simp) (xZ rfl ?_ xu)
   have sz55 := H.base.size
   refine qZ #[.slice qL t.ql.length qK] rfl rfl Tryz.call120 (l00Own_ok w51 t.ql qL qK xI (H.get 3 rfl).1 (by first | assumption | omega)) ?_
   rintro v60 w58 r60 x59
   replace H := H.zJ x59 r60
   obtain ⟨a61, c62, rfl, hc63, hm64⟩ := H.jv 0 rfl
   refine ⟨H.pick [3] [0, 1, 2, 3], ?_⟩
   refine xq [11] (by kernel_rfl) (by simp) (xZ rfl ?_ xu)
   refine jo [.slice a49 (0 + t.qh.length) c50, .slice none 0 0, .slice a61 t.ql.length c62] [(0, .slice a49 (0 + t.qh.length) c50), (2, .slice a61 t.ql.length c62)] ?_
   refine ⟨H.pick [3] [0, 1, 2, 3], ?_⟩
   refine xq [13] (by kernel_rfl) (by simp) (xZ rfl ?_ xu)
   refine xP H 1 [.slice a49 (0 + t.qh.length) c50, .slice none 0 0, .slice a61 t.ql.length c62] Tryz.sizeOf38 fun w65 H => ?_
   try dsimp only [List.set] at H
   refine ⟨H.pick [3] [0, 1, 2, 3], ?_⟩
   refine xN (by kernel_rfl) (?_)
   exact meet ⟨_, b47, a49, c50, a61, c62, (by exact qj (qj (qj (rfl) rfl) rfl) rfl), N, H.pick [1, 0, 2, 3] [0, 1, 2, 3]⟩
  refine zn H ti38 [.slice none 0 0, .slice none 0 0, .slice none 0 0] fun b66 w67 H => ?_
  refine ⟨H.pick [1] [0, 1, 2, 3], ?_⟩
  refine xq [0] (by kernel_rfl) (by simp) (xZ rfl ?_ xu)
  refine o_build0 H Tryz.underlying26 ti4 fun b68 w69 H => ?_
  refine ⟨H.pick [2] [0, 1, 2, 3], ?_⟩
  refine xq [5] (by kernel_rfl) (by simp) (xZ rfl ?_ xu)
  replace H := H.boxRowB 0 [] 0
  try dsimp only [List.set] at H
  refine o_appendFR H 0 rfl 1 rfl Tryz.underlying26 ti4 rfl (by decide) rfl rfl (by unfold maxLen; omega) (by omega) fun a70 c71 w72 us73 G74 H hG75 => ?_
  obtain ⟨_, rfl⟩ := reps_bools (H.get 0 rfl).1
  replace H := H.sub _ fun f hf => List.mem_cons_of_mem _ hf
  rw [catB] at H
  try dsimp only [List.set] at H
  refine ⟨H.pick [2] [0, 1, 2, 3], ?_⟩
  refine xq [10] (by kernel_rfl) (by simp) (xZ rfl ?_ xu)
  have sz76 := H.base.size
  refine qZ #[.slice qL t.ql.length qK] rfl rfl Tryz.call120 (l00Own_ok w72 t.ql qL qK xI (H.get 3 rfl).1 (by first | assumption | omega)) ?_
  rintro v81 w79 r81 x80
  replace H := H.zJ x80 r81
  obtain ⟨a82, c83, rfl, hc84, hm85⟩ := H.jv 0 rfl
  refine ⟨H.pick [3] [0, 1, 2, 3], ?_⟩
  refine xq [11] (by kernel_rfl) (by simp) (xZ rfl ?_ xu)
  refine jo [.slice a70 (0 + t.qh.length) c71, .slice none 0 0, .slice a82 t.ql.length c83] [(0, .slice a70 (0 + t.qh.length) c71), (2, .slice a82 t.ql.length c83)] ?_
  refine ⟨H.pick [3] [0, 1, 2, 3], ?_⟩
  refine xq [13] (by kernel_rfl) (by simp) (xZ rfl ?_ xu)
  refine xP H 2 [.slice a70 (0 + t.qh.length) c71, .slice none 0 0, .slice a82 t.ql.length c83] Tryz.sizeOf38 fun w86 H => ?_
  try dsimp only [List.set] at H
  refine ⟨H.pick [3] [0, 1, 2, 3], ?_⟩
  refine xN (by kernel_rfl) (?_)
  exact meet ⟨_, b66, a70, c71, a82, c83, (by exact qj (qj (qj (rfl) rfl) rfl) rfl), N, H.pick [2, 0, 1, 3] [0, 1, 2, 3]⟩
 clear H N
 rintro ρ w87 ⟨junk, b4, a5, c6, a7, c8, rfl, N, H⟩
 refine t_n (qm (qm (qA ?_)))
 refine sp (.int .i64 0) ?_
 refine qx (t_n (xE ?_))
 replace H := H.nilRow 22 1
 replace H := H.Qw (α := List Int)
 refine zU (fun m' ρ w88 => ∃ (junk : Env) (c : Nat) (jV : Option Addr) (zB : Nat) (jU : Nat) (out_Bags : List (List Int)) (zA : List Value) (xU : List Nat), ρ = upd (upd (upd (upd junk 0 (pp bt ot)) 2 (pp b1 0)) 3 (pp b4 0)) 4 (.int .i64 c) ∧ out_Bags = t.qp.take c ∧ ((c : Int) ≤ t.qp.length) ∧ m' = (t.qp.length - (c : Int)).toNat ∧ Fresh w.heap.size [xU] ∧ St w w88 [.row (.slice jV zB jU) 22 1 zB zA, .box b4 [.slice a5 (0 + t.qh.length) c6, .slice jV zB jU, .slice a7 t.ql.length c8] 38, .row (.slice a7 t.ql.length c8) 2 1 t.ql.length (t.ql.map (Value.int .i64)), .row (.slice a5 (0 + t.qh.length) c6) 4 1 (0 + t.qh.length) ((([] : List Bool) ++ t.qh).map (Value.bool)), .box b1 [.slice none 0 0, .slice none 0 0, .slice none 0 0] 38] [vX true xU zA out_Bags, atF bt ot [.slice qM t.qh.length qI, .slice xF t.qp.length xn, .slice qL t.ql.length qK], isF false xJ (.slice qM t.qh.length qI) t.qh, isF false zq (.slice xF t.qp.length xn) t.qp, isF false xI (.slice qL t.ql.length qK) t.ql]) ((t.qp.length - (0 : Int)).toNat) ⟨_, 0, none, 0, 0, ([] : List (List Int)), [], [], (by exact qj (qj (qj (qj (rfl) rfl) rfl) rfl) rfl), (by rfl), (by omega), rfl, N.emp, H⟩ ?_
 clear H N
 rintro m' ρ w89 ⟨junk, c, jV, zB, jU, out_Bags, zA, xU, rfl, rfl, i0, rfl, N, H⟩
 have Vp := H.zt (α := List Int) 0 rfl 0 rfl (by decide)
 have p4 := p3 c
 rw [List.length_take_of_le (by omega)] at Vp
 refine qm (qm (qA ?_))
 refine sps [.int .i64 c, pp bt ot, pp bt ot] ?_
 refine sw (qP bt (ot) 1 Tryz.underlying38 rfl rfl Tryz.sizeOf27 rfl ?_)
 refine sw (qE (.slice xF t.qp.length xn) Tryz.isAgg27 rfl (H.xY 1 rfl 1 rfl) ?_)
 refine sw (zX Tryz.underlying27 xF t.qp.length xn rfl ?_)
 refine sp (.bool (decide ((c : Int) < t.qp.length))) ?_
 refine qx (t_n ?_)
 refine qW (decide ((c : Int) < t.qp.length)) rfl (fun h90 => ?_) (fun h90 => ?_)
 ·skip
  replace h90 := of_decide_eq_true h90
  refine xk (t_n (qm (xE ?_)))
  obtain ⟨b91, o92, rfl⟩ := H.addr 3 rfl (by omega)
  refine c_cut (fun ρ w94 => ∃ (junk : Env) (a95 : Option Addr) (c96 : Nat) (a97 : Option Addr) (c98 : Nat) (G99 : List Nat) (F100 : List Nat) (a101 : Option Addr) (c102 : Nat), ρ = upd (upd (upd (upd junk 0 (pp bt ot)) 2 (pp b1 0)) 3 (pp b4 0)) 4 (.int .i64 c) ∧ Fresh w.heap.size [(xU ++ G99)] ∧ St w w94 [.row (.slice a95 (zB + 1) c96) 22 1 (zB + 1) (zA ++ [.slice a97 ((t.qp[c]!).length) c98]), .box b4 [.slice a5 (0 + t.qh.length) c6, .slice a95 (zB + 1) c96, .slice a7 t.ql.length c8] 38, .row (.slice a7 t.ql.length c8) 2 1 t.ql.length (t.ql.map (Value.int .i64)), .row (.slice a5 (0 + t.qh.length) c6) 4 1 (0 + t.qh.length) ((([] : List Bool) ++ t.qh).map (Value.bool)), .box b1 [.slice none 0 0, .slice none 0 0, .slice none 0 0] 38] [vX true (xU ++ G99) (zA ++ [.slice a97 ((t.qp[c]!).length) c98]) ((t.qp.take c) ++ [(t.qp[c]!)]), isF true G99 (.slice a97 ((t.qp[c]!).length) c98) (t.qp[c]!), isF false F100 (.slice a101 ((t.qp[c]!).length) c102) (t.qp[c]!), atF b91 (o92 + (c : Int).toNat * 1) [.slice a101 ((t.qp[c]!).length) c102], atF bt ot [.slice qM t.qh.length qI, .slice (aa b91 o92) t.qp.length xn, .slice qL t.ql.length qK], isF false xJ (.slice qM t.qh.length qI) t.qh, isF false zq (.slice (aa b91 o92) t.qp.length xn) t.qp, isF false xI (.slice qL t.ql.length qK) t.ql]) ?_ ?_
  ·skip
   refine Qa rfl H [2, 3, 4] fun H => ?_
   have S := H.yG [2, 3, 4] [0, 1, 2, 3, 4]
   refine rt 0 (pp b4 (0 + 1)) (xG b4 (0) 1 Tryz.underlying38 rfl rfl Tryz.sizeOf27 rfl) S ?_
   refine rtp 2 (pp bt ot) S ?_
   refine rtp 3 (pp bt ot) S ?_
   refine rt 4 (pp bt (ot + 1)) (xG bt (ot) 1 Tryz.underlying38 rfl rfl Tryz.sizeOf27 rfl) S ?_
   refine rt 5 (.slice (aa b91 o92) t.qp.length xn) (xA Tryz.isAgg27 rfl (fun _ h => h.xY 1 rfl 1 rfl)) S ?_
   refine rtp 6 (.int .i64 c) S ?_
   obtain ⟨ae104, ce104, Fe104, H⟩ := H.yH 3 rfl c c (by omega) (by omega) (by omega)
   refine rt 7 (pp b91 (o92 + (c : Int).toNat * 1)) (xO b91 (o92) t.qp.length xn c Tryz.underlying27 ti22 rfl rfl (by omega) (by omega)) (H.pick [2, 3, 4] [2, 3, 4, 5, 6]) ?_
   refine xq [1, 8] (by kernel_rfl) (by simp) (xZ rfl ?_ (xZ rfl ?_ xu))
   ·skip
    refine qE (.slice jV zB jU) Tryz.isAgg27 rfl (H.cell 1 rfl rfl) ?_
    refine ⟨H.pick [2, 3, 4] [2, 3, 4, 5, 6], ?_⟩
    refine xq [8] (by kernel_rfl) (by simp) (xZ rfl ?_ xu)
    refine qE (.slice ae104 ((t.qp[c]!).length) ce104) Tryz.isAgg22 rfl (H.xY 1 rfl 0 rfl) ?_
    refine ⟨H.pick [2, 3, 4] [2, 3, 4, 5, 6], ?_⟩
    refine xq [9] (by kernel_rfl) (by simp) (xZ rfl ?_ xu)
    have sz105 := H.base.size
    have lt106 := H.ltN (L := [xU]) [2]
    refine qZ #[.slice ae104 ((t.qp[c]!).length) ce104] rfl rfl Tryz.call120 (l00Own_ok w89.drew (t.qp[c]!) ae104 ce104 Fe104 (H.get 0 rfl).1 (by first | assumption | omega)) ?_
    rintro v110 w108 r110 x109
    replace H := H.zJ x109 r110
    obtain ⟨a111, c112, rfl, hc113, hm114⟩ := H.jv 0 rfl
    refine ⟨H.pick [3, 4, 5] [2, 3, 4, 5, 6], ?_⟩
    refine xq [10] (by kernel_rfl) (by simp) (xZ rfl ?_ xu)
    refine Xr H Tryz.underlying27 ti22 [.slice a111 ((t.qp[c]!).length) c112] fun b115 w116 H => ?_
    refine ⟨H.pick [4, 5, 6] [2, 3, 4, 5, 6], ?_⟩
    refine xq [11] (by kernel_rfl) (by simp) (xZ rfl ?_ xu)
    obtain ⟨G120, N, hn121, H⟩ := H.yU 1 rfl N (H.Vg [2])
    try dsimp only [List.set] at H
    refine Xt H 2 rfl 0 rfl Tryz.underlying27 ti22 rfl (by decide) rfl rfl rfl (by simp [Value.oneCell', Value.cells]) (by unfold maxLen; omega) (by omega) fun a117 c118 w119 H => ?_
    try dsimp only [List.set] at H
    replace H := H.repsSnoc 3 rfl 0 rfl
    replace N : Fresh w.heap.size [(xU ++ G120)] := (N.pick [1, 0]).join
    refine ⟨H.pick [4, 5, 6] [4, 5, 6, 7, 8], ?_⟩
    refine rt 12 (pp b4 (0 + 1)) (xG b4 (0) 1 Tryz.underlying38 rfl rfl Tryz.sizeOf27 rfl) (H.pick [4, 5, 6] [4, 5, 6, 7, 8]) ?_
    refine xq [13] (by kernel_rfl) (by simp) (xZ rfl ?_ xu)
    refine Xq H 3 [.slice a5 (0 + t.qh.length) c6, .slice a117 (zB + 1) c118, .slice a7 t.ql.length c8] Tryz.sizeOf27 fun w122 H => ?_
    try dsimp only [List.set] at H
    refine ⟨H.pick [4, 5, 6] [4, 5, 6, 7, 8], ?_⟩
    refine xN (by kernel_rfl) (?_)
    exact meet ⟨_, a117, c118, a111, c112, G120, Fe104, ae104, ce104, (by exact qj (qj (qj (qj (rfl) rfl) rfl) rfl) rfl), N, H.pick [2, 3, 4, 5, 6] [0, 1, 2, 3, 5, 6, 7, 8]⟩
   refine qE (.slice ae104 ((t.qp[c]!).length) ce104) Tryz.isAgg22 rfl (H.xY 1 rfl 0 rfl) ?_
   refine ⟨H.pick [2, 3, 4] [2, 3, 4, 5, 6], ?_⟩
   refine xq [1, 9] (by kernel_rfl) (by simp) (xZ rfl ?_ (xZ rfl ?_ xu))
   ·skip
    refine qE (.slice jV zB jU) Tryz.isAgg27 rfl (H.cell 1 rfl rfl) ?_
    refine ⟨H.pick [2, 3, 4] [2, 3, 4, 5, 6], ?_⟩
    refine xq [9] (by kernel_rfl) (by simp) (xZ rfl ?_ xu)
    have sz123 := H.base.size
    have lt124 := H.ltN (L := [xU]) [2]
    refine qZ #[.slice ae104 ((t.qp[c]!).length) ce104] rfl rfl Tryz.call120 (l00Own_ok w89.drew (t.qp[c]!) ae104 ce104 Fe104 (H.get 0 rfl).1 (by first | assumption | omega)) ?_
    rintro v128 w126 r128 x127
    replace H := H.zJ x127 r128
    obtain ⟨a129, c130, rfl, hc131, hm132⟩ := H.jv 0 rfl
    refine ⟨H.pick [3, 4, 5] [2, 3, 4, 5, 6], ?_⟩
    refine xq [10] (by kernel_rfl) (by simp) (xZ rfl ?_ xu)
    refine Xr H Tryz.underlying27 ti22 [.slice a129 ((t.qp[c]!).length) c130] fun b133 w134 H => ?_
    refine ⟨H.pick [4, 5, 6] [2, 3, 4, 5, 6], ?_⟩
    refine xq [11] (by kernel_rfl) (by simp) (xZ rfl ?_ xu)
    obtain ⟨G138, N, hn139, H⟩ := H.yU 1 rfl N (H.Vg [2])
    try dsimp only [List.set] at H
    refine Xt H 2 rfl 0 rfl Tryz.underlying27 ti22 rfl (by decide) rfl rfl rfl (by simp [Value.oneCell', Value.cells]) (by unfold maxLen; omega) (by omega) fun a135 c136 w137 H => ?_
    try dsimp only [List.set] at H
    replace H := H.repsSnoc 3 rfl 0 rfl
    replace N : Fresh w.heap.size [(xU ++ G138)] := (N.pick [1, 0]).join
    refine ⟨H.pick [4, 5, 6] [4, 5, 6, 7, 8], ?_⟩
    refine rt 12 (pp b4 (0 + 1)) (xG b4 (0) 1 Tryz.underlying38 rfl rfl Tryz.sizeOf27 rfl) (H.pick [4, 5, 6] [4, 5, 6, 7, 8]) ?_
    refine xq [13] (by kernel_rfl) (by simp) (xZ rfl ?_ xu)
    refine Xq H 3 [.slice a5 (0 + t.qh.length) c6, .slice a135 (zB + 1) c136, .slice a7 t.ql.length c8] Tryz.sizeOf27 fun w140 H => ?_
    try dsimp only [List.set] at H
    refine ⟨H.pick [4, 5, 6] [4, 5, 6, 7, 8], ?_⟩
    refine xN (by kernel_rfl) (?_)
    exact meet ⟨_, a135, c136, a129, c130, G138, Fe104, ae104, ce104, (by exact qj (qj (qj (qj (rfl) rfl) rfl) rfl) rfl), N, H.pick [2, 3, 4, 5, 6] [0, 1, 2, 3, 5, 6, 7, 8]⟩
   have sz141 := H.base.size
   have lt142 := H.ltN (L := [xU]) [2]
   refine qZ #[.slice ae104 ((t.qp[c]!).length) ce104] rfl rfl Tryz.call120 (l00Own_ok w89.drew (t.qp[c]!) ae104 ce104 Fe104 (H.get 0 rfl).1 (by first | assumption | omega)) ?_
   rintro v146 w144 r146 x145
   replace H := H.zJ x145 r146
   obtain ⟨a147, c148, rfl, hc149, hm150⟩ := H.jv 0 rfl
   refine ⟨H.pick [3, 4, 5] [2, 3, 4, 5, 6], ?_⟩
   refine xq [1, 10] (by kernel_rfl) (by simp) (xZ rfl ?_ (xZ rfl ?_ xu))
   ·skip
    refine qE (.slice jV zB jU) Tryz.isAgg27 rfl (H.cell 2 rfl rfl) ?_
    refine ⟨H.pick [3, 4, 5] [2, 3, 4, 5, 6], ?_⟩
    refine xq [10] (by kernel_rfl) (by simp) (xZ rfl ?_ xu)
    refine Xr H Tryz.underlying27 ti22 [.slice a147 ((t.qp[c]!).length) c148] fun b151 w152 H => ?_
    refine ⟨H.pick [4, 5, 6] [2, 3, 4, 5, 6], ?_⟩
    refine xq [11] (by kernel_rfl) (by simp) (xZ rfl ?_ xu)
    obtain ⟨G156, N, hn157, H⟩ := H.yU 1 rfl N (H.Vg [2])
    try dsimp only [List.set] at H
    refine Xt H 2 rfl 0 rfl Tryz.underlying27 ti22 rfl (by decide) rfl rfl rfl (by simp [Value.oneCell', Value.cells]) (by unfold maxLen; omega) (by omega) fun a153 c154 w155 H => ?_
    try dsimp only [List.set] at H
    replace H := H.repsSnoc 3 rfl 0 rfl
    replace N : Fresh w.heap.size [(xU ++ G156)] := (N.pick [1, 0]).join
    refine ⟨H.pick [4, 5, 6] [4, 5, 6, 7, 8], ?_⟩
    refine rt 12 (pp b4 (0 + 1)) (xG b4 (0) 1 Tryz.underlying38 rfl rfl Tryz.sizeOf27 rfl) (H.pick [4, 5, 6] [4, 5, 6, 7, 8]) ?_
    refine xq [13] (by kernel_rfl) (by simp) (xZ rfl ?_ xu)
    refine Xq H 3 [.slice a5 (0 + t.qh.length) c6, .slice a153 (zB + 1) c154, .slice a7 t.ql.length c8] Tryz.sizeOf27 fun w158 H => ?_
    try dsimp only [List.set] at H
    refine ⟨H.pick [4, 5, 6] [4, 5, 6, 7, 8], ?_⟩
    refine xN (by kernel_rfl) (?_)
    exact meet ⟨_, a153, c154, a147, c148, G156, Fe104, ae104, ce104, (by exact qj (qj (qj (qj (rfl) rfl) rfl) rfl) rfl), N, H.pick [2, 3, 4, 5, 6] [0, 1, 2, 3, 5, 6, 7, 8]⟩
   refine Xr H Tryz.underlying27 ti22 [.slice a147 ((t.qp[c]!).length) c148] fun b159 w160 H => ?_
   refine ⟨H.pick [4, 5, 6] [2, 3, 4, 5, 6], ?_⟩
   refine xq [1] (by kernel_rfl) (by simp) (xZ rfl ?_ xu)
   refine qE (.slice jV zB jU) Tryz.isAgg27 rfl (H.cell 3 rfl rfl) ?_
   refine ⟨H.pick [4, 5, 6] [2, 3, 4, 5, 6], ?_⟩
   refine xq [11] (by kernel_rfl) (by simp) (xZ rfl ?_ xu)
   obtain ⟨G164, N, hn165, H⟩ := H.yU 1 rfl N (H.Vg [2])
   try dsimp only [List.set] at H
   refine Xt H 2 rfl 0 rfl Tryz.underlying27 ti22 rfl (by decide) rfl rfl rfl (by simp [Value.oneCell', Value.cells]) (by unfold maxLen; omega) (by omega) fun a161 c162 w163 H => ?_
   try dsimp only [List.set] at H
   replace H := H.repsSnoc 3 rfl 0 rfl
   replace N : Fresh w.heap.size [(xU ++ G164)] := (N.pick [1, 0]).join
   refine ⟨H.pick [4, 5, 6] [4, 5, 6, 7, 8], ?_⟩
   refine rt 12 (pp b4 (0 + 1)) (xG b4 (0) 1 Tryz.underlying38 rfl rfl Tryz.sizeOf27 rfl) (H.pick [4, 5, 6] [4, 5, 6, 7, 8]) ?_
   refine xq [13] (by kernel_rfl) (by simp) (xZ rfl ?_ xu)
   refine Xq H 3 [.slice a5 (0 + t.qh.length) c6, .slice a161 (zB + 1) c162, .slice a7 t.ql.length c8] Tryz.sizeOf27 fun w166 H => ?_
   try dsimp only [List.set] at H
   refine ⟨H.pick [4, 5, 6] [4, 5, 6, 7, 8], ?_⟩
   refine xN (by kernel_rfl) (?_)
   exact meet ⟨_, a161, c162, a147, c148, G164, Fe104, ae104, ce104, (by exact qj (qj (qj (qj (rfl) rfl) rfl) rfl) rfl), N, H.pick [2, 3, 4, 5, 6] [0, 1, 2, 3, 5, 6, 7, 8]⟩
  clear H N
  rintro ρ w167 ⟨junk, a95, c96, a97, c98, G99, F100, a101, c102, rfl, N, H⟩
  refine b_n (t_n (qA ?_))
  refine sp (.int .i64 c) ?_
  refine sw (zZ c 1 rfl rfl (by omega) ?_)
  refine sp (.int .i64 (c + 1)) ?_
  refine qx ?_
  refine xH (m' := (t.qp.length - ((c + 1) : Int)).toNat) (by omega) ⟨_, c + 1, a95, zB + 1, c96, ((t.qp.take c) ++ [(t.qp[c]!)]), zA ++ [.slice a97 ((t.qp[c]!).length) c98], (xU ++ G99), (by exact qj (qj (qj (qj (rfl) rfl) rfl) rfl) rfl), ?_, ?_, rfl, N, H.pick [0, 1, 2, 3, 4] [0, 4, 5, 6, 7]⟩
  · exact take_snoc (by omega)
  · omega
 replace h90 := of_decide_eq_false h90
 refine zK (t_x (t_x (b_x (t_n (qm (qA ?_))))))
 refine sw (zg [.slice a5 (0 + t.qh.length) c6, .slice jV zB jU, .slice a7 t.ql.length c8] Tryz.isAgg38 Tryz.sizeOf38 rfl (qH (H.cells 1 rfl) 0 3) ?_)
 refine sw (xP H 4 [.slice a5 (0 + t.qh.length) c6, .slice jV zB jU, .slice a7 t.ql.length c8] Tryz.sizeOf38 fun w168 H => ?_)
 try dsimp only [List.set] at H
 refine qx (t_n (xC ?_))
 refine retC H 4 rfl rfl Tryz.isAgg38 Tryz.sizeOf38 rfl ⟨_, rfl, ?_, H.base⟩
 obtain rfl : c = t.qp.length := by omega
 rw [List.take_length] at H
 exact ⟨a5, 0 + t.qh.length, c6, jV, zB, jU, zA, xU, a7, t.ql.length, c8, rfl, N, H.pick [3, 0, 2] [0]⟩

end Go.Proofs.YtkmlihdacnfhdaaGreat
