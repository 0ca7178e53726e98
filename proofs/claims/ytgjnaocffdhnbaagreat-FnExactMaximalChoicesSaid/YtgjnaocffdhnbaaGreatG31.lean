/- Walks, printed by program (wip/tools/gv.py): what each function comes to, for all arguments. -/
import Derived.Test.YtgjnaocffdhnbaaGreatG30
import Derived.Test.YtgjnaocffdhnbaaGreatPG
import Derived.Test.YtgjnaocffdhnbaaGreatK
import Derived.Test.YtgjnaocffdhnbaaGreatI
import Derived.Test.YtgjnaocffdhnbaaGreatTI
namespace Go.Proofs.YtgjnaocffdhnbaaGreat
set_option linter.unusedVariables false
set_option linter.unusedSimpArgs false
open Go.Proofs.YtgjnaocffdhnbaaGreat.Tot (tot)
open Go.Proofs.YtgjnaocffdhnbaaGreat.Mark (cnt mrk mkd mkd_mark cnt_mark)
open Go.RowKit
set_option linter.unusedVariables false
set_option linter.unusedSimpArgs false
set_option maxRecDepth 100000
set_option maxHeartbeats 4000000

instance iS114_G31 : SliC Tryz.prog 114 27 := ⟨Tryz.underlying114⟩
instance iT27_G31 : TIC Tryz.prog 27 (.slice none 0 0) 1 24 := ⟨ti27⟩
instance iC127_G31 : Qn Tryz.prog 127 := ⟨Tryz.call127⟩
instance iS118_G31 : SliC Tryz.prog 118 3 := ⟨Tryz.underlying118⟩
instance iC136_G31 : Qn Tryz.prog 136 := ⟨Tryz.call136⟩
instance iC100_G31 : Qn Tryz.prog 100 := ⟨Tryz.call100⟩
instance iS113_G31 : SliC Tryz.prog 113 118 := ⟨Tryz.underlying113⟩
instance iT118_G31 : TIC Tryz.prog 118 (.slice none 0 0) 1 24 := ⟨ti118⟩
instance iA118_G31 : SclC Tryz.prog 118 := ⟨Tryz.isAgg118⟩
instance iT3_G31 : TIC Tryz.prog 3 (.int .i64 0) 1 8 := ⟨ti3⟩
instance iA3_G31 : SclC Tryz.prog 3 := ⟨Tryz.isAgg3⟩
instance iC102_G31 : Qn Tryz.prog 102 := ⟨Tryz.call102⟩


theorem l03Before_ok (w : World) (a : List Int) (b : List Int) (aa : Option Addr) (ca : Nat) (Fa : List Nat) (ab : Option Addr) (cb : Nat) (Fb : List Nat) (ha : qE.rep w Fa [.slice aa a.length ca] a) (hb : qE.rep w Fb [.slice ab b.length cb] b) (p0 : a.length = b.length) : Calls Tryz.prog 102 #[.slice aa a.length ca, .slice ab b.length cb] w (Ret (fun v w' => v = .bool (dec (ahead a b))) w) := by
 refine en Tryz.func102 Tryz.ntmps102 ?_
 have H := ((St.start w).arg hb).arg ha
 have nha := qA ha
 have nhb := qA hb
 clear ha hb
 have N := Fresh.nil w.heap.size
 refine qi (ql ?_)
 refine sp (.bool false) ?_
 refine qj (t_n (qi (qi (ql ?_))))
 refine sp (.int .i64 0) ?_
 refine qj (t_n (qW ?_))
 refine zf (fun m' ρ w1 => ∃ (junk : Env) (i : Nat), ρ = upd (upd (upd junk 0 (.slice aa a.length ca)) 1 (.slice ab b.length cb)) 5 (.int .i64 i) ∧ ((i : Int) ≤ a.length) ∧ (SameTo a b i) ∧ m' = (a.length - (i : Int)).toNat ∧ Fresh w.heap.size [] ∧ St w w1 [] [isF false Fa (.slice aa a.length ca) a, isF false Fb (.slice ab b.length cb) b]) ((a.length - (0 : Int)).toNat) ⟨_, 0, (by exact qg (qg (qg (rfl) rfl) rfl) rfl), (by omega), (by exact fun j hj => by omega), rfl, N, H⟩ ?_
 clear H N
 rintro m' ρ w2 ⟨junk, i, rfl, i0, i1, rfl, N, H⟩
 refine qi (qi (ql ?_))
 refine sps [.int .i64 i, .slice aa a.length ca] ?_
 refine oN rfl ?_
 refine sp (.bool (decide ((i : Int) < a.length))) ?_
 refine qj (t_n ?_)
 refine qC (decide ((i : Int) < a.length)) rfl (fun h3 => ?_) (fun h3 => ?_)
 ·skip
  replace h3 := of_decide_eq_true h3
  refine qM (t_n (qi (qW (qi ?_))))
  refine vZ rfl H fun H => ?_
  refine rtp 0 (.slice aa a.length ca) H ?_
  refine rtp 1 (.int .i64 i) H ?_
  obtain ⟨b5, o6, rfl⟩ := H.addr 0 rfl (by omega)
  refine tI 2 rfl rfl rfl H ?_
  refine tL 3 rfl rfl (fun _ h => h.yP 0 rfl i (by omega)) H ?_
  refine rtp 4 (.slice ab b.length cb) H ?_
  refine rtp 5 (.int .i64 i) H ?_
  obtain ⟨b8, o9, rfl⟩ := H.addr 1 rfl (by omega)
  refine tI 6 rfl rfl rfl H ?_
  refine tL 7 rfl rfl (fun _ h => h.yP 1 rfl i (by omega)) H ?_
  refine rtp 8 (.bool ((a[i]! : Int) != (b[i]!))) H ?_
  refine xq (by kernel_rfl) (t_n ?_)
  refine qC ((a[i]! : Int) != (b[i]!)) rfl (fun h11 => ?_) (fun h11 => ?_)
  ·skip
   replace h11 := bne_iff_ne.1 h11
   refine qi ?_
   refine vZ rfl H fun H => ?_
   refine rtp 0 (.slice (aa b5 o6) a.length ca) H ?_
   refine rtp 1 (.int .i64 i) H ?_
   refine tI 2 rfl rfl rfl H ?_
   refine tL 3 rfl rfl (fun _ h => h.yP 0 rfl i (by omega)) H ?_
   refine rtp 4 (.slice (aa b8 o9) b.length cb) H ?_
   refine rtp 5 (.int .i64 i) H ?_
   refine tI 6 rfl rfl rfl H ?_
   refine tL 7 rfl rfl (fun _ h => h.yP 1 rfl i (by omega)) H ?_
   refine rtp 8 (.bool (decide ((a[i]! : Int) < (b[i]!)))) H ?_
   refine rtp 9 (.bool (decide ((a[i]! : Int) < (b[i]!)))) H ?_
   refine xq (by kernel_rfl) (t_n ?_)
   refine qV (b_r (t_r (t_r (b_r (t_r ?_)))))
   refine ret1 (.bool (decide ((a[i]! : Int) < (b[i]!)))) rfl rfl ⟨_, rfl, ?_, H.base⟩
   first | rw [qY (ahead_same (show SameTo a b a.length from fun j hj => i1 j (by omega)))] | rw [show decide (a[i]! < b[i]!) = dec (ahead a b) from dec_eq ⟨fun h => ahead_yes i1 (by omega) (of_decide_eq_true h), fun h => decide_eq_true (Classical.byContradiction fun h1 => ahead_no i1 h1 ‹_› h)⟩]
  replace h11 := xw h11
  refine qM (b_n (t_n (ql ?_)))
  refine sp (.int .i64 i) ?_
  refine sw (zk i 1 rfl rfl (by omega) ?_)
  refine sp (.int .i64 (i + 1)) ?_
  refine qj ?_
  refine xk (m' := (a.length - ((i + 1) : Int)).toNat) (by omega) ⟨_, i + 1, (by exact qg (qg (qg (rfl) rfl) rfl) rfl), ?_, ?_, rfl, N, H⟩
  · omega
  · exact i1.succ (by first | assumption | omega)
 replace h3 := of_decide_eq_false h3
 refine xQ (t_x (t_x (b_x (t_n (qi (ql ?_))))))
 refine sp (.bool false) ?_
 refine qj (t_n (qV ?_))
 refine ret1 (.bool false) rfl rfl ⟨_, rfl, ?_, H.base⟩
 first | rw [qY (ahead_same (show SameTo a b a.length from fun j hj => i1 j (by omega)))] | rw [show decide (a[i]! < b[i]!) = dec (ahead a b) from dec_eq ⟨fun h => ahead_yes i1 (by omega) (of_decide_eq_true h), fun h => decide_eq_true (Classical.byContradiction fun h1 => ahead_no i1 h1 ‹_› h)⟩]

theorem l03Count_ok (w : World) (all : List (List (List Int))) (aall : Option Addr) (call : Nat) (Fall : List Nat) (hall : qE.rep w Fall [.slice aall all.length call] all) (p0 : ∀ j, j ≤ all.length → ((yA all j : Nat) : Int) ≤ 2862423051509815793) : Calls Tryz.prog 100 #[.slice aall all.length call] w (Ret (fun v w' => v = .int .i64 ((yA all all.length : Nat) : Int)) w) := by
 refine en Tryz.func100 Tryz.ntmps100 ?_
 have H := (St.start w).arg hall
 have nhall := qA hall
 clear hall
 have N := Fresh.nil w.heap.size
 refine qi (ql ?_)
 refine sp (.int .i64 0) ?_
 refine qj (t_n (qi (ql ?_)))
 refine sp (.int .i64 1) ?_
 refine qj (t_n (qi (qi (ql ?_))))
 refine sp (.int .i64 0) ?_
 refine qj (t_n (qW ?_))
 refine zf (fun m' ρ w1 => ∃ (junk : Env) (n : Int) (i : Nat), ρ = upd (upd (upd junk 0 (.slice aall all.length call)) 3 (.int .i64 n)) 4 (.int .i64 i) ∧ n = ((yA all i : Nat) : Int) ∧ ((i : Int) ≤ all.length) ∧ m' = (all.length - (i : Int)).toNat ∧ Fresh w.heap.size [] ∧ St w w1 [] [isF false Fall (.slice aall all.length call) all]) ((all.length - (0 : Int)).toNat) ⟨_, 1, 0, (by exact qg (qg (qg (rfl) rfl) rfl) rfl), (by rfl), (by omega), rfl, N, H⟩ ?_
 clear H N
 rintro m' ρ w2 ⟨junk, n, i, rfl, rfl, i0, rfl, N, H⟩
 have pm := prod_mul all i
 have pb := fun h => p0 (i + 1) h
 have pn := Int.natCast_nonneg (yA all (i + 1))
 refine qi (qi (ql ?_))
 refine sps [.int .i64 i, .slice aall all.length call] ?_
 refine oN rfl ?_
 refine sp (.bool (decide ((i : Int) < all.length))) ?_
 refine qj (t_n ?_)
 refine qC (decide ((i : Int) < all.length)) rfl (fun h3 => ?_) (fun h3 => ?_)
 ·skip
  replace h3 := of_decide_eq_true h3
  refine qM (t_n (qi (qW (ql ?_))))
  refine sps [.int .i64 ((yA all i : Nat) : Int), .slice aall all.length call, .int .i64 i] ?_
  obtain ⟨b4, o5, rfl⟩ := H.addr 0 rfl (by omega)
  obtain ⟨ae7, ce7, Fe7, H⟩ := H.jo 0 rfl i i (by omega) (by omega) (by omega)
  refine oI rfl rfl ?_
  refine oL rfl (H.xJ 1 rfl 0 rfl) ?_
  refine oN rfl ?_
  refine sw (o_mul ((yA all i : Nat) : Int) ((all[i]!).length) rfl rfl (by omega) ?_)
  refine sp (.int .i64 (((yA all i : Nat) : Int) * ((all[i]!).length))) ?_
  refine qj (b_n (t_n (ql ?_)))
  refine sp (.int .i64 i) ?_
  refine sw (zk i 1 rfl rfl (by omega) ?_)
  refine sp (.int .i64 (i + 1)) ?_
  refine qj ?_
  refine xk (m' := (all.length - ((i + 1) : Int)).toNat) (by omega) ⟨_, ((yA all i : Nat) : Int) * ((all[i]!).length), i + 1, (by exact qg (qg (qg (rfl) rfl) rfl) rfl), ?_, ?_, rfl, N, H.pick [] [2]⟩
  · exact prod_mul all i
  · omega
 replace h3 := of_decide_eq_false h3
 refine xQ (t_x (t_x (b_x (t_n (qi (ql ?_))))))
 refine sps [.int .i64 ((yA all i : Nat) : Int), .int .i64 ((yA all i : Nat) : Int)] ?_
 refine qj (t_n (qV ?_))
 refine ret1 (.int .i64 ((yA all i : Nat) : Int)) rfl rfl ⟨_, rfl, ?_, H.base⟩
 rw [show i = all.length by omega]

theorem l03Choices_ok (w : World) (s : qK) (t : xu) (bs os : Nat) (qx : Option Addr) (qp : Nat) (xn : List Nat) (qN : Option Addr) (qL : Nat) (xG : List Nat) (bt ot : Nat) (xB : Option Addr) (xx : Nat) (zy : List Nat) (xK : Option Addr) (xH : Nat) (zX : List Nat) (xg : Option Addr) (xf : Nat) (xW : List Nat) (hs : zT w bs os [.int .i64 s.qH, .slice qx s.qf.length qp, .slice qN s.qh.length qL]) (xh : qE.rep w xn [.slice qx s.qf.length qp] s.qf) (xE : qE.rep w xG [.slice qN s.qh.length qL] s.qh) (ht : zT w bt ot [.slice xB t.qo.length xx, .slice xK t.qy.length xH, .slice xg t.qm.length xf]) (zu : qE.rep w zy [.slice xB t.qo.length xx] t.qo) (zV : qE.rep w zX [.slice xK t.qy.length xH] t.qy) (xU : qE.rep w xW [.slice xg t.qm.length xf] t.qm) (p0 : yw s) (p1 : zS s t) : Calls Tryz.prog 58 #[pp bs os, pp bt ot] w (Ret (fun v w' => ∃ (ra0 : Option Addr) (rn0 : Nat) (rc0 : Nat) (rx0 : List Value) (rF0 : List Nat), v = .tuple #[.slice ra0 rn0 rc0, .int .i64 ((yx s t).2)] ∧ Fresh w.heap.size [rF0] ∧ St w w' [.row (.slice ra0 rn0 rc0) 22 1 rn0 rx0] [zn true rF0 rx0 ((yx s t).1)]) w) := by
 refine en Tryz.func58 Tryz.ntmps58 ?_
 have H := (((((((St.start w).arg xU).arg zV).arg zu).argAt ht).arg xE).arg xh).argAt hs
 have zU := qA xh
 have jD := qA xE
 have Xr := qA zu
 have nhtBags := qA zV
 have QA := qA xU
 clear hs xh xE ht zu zV xU
 have N := Fresh.nil w.heap.size
 have p2 := p0.2.1
 have p3 := p0.1.2.1
 have p4 := p1.1
 have p5 := p1.2.1
 refine qi (ql ?_)
 refine sps [.slice none 0 0, .int .i64 0] ?_
 refine qj (t_n (qi (ql ?_)))
 refine sps [pp bs os, pp bt ot] ?_
 refine sw (jf #[pp bs os, pp bt ot] rfl rfl Tryz.call99 ?_)
 refine en Tryz.func99 Tryz.ntmps99 ?_
 refine qi (ql ?_)
 refine sps [.slice none 0 0, .slice none 0 0, .int .i64 0] ?_
 refine qj (t_n (qi (ql ?_)))
 refine sps [pp bs os, pp bt ot] ?_
 have sz4 := H.base.size
 refine sw (oc (l03Applicable_ok _ s t _ _ _ _ _ _ _ _ _ _ _ _ _ _ _ _ _ _ _ (qI (H.get 0 rfl) 0 3) (H.get 1 rfl).1 (H.get 2 rfl).1 (qI (H.get 3 rfl) 0 3) (H.get 4 rfl).1 (H.get 5 rfl).1 (H.get 6 rfl).1 (by first | assumption | omega) (by first | assumption | omega)) ?_)
 rintro _ w2 ⟨ra1, rn1, rc1, rfl, M, K⟩ _
 replace H := H.merge K M
 dsimp only [List.cons_append, List.nil_append] at H
 obtain rfl := H.rowNB 0 rfl
 have al := appl_len s t
 refine sp (.slice ra1 ((appl s t).length) rc1) ?_
 refine qj (t_n (qi (ql ?_)))
 refine sw (jm H Tryz.underlying113 ti118 fun b7 w8 H => ?_)
 refine sp (.slice (aa b7 0) 0 0) ?_
 refine qj (t_n (qi (ql ?_)))
 refine sw (jm H Tryz.underlying114 ti27 fun b9 w10 H => ?_)
 refine sp (.slice (aa b9 0) 0 0) ?_
 refine qj (t_n (qi (qi (ql ?_))))
 refine sp (.int .i64 0) ?_
 refine qj (t_n (qW ?_))
 refine zf (fun m' ρ w11 => ∃ (junk : Env) (c : Nat), ρ = upd (upd (upd (upd (upd (upd junk 0 (pp bs os)) 1 (pp bt ot)) 7 (.slice ra1 ((appl s t).length) rc1)) 8 (.slice (aa b7 0) 0 0)) 9 (.slice (aa b9 0) 0 0)) 10 (.int .i64 c) ∧ ((c : Int) ≤ s.qf.length) ∧ m' = (s.qf.length - (c : Int)).toNat ∧ Fresh w.heap.size [] ∧ St w w11 [.box b9 [] 27, .box b7 [] 118, .row (.slice ra1 ((appl s t).length) rc1) 4 1 ((appl s t).length) ((appl s t).map (Value.bool))] [atF bs os [.int .i64 s.qH, .slice qx s.qf.length qp, .slice qN s.qh.length qL], isF false xn (.slice qx s.qf.length qp) s.qf, isF false xG (.slice qN s.qh.length qL) s.qh, atF bt ot [.slice xB t.qo.length xx, .slice xK t.qy.length xH, .slice xg t.qm.length xf], isF false zy (.slice xB t.qo.length xx) t.qo, isF false zX (.slice xK t.qy.length xH) t.qy, isF false xW (.slice xg t.qm.length xf) t.qm]) ((s.qf.length - (0 : Int)).toNat) ⟨_, 0, (by exact qg (qg (qg (qg (qg (qg (rfl) rfl) rfl) rfl) rfl) rfl) rfl), (by omega), rfl, N, H⟩ ?_
 clear H N
 rintro m' ρ w12 ⟨junk, c, rfl, i0, rfl, N, H⟩
 refine qi (qi (ql ?_))
 refine sps [.int .i64 c, pp bs os, pp bs os] ?_
 refine oF rfl ?_
 refine oL rfl (H.xJ 0 rfl 1 rfl) ?_
 refine oN rfl ?_
 refine sp (.bool (decide ((c : Int) < s.qf.length))) ?_
 refine qj (t_n ?_)
 refine qC (decide ((c : Int) < s.qf.length)) rfl (fun h13 => ?_) (fun h13 => ?_)
 ·skip
  replace h13 := of_decide_eq_true h13
  refine qM (t_n (qi (qW (qi (ql ?_)))))
  refine sps [pp bs os, .slice ra1 ((appl s t).length) rc1, .int .i64 c] ?_
  refine sw (jf #[pp bs os, .slice ra1 ((appl s t).length) rc1, .int .i64 c] rfl rfl Tryz.call135 ?_)
  refine en Tryz.func135 Tryz.ntmps135 ?_
  refine qi (ql ?_)
  refine sps [.slice none 0 0, .slice none 0 0] ?_
  refine qj (t_n (qi (ql ?_)))
  refine sw (jm H Tryz.underlying118 ti3 fun b14 w15 H => ?_)
  refine sp (.slice (aa b14 0) 0 0) ?_
  refine qj (t_n (qi (ql ?_)))
  refine sw (jm H Tryz.underlying27 ti22 fun b16 w17 H => ?_)
  refine sp (.slice (aa b16 0) 0 0) ?_
  refine qj (t_n (qi (qi (ql ?_))))
  refine sp (.int .i64 0) ?_
  refine qj (t_n (qW ?_))
  replace H := H.boxRowI 1 [] 0
  try dsimp only [List.set] at H
  replace H := H.boxRow 0 rfl 1 0 rfl (by decide)
  try dsimp only [List.set] at H
  replace H := H.jq (α := List Int)
  replace H := H.unfree 0 rfl
  refine zf (fun m' ρ w18 => ∃ (junk : Env) (zO : Option Addr) (zq : Nat) (zJ : Nat) (rules : List Int) (je : Option Addr) (zM : Nat) (vY : Nat) (needs : List (List Int)) (QD : List Value) (XB : List Nat) (i : Nat), ρ = upd (upd (upd (upd (upd (upd junk 0 (pp bs os)) 1 (.slice ra1 ((appl s t).length) rc1)) 2 (.int .i64 c)) 8 (.slice zO zq zJ)) 9 (.slice je zM vY)) 10 (.int .i64 i) ∧ rules = (cellT s t i c) ∧ needs = (xC s (cellT s t i c)) ∧ ((i : Int) ≤ ((appl s t).length)) ∧ m' = (((appl s t).length) - (i : Int)).toNat ∧ Fresh w.heap.size [] ∧ St w w18 [.row (.slice je zM vY) 22 1 zM QD, .row (.slice zO zq zJ) 3 1 zq (rules.map (Value.int .i64)), .box b9 [] 27, .box b7 [] 118, .row (.slice ra1 ((appl s t).length) rc1) 4 1 ((appl s t).length) ((appl s t).map (Value.bool))] [zn false XB QD needs, atF bs os [.int .i64 s.qH, .slice qx s.qf.length qp, .slice qN s.qh.length qL], isF false xn (.slice qx s.qf.length qp) s.qf, isF false xG (.slice qN s.qh.length qL) s.qh, atF bt ot [.slice xB t.qo.length xx, .slice xK t.qy.length xH, .slice xg t.qm.length xf], isF false zy (.slice xB t.qo.length xx) t.qo, isF false zX (.slice xK t.qy.length xH) t.qy, isF false xW (.slice xg t.qm.length xf) t.qm]) ((((appl s t).length) - (0 : Int)).toNat) ⟨_, (aa b14 0), 0, 0, ([] : List Int), (aa b16 0), 0, 0, ([] : List (List Int)), [], [], 0, (by exact qg (qg (qg (qg (qg (qg (rfl) rfl) rfl) rfl) rfl) rfl) rfl), (by rfl), (by rfl), (by omega), rfl, N, H.pick [0, 1, 2, 3, 4] [0, 2, 3, 4, 5, 6, 7, 8]⟩ ?_
  clear H N
  rintro m' ρ w19 ⟨junk, zO, zq, zJ, rules, je, zM, vY, needs, QD, XB, i, rfl, rfl, rfl, i0, rfl, N, H⟩
  have hn_rules := H.rowNI 1 rfl
  have hn_needs := H.zK (α := List Int) 0 rfl 0 rfl (by decide)
  have tl := cellT_le s t i c
  have nl := Q8 s (cellT s t i c)
  refine qi (qi (ql ?_))
  refine sps [.int .i64 i, .slice ra1 ((appl s t).length) rc1] ?_
  refine oN rfl ?_
  refine sp (.bool (decide ((i : Int) < ((appl s t).length)))) ?_
  refine qj (t_n ?_)
  refine qC (decide ((i : Int) < ((appl s t).length))) rfl (fun h20 => ?_) (fun h20 => ?_)
  ·skip
   replace h20 := of_decide_eq_true h20
   refine qM (t_n (qi (qW (qi (ql ?_)))))
   refine sps [.slice ra1 ((appl s t).length) rc1, .int .i64 i] ?_
   obtain ⟨b21, rfl⟩ := H.rowAddr 4 rfl (by omega)
   refine oI rfl rfl ?_
   refine oL rfl (H.rowBool 4 rfl (iv := i) (i := i) (by omega) (by omega)) ?_
   refine sp (.bool ((appl s t)[i]!)) ?_
   cases h22 : ((appl s t)[i]!)
   ·skip
    refine xF [24, 25, 26, 27, 28, 29, 30, 31, 32, 33] ?_
    refine sp (.bool false) ?_
    refine qj (t_n ?_)
    refine qC false rfl (fun h => absurd h (by decide)) (fun _ => ?_)
    refine qM (b_n (t_n (ql ?_)))
    refine sp (.int .i64 i) ?_
    refine sw (zk i 1 rfl rfl (by omega) ?_)
    refine sp (.int .i64 (i + 1)) ?_
    refine qj ?_
    refine xk (m' := (((appl s t).length) - ((i + 1) : Int)).toNat) (by omega) ⟨_, zO, zq, zJ, (cellT s t i c), je, zM, vY, (xC s (cellT s t i c)), QD, XB, i + 1, (by exact qg (qg (qg (qg (qg (qg (rfl) rfl) rfl) rfl) rfl) rfl) rfl), ?_, ?_, ?_, rfl, N, H⟩
    · first | exact cellT_yes (QC (by omega) ‹_›) ‹_› | exact QH (yz (by omega) ‹_›) | exact Qc ‹_›
    · first | exact needs_yes (QC (by omega) ‹_›) ‹_› | exact congrArg (xC s) (QH (yz (by omega) ‹_›)) | exact congrArg (xC s) (Qc ‹_›)
    · omega
   refine qB 23 rfl rfl ?_
   refine sp (pp bs os) ?_
   refine qB 23 rfl rfl ?_
   refine sp (pp bs os) ?_
   refine qB 23 rfl rfl ?_
   refine oF rfl ?_
   refine qB 23 rfl rfl ?_
   refine oL rfl (H.xJ 1 rfl 2 rfl) ?_
   refine qB 23 rfl rfl ?_
   refine sp (.int .i64 i) ?_
   refine qB 23 rfl rfl ?_
   obtain ⟨b23, o24, rfl⟩ := H.addr 3 rfl (by omega)
   obtain ⟨ae26Need, ce26Need, Fe26Need, ae26Have, ce26Have, Fe26Have, ae26Lack, ce26Lack, Fe26Lack, ae26Here, ce26Here, Fe26Here, ae26Out, ce26Out, Fe26Out, ae26Into, ce26Into, Fe26Into, H⟩ := H.jK 3 rfl i i (by omega) (by omega) (by omega)
   refine oI rfl rfl ?_
   refine qB 23 rfl rfl ?_
   refine oF rfl ?_
   refine qB 23 rfl rfl ?_
   refine oL rfl (H.xJ 6 rfl 0 rfl) ?_
   refine qB 23 rfl rfl ?_
   refine sp (.int .i64 c) ?_
   refine qB 23 rfl rfl ?_
   refine sps [.bool (((s.qh[i]!).qw : Int) == c), .bool (((s.qh[i]!).qw : Int) == c)] ?_
   refine qj (t_n ?_)
   refine qC (((s.qh[i]!).qw : Int) == c) rfl (fun h27 => ?_) (fun h27 => ?_)
   ·skip
    replace h27 := eq_of_beq h27
    refine qi (ql ?_)
    refine sps [.slice zO zq zJ, .int .i64 i] ?_
    refine sw (vJ H Tryz.underlying118 ti3 [.int .i64 i] fun b28 w29 H => ?_)
    refine sw (jh H 2 rfl 0 rfl Tryz.underlying118 ti3 rfl (by decide) rfl rfl rfl (by simp [Value.oneCell', Value.cells]) (by unfold maxLen; omega) (by omega) fun a30 c31 w32 H => ?_)
    rw [snocI] at H
    try dsimp only [List.set] at H
    refine sp (.slice a30 (zq + 1) c31) ?_
    refine qj (t_n (ql ?_))
    refine sps [.slice je zM vY, pp bs os, pp bs os] ?_
    refine oF rfl ?_
    refine oL rfl (H.xJ 8 rfl 2 rfl) ?_
    refine sp (.int .i64 i) ?_
    refine oI rfl rfl ?_
    refine oF rfl ?_
    refine oL rfl (H.xJ 6 rfl 2 rfl) ?_
    refine sw (vJ H Tryz.underlying27 ti22 [.slice ae26Need (((s.qh[i]!).qO).length) ce26Need] fun b33 w34 H => ?_)
    refine sw (jh H 2 rfl 0 rfl Tryz.underlying27 ti22 rfl (by decide) rfl rfl rfl (by simp [Value.oneCell', Value.cells]) (by unfold maxLen; omega) (by omega) fun a35 c36 w37 H => ?_)
    try dsimp only [List.set] at H
    replace H := H.QF 7 rfl 0 rfl
    refine sp (.slice a35 (zM + 1) c36) ?_
    refine qj (b_n (t_n (ql ?_)))
    refine sp (.int .i64 i) ?_
    refine sw (zk i 1 rfl rfl (by omega) ?_)
    refine sp (.int .i64 (i + 1)) ?_
    refine qj ?_
    refine xk (m' := (((appl s t).length) - ((i + 1) : Int)).toNat) (by omega) ⟨_, a30, zq + 1, c31, ((cellT s t i c) ++ [(i : Int)]), a35, zM + 1, c36, ((xC s (cellT s t i c)) ++ [(s.qh[i]!).qO]), QD ++ [.slice ae26Need (((s.qh[i]!).qO).length) ce26Need], (XB ++ Fe26Need), i + 1, (by exact qg (qg (qg (qg (qg (qg (rfl) rfl) rfl) rfl) rfl) rfl) rfl), ?_, ?_, ?_, rfl, N, H.pick [2, 3, 4, 5, 6] [0, 9, 10, 11, 12, 13, 14, 15]⟩
    · first | exact cellT_yes (QC (by omega) ‹_›) ‹_› | exact QH (yz (by omega) ‹_›) | exact Qc ‹_›
    · first | exact needs_yes (QC (by omega) ‹_›) ‹_› | exact congrArg (xC s) (QH (yz (by omega) ‹_›)) | exact congrArg (xC s) (Qc ‹_›)
    · omega
   replace h27 := ne_of_beq_false h27
   refine qM (b_n (t_n (ql ?_)))
   refine sp (.int .i64 i) ?_
   refine sw (zk i 1 rfl rfl (by omega) ?_)
   refine sp (.int .i64 (i + 1)) ?_
   refine qj ?_
   refine xk (m' := (((appl s t).length) - ((i + 1) : Int)).toNat) (by omega) ⟨_, zO, zq, zJ, (cellT s t i c), je, zM, vY, (xC s (cellT s t i c)), QD, XB, i + 1, (by exact qg (qg (qg (qg (qg (qg (rfl) rfl) rfl) rfl) rfl) rfl) rfl), ?_, ?_, ?_, rfl, N, H.pick [0, 1, 2, 3, 4] [7, 8, 9, 10, 11, 12, 13, 14]⟩
   · first | exact cellT_yes (QC (by omega) ‹_›) ‹_› | exact QH (yz (by omega) ‹_›) | exact Qc ‹_›
   · first | exact needs_yes (QC (by omega) ‹_›) ‹_› | exact congrArg (xC s) (QH (yz (by omega) ‹_›)) | exact congrArg (xC s) (Qc ‹_›)
   · omega
  replace h20 := of_decide_eq_false h20
  refine xQ (t_x (t_x (b_x (t_n (qi (ql ?_))))))
  refine sps [.slice zO zq zJ, .slice je zM vY, .slice zO zq zJ, .slice je zM vY] ?_
  refine qj (t_n (qV ?_))
  refine ret2 (.slice zO zq zJ) (.slice je zM vY) rfl rfl rfl ⟨_, rfl, ?_⟩
  obtain rfl : i = s.qh.length := by omega
  rw [show cellT s t s.qh.length c = xP s t c from rfl] at H hn_rules hn_needs
  refine sps [.tuple #[.slice zO zq zJ, .slice je zM vY], .slice zO zq zJ, .slice je zM vY, .slice zO zq zJ, .slice je zM vY] ?_
  refine qj (t_n (qi (ql ?_)))
  refine sp (.slice zO zq zJ) ?_
  refine oN rfl ?_
  refine sps [.bool (decide ((zq : Int) > 0)), .bool (decide ((zq : Int) > 0))] ?_
  cases h38 : (decide ((zq : Int) > 0))
  ·skip
   replace h38 := of_decide_eq_false h38
   refine xF [43, 44, 45, 46, 47, 48, 49, 50, 51] ?_
   refine sp (.bool false) ?_
   refine qj (t_n ?_)
   refine qC false rfl (fun h => absurd h (by decide)) (fun _ => ?_)
   refine qM (b_n (t_n (ql ?_)))
   refine sp (.int .i64 c) ?_
   refine sw (zk c 1 rfl rfl (by omega) ?_)
   refine sp (.int .i64 (c + 1)) ?_
   refine qj ?_
   refine xk (m' := (s.qf.length - ((c + 1) : Int)).toNat) (by omega) ⟨_, c + 1, (by exact qg (qg (qg (qg (qg (qg (rfl) rfl) rfl) rfl) rfl) rfl) rfl), ?_, rfl, N, H.pick [2, 3, 4] [1, 2, 3, 4, 5, 6, 7]⟩
   · omega
  replace h38 := of_decide_eq_true h38
  refine qB 42 rfl rfl ?_
  refine sp (pp bt ot) ?_
  refine qB 42 rfl rfl ?_
  refine sp (pp bt ot) ?_
  refine qB 42 rfl rfl ?_
  refine oF rfl ?_
  refine qB 42 rfl rfl ?_
  refine oL rfl (H.xJ 4 rfl 1 rfl) ?_
  refine qB 42 rfl rfl ?_
  refine sp (.int .i64 c) ?_
  refine qB 42 rfl rfl ?_
  obtain ⟨b39, o40, rfl⟩ := H.addr 6 rfl (by omega)
  obtain ⟨ae42, ce42, Fe42, H⟩ := H.jo 6 rfl c c (by omega) (by omega) (by omega)
  refine oI rfl rfl ?_
  refine qB 42 rfl rfl ?_
  refine oL rfl (H.xJ 1 rfl 0 rfl) ?_
  refine qB 42 rfl rfl ?_
  have sm := zo (p1.2.2.2.2 c (by omega)).1
  refine sw (oc (XC _ (t.qy[c]!) _ _ _ (H.get 0 rfl).1 (by first | assumption | exact zo (by assumption) | exact jw (by assumption))) ?_)
  rintro _ w43 rfl x44
  replace H := H.ext x44
  refine qB 42 rfl rfl ?_
  refine sps [.bool (decide ((Qz (t.qy[c]!) : Int) > 16)), .bool (decide ((Qz (t.qy[c]!) : Int) > 16))] ?_
  refine qj (t_n ?_)
  refine qC (decide ((Qz (t.qy[c]!) : Int) > 16)) rfl (fun h45 => ?_) (fun h45 => ?_)
  ·skip
   replace h45 := of_decide_eq_true h45
   refine qi (ql ?_)
   refine sps [.slice (aa b7 0) 0 0, .slice (aa b9 0) 0 0, .slice (aa b7 0) 0 0, .slice (aa b9 0) 0 0, .int .i64 3] ?_
   refine qj (t_n (qV (b_r (t_r (t_r (b_r (t_r ?_)))))))
   refine ret3 (.slice (aa b7 0) 0 0) (.slice (aa b9 0) 0 0) (.int .i64 3) rfl rfl rfl rfl ⟨_, rfl, ?_⟩
   replace H := H.erases [4, 1, 0]
   dsimp only [Qv, List.eraseIdx] at H
   refine sps [.tuple #[.slice (aa b7 0) 0 0, .slice (aa b9 0) 0 0, .int .i64 3], .slice (aa b7 0) 0 0, .slice (aa b9 0) 0 0, .int .i64 3, .slice (aa b7 0) 0 0, .slice (aa b9 0) 0 0, .int .i64 3] ?_
   refine qj (t_n (qi (qi (ql ?_))))
   refine sps [.int .i64 3, .bool true] ?_
   refine qj (t_n ?_)
   refine qC true rfl (fun _ => ?_) (fun h => absurd h (by decide))
   refine qi (ql ?_)
   refine sw (jm H Tryz.underlying27 ti22 fun b46 w47 H => ?_)
   refine sps [.int .i64 3, .slice (aa b46 0) 0 0, .int .i64 3] ?_
   refine qj (t_n (qV (t_r ?_)))
   replace H := H.boxRow 0 rfl 1 0 rfl (by decide)
   try dsimp only [List.set] at H
   replace H := H.jq (α := List Int)
   refine ret2 (.slice (aa b46 0) 0 0) (.int .i64 3) rfl rfl rfl ⟨_, rfl, ?_, H.base⟩
   first | rw [cho_3 (.inl (bad_sum (c := c) (by omega) (by omega) (by omega)))] | rw [cho_3 (.inr (by omega))]
   exact ⟨(aa b46 0), 0, 0, [], [], rfl, N.emp, H.pick [0] [0]⟩
  replace h45 := of_decide_eq_false h45
  refine qM (b_n (t_n (ql ?_)))
  refine sp (.int .i64 c) ?_
  refine sw (zk c 1 rfl rfl (by omega) ?_)
  refine sp (.int .i64 (c + 1)) ?_
  refine qj ?_
  refine xk (m' := (s.qf.length - ((c + 1) : Int)).toNat) (by omega) ⟨_, c + 1, (by exact qg (qg (qg (qg (qg (qg (rfl) rfl) rfl) rfl) rfl) rfl) rfl), ?_, rfl, N, H.pick [2, 3, 4] [3, 4, 5, 6, 7, 8, 9]⟩
  · omega
 replace h13 := of_decide_eq_false h13
 refine xQ (t_x (t_x (b_x (t_n (qi (qi (ql ?_)))))))
 refine sp (.int .i64 0) ?_
 refine qj (t_n (qW ?_))
 replace H := H.boxRow 1 rfl 1 0 rfl (by decide)
 try dsimp only [List.set] at H
 replace H := H.jq (α := List Int)
 replace H := H.boxRow 0 rfl 1 0 rfl (by decide)
 try dsimp only [List.set] at H
 replace H := H.jq (α := List (List Int))
 refine zf (fun m' ρ w48 => ∃ (junk : Env) (zO : Option Addr) (zq : Nat) (zJ : Nat) (rules : List (List Int)) (x_rules : List Value) (F_rules : List Nat) (a_all : Option Addr) (Ql : Nat) (XJ : Nat) (all : List (List (List Int))) (x_all : List Value) (F_all : List Nat) (c_1 : Nat), ρ = upd (upd (upd (upd (upd (upd junk 0 (pp bs os)) 1 (pp bt ot)) 7 (.slice ra1 ((appl s t).length) rc1)) 8 (.slice zO zq zJ)) 9 (.slice a_all Ql XJ)) 13 (.int .i64 c_1) ∧ rules = (qQ s t c_1) ∧ all = (qZ s t c_1) ∧ ((c_1 : Int) ≤ s.qf.length) ∧ (GoodP s t c_1) ∧ m' = (s.qf.length - (c_1 : Int)).toNat ∧ Fresh w.heap.size [F_rules, F_all] ∧ St w w48 [.row (.slice a_all Ql XJ) 27 1 Ql x_all, .row (.slice zO zq zJ) 118 1 zq x_rules, .row (.slice ra1 ((appl s t).length) rc1) 4 1 ((appl s t).length) ((appl s t).map (Value.bool))] [zn true F_rules x_rules rules, zn true F_all x_all all, atF bs os [.int .i64 s.qH, .slice qx s.qf.length qp, .slice qN s.qh.length qL], isF false xn (.slice qx s.qf.length qp) s.qf, isF false xG (.slice qN s.qh.length qL) s.qh, atF bt ot [.slice xB t.qo.length xx, .slice xK t.qy.length xH, .slice xg t.qm.length xf], isF false zy (.slice xB t.qo.length xx) t.qo, isF false zX (.slice xK t.qy.length xH) t.qy, isF false xW (.slice xg t.qm.length xf) t.qm]) ((s.qf.length - (0 : Int)).toNat) ⟨_, (aa b7 0), 0, 0, ([] : List (List Int)), [], [], (aa b9 0), 0, 0, ([] : List (List (List Int))), [], [], 0, (by exact qg (qg (qg (qg (qg (qg (rfl) rfl) rfl) rfl) rfl) rfl) rfl), (by rfl), (by rfl), (by omega), (by exact fun j hj => by omega), rfl, N.emp.emp, H⟩ ?_
 clear H N
 rintro m' ρ w49 ⟨junk, zO, zq, zJ, rules, x_rules, F_rules, a_all, Ql, XJ, all, x_all, F_all, c_1, rfl, rfl, rfl, i0, gp, rfl, N, H⟩
 have hn_rules := H.zK (α := List Int) 1 rfl 0 rfl (by decide)
 have hn_all := H.zK (α := List (List Int)) 0 rfl 1 rfl (by decide)
 have rl := rules_le s t c_1
 have pl := packsL_le s t c_1
 refine qi (qi (ql ?_))
 refine sps [.int .i64 c_1, pp bs os, pp bs os] ?_
 refine oF rfl ?_
 refine oL rfl (H.xJ 2 rfl 1 rfl) ?_
 refine oN rfl ?_
 refine sp (.bool (decide ((c_1 : Int) < s.qf.length))) ?_
 refine qj (t_n ?_)
 refine qC (decide ((c_1 : Int) < s.qf.length)) rfl (fun h50 => ?_) (fun h50 => ?_)
 ·skip
  replace h50 := of_decide_eq_true h50
  refine qM (t_n (qi (qW (qi (ql ?_)))))
  refine sps [pp bs os, .slice ra1 ((appl s t).length) rc1, .int .i64 c_1] ?_
  refine sw (jf #[pp bs os, .slice ra1 ((appl s t).length) rc1, .int .i64 c_1] rfl rfl Tryz.call135 ?_)
  refine en Tryz.func135 Tryz.ntmps135 ?_
  refine qi (ql ?_)
  refine sps [.slice none 0 0, .slice none 0 0] ?_
  refine qj (t_n (qi (ql ?_)))
  refine sw (jm H Tryz.underlying118 ti3 fun b51 w52 H => ?_)
  refine sp (.slice (aa b51 0) 0 0) ?_
  refine qj (t_n (qi (ql ?_)))
  refine sw (jm H Tryz.underlying27 ti22 fun b53 w54 H => ?_)
  refine sp (.slice (aa b53 0) 0 0) ?_
  refine qj (t_n (qi (qi (ql ?_))))
  refine sp (.int .i64 0) ?_
  refine qj (t_n (qW ?_))
  replace H := H.boxRowI 1 [] 0
  try dsimp only [List.set] at H
  replace H := H.boxRow 0 rfl 1 0 rfl (by decide)
  try dsimp only [List.set] at H
  replace H := H.jq (α := List Int)
  replace H := H.unfree 0 rfl
  refine zf (fun m' ρ w55 => ∃ (junk : Env) (jX : Option Addr) (vS : Nat) (jW : Nat) (rules_1 : List Int) (je : Option Addr) (zM : Nat) (vY : Nat) (needs : List (List Int)) (QD : List Value) (XB : List Nat) (i : Nat), ρ = upd (upd (upd (upd (upd (upd junk 0 (pp bs os)) 1 (.slice ra1 ((appl s t).length) rc1)) 2 (.int .i64 c_1)) 8 (.slice jX vS jW)) 9 (.slice je zM vY)) 10 (.int .i64 i) ∧ rules_1 = (cellT s t i c_1) ∧ needs = (xC s (cellT s t i c_1)) ∧ ((i : Int) ≤ ((appl s t).length)) ∧ m' = (((appl s t).length) - (i : Int)).toNat ∧ Fresh w.heap.size [F_rules, F_all] ∧ St w w55 [.row (.slice je zM vY) 22 1 zM QD, .row (.slice jX vS jW) 3 1 vS (rules_1.map (Value.int .i64)), .row (.slice a_all Ql XJ) 27 1 Ql x_all, .row (.slice zO zq zJ) 118 1 zq x_rules, .row (.slice ra1 ((appl s t).length) rc1) 4 1 ((appl s t).length) ((appl s t).map (Value.bool))] [zn false XB QD needs, zn true F_rules x_rules (qQ s t c_1), zn true F_all x_all (qZ s t c_1), atF bs os [.int .i64 s.qH, .slice qx s.qf.length qp, .slice qN s.qh.length qL], isF false xn (.slice qx s.qf.length qp) s.qf, isF false xG (.slice qN s.qh.length qL) s.qh, atF bt ot [.slice xB t.qo.length xx, .slice xK t.qy.length xH, .slice xg t.qm.length xf], isF false zy (.slice xB t.qo.length xx) t.qo, isF false zX (.slice xK t.qy.length xH) t.qy, isF false xW (.slice xg t.qm.length xf) t.qm]) ((((appl s t).length) - (0 : Int)).toNat) ⟨_, (aa b51 0), 0, 0, ([] : List Int), (aa b53 0), 0, 0, ([] : List (List Int)), [], [], 0, (by exact qg (qg (qg (qg (qg (qg (rfl) rfl) rfl) rfl) rfl) rfl) rfl), (by rfl), (by rfl), (by omega), rfl, N, H.pick [0, 1, 2, 3, 4] [0, 2, 3, 4, 5, 6, 7, 8, 9, 10]⟩ ?_
  clear H N
  rintro m' ρ w56 ⟨junk, jX, vS, jW, rules_1, je, zM, vY, needs, QD, XB, i, rfl, rfl, rfl, i0, rfl, N, H⟩
  have hn_rules := H.rowNI 1 rfl
  have hn_needs := H.zK (α := List Int) 0 rfl 0 rfl (by decide)
  have tl := cellT_le s t i c_1
  have nl := Q8 s (cellT s t i c_1)
  refine qi (qi (ql ?_))
  refine sps [.int .i64 i, .slice ra1 ((appl s t).length) rc1] ?_
  refine oN rfl ?_
  refine sp (.bool (decide ((i : Int) < ((appl s t).length)))) ?_
  refine qj (t_n ?_)
  refine qC (decide ((i : Int) < ((appl s t).length))) rfl (fun h57 => ?_) (fun h57 => ?_)
  ·skip
   replace h57 := of_decide_eq_true h57
   refine qM (t_n (qi (qW (qi (ql ?_)))))
   refine sps [.slice ra1 ((appl s t).length) rc1, .int .i64 i] ?_
   obtain ⟨b58, rfl⟩ := H.rowAddr 4 rfl (by omega)
   refine oI rfl rfl ?_
   refine oL rfl (H.rowBool 4 rfl (iv := i) (i := i) (by omega) (by omega)) ?_
   refine sp (.bool ((appl s t)[i]!)) ?_
   cases h59 : ((appl s t)[i]!)
   ·skip
    refine xF [24, 25, 26, 27, 28, 29, 30, 31, 32, 33] ?_
    refine sp (.bool false) ?_
    refine qj (t_n ?_)
    refine qC false rfl (fun h => absurd h (by decide)) (fun _ => ?_)
    refine qM (b_n (t_n (ql ?_)))
    refine sp (.int .i64 i) ?_
    refine sw (zk i 1 rfl rfl (by omega) ?_)
    refine sp (.int .i64 (i + 1)) ?_
    refine qj ?_
    refine xk (m' := (((appl s t).length) - ((i + 1) : Int)).toNat) (by omega) ⟨_, jX, vS, jW, (cellT s t i c_1), je, zM, vY, (xC s (cellT s t i c_1)), QD, XB, i + 1, (by exact qg (qg (qg (qg (qg (qg (rfl) rfl) rfl) rfl) rfl) rfl) rfl), ?_, ?_, ?_, rfl, N, H⟩
    · first | exact cellT_yes (QC (by omega) ‹_›) ‹_› | exact QH (yz (by omega) ‹_›) | exact Qc ‹_›
    · first | exact needs_yes (QC (by omega) ‹_›) ‹_› | exact congrArg (xC s) (QH (yz (by omega) ‹_›)) | exact congrArg (xC s) (Qc ‹_›)
    · omega
   refine qB 23 rfl rfl ?_
   refine sp (pp bs os) ?_
   refine qB 23 rfl rfl ?_
   refine sp (pp bs os) ?_
   refine qB 23 rfl rfl ?_
   refine oF rfl ?_
   refine qB 23 rfl rfl ?_
   refine oL rfl (H.xJ 3 rfl 2 rfl) ?_
   refine qB 23 rfl rfl ?_
   refine sp (.int .i64 i) ?_
   refine qB 23 rfl rfl ?_
   obtain ⟨b60, o61, rfl⟩ := H.addr 5 rfl (by omega)
   obtain ⟨ae63Need, ce63Need, Fe63Need, ae63Have, ce63Have, Fe63Have, ae63Lack, ce63Lack, Fe63Lack, ae63Here, ce63Here, Fe63Here, ae63Out, ce63Out, Fe63Out, ae63Into, ce63Into, Fe63Into, H⟩ := H.jK 5 rfl i i (by omega) (by omega) (by omega)
   refine oI rfl rfl ?_
   refine qB 23 rfl rfl ?_
   refine oF rfl ?_
   refine qB 23 rfl rfl ?_
   refine oL rfl (H.xJ 6 rfl 0 rfl) ?_
   refine qB 23 rfl rfl ?_
   refine sp (.int .i64 c_1) ?_
   refine qB 23 rfl rfl ?_
   refine sps [.bool (((s.qh[i]!).qw : Int) == c_1), .bool (((s.qh[i]!).qw : Int) == c_1)] ?_
   refine qj (t_n ?_)
   refine qC (((s.qh[i]!).qw : Int) == c_1) rfl (fun h64 => ?_) (fun h64 => ?_)
   ·skip
    replace h64 := eq_of_beq h64
    refine qi (ql ?_)
    refine sps [.slice jX vS jW, .int .i64 i] ?_
    refine sw (vJ H Tryz.underlying118 ti3 [.int .i64 i] fun b65 w66 H => ?_)
    refine sw (jh H 2 rfl 0 rfl Tryz.underlying118 ti3 rfl (by decide) rfl rfl rfl (by simp [Value.oneCell', Value.cells]) (by unfold maxLen; omega) (by omega) fun a67 c68 w69 H => ?_)
    rw [snocI] at H
    try dsimp only [List.set] at H
    refine sp (.slice a67 (vS + 1) c68) ?_
    refine qj (t_n (ql ?_))
    refine sps [.slice je zM vY, pp bs os, pp bs os] ?_
    refine oF rfl ?_
    refine oL rfl (H.xJ 10 rfl 2 rfl) ?_
    refine sp (.int .i64 i) ?_
    refine oI rfl rfl ?_
    refine oF rfl ?_
    refine oL rfl (H.xJ 6 rfl 2 rfl) ?_
    refine sw (vJ H Tryz.underlying27 ti22 [.slice ae63Need (((s.qh[i]!).qO).length) ce63Need] fun b70 w71 H => ?_)
    refine sw (jh H 2 rfl 0 rfl Tryz.underlying27 ti22 rfl (by decide) rfl rfl rfl (by simp [Value.oneCell', Value.cells]) (by unfold maxLen; omega) (by omega) fun a72 c73 w74 H => ?_)
    try dsimp only [List.set] at H
    replace H := H.QF 7 rfl 0 rfl
    refine sp (.slice a72 (zM + 1) c73) ?_
    refine qj (b_n (t_n (ql ?_)))
    refine sp (.int .i64 i) ?_
    refine sw (zk i 1 rfl rfl (by omega) ?_)
    refine sp (.int .i64 (i + 1)) ?_
    refine qj ?_
    refine xk (m' := (((appl s t).length) - ((i + 1) : Int)).toNat) (by omega) ⟨_, a67, vS + 1, c68, ((cellT s t i c_1) ++ [(i : Int)]), a72, zM + 1, c73, ((xC s (cellT s t i c_1)) ++ [(s.qh[i]!).qO]), QD ++ [.slice ae63Need (((s.qh[i]!).qO).length) ce63Need], (XB ++ Fe63Need), i + 1, (by exact qg (qg (qg (qg (qg (qg (rfl) rfl) rfl) rfl) rfl) rfl) rfl), ?_, ?_, ?_, rfl, N, H.pick [2, 3, 4, 5, 6] [0, 9, 10, 11, 12, 13, 14, 15, 16, 17]⟩
    · first | exact cellT_yes (QC (by omega) ‹_›) ‹_› | exact QH (yz (by omega) ‹_›) | exact Qc ‹_›
    · first | exact needs_yes (QC (by omega) ‹_›) ‹_› | exact congrArg (xC s) (QH (yz (by omega) ‹_›)) | exact congrArg (xC s) (Qc ‹_›)
    · omega
   replace h64 := ne_of_beq_false h64
   refine qM (b_n (t_n (ql ?_)))
   refine sp (.int .i64 i) ?_
   refine sw (zk i 1 rfl rfl (by omega) ?_)
   refine sp (.int .i64 (i + 1)) ?_
   refine qj ?_
   refine xk (m' := (((appl s t).length) - ((i + 1) : Int)).toNat) (by omega) ⟨_, jX, vS, jW, (cellT s t i c_1), je, zM, vY, (xC s (cellT s t i c_1)), QD, XB, i + 1, (by exact qg (qg (qg (qg (qg (qg (rfl) rfl) rfl) rfl) rfl) rfl) rfl), ?_, ?_, ?_, rfl, N, H.pick [0, 1, 2, 3, 4] [7, 8, 9, 10, 11, 12, 13, 14, 15, 16]⟩
   · first | exact cellT_yes (QC (by omega) ‹_›) ‹_› | exact QH (yz (by omega) ‹_›) | exact Qc ‹_›
   · first | exact needs_yes (QC (by omega) ‹_›) ‹_› | exact congrArg (xC s) (QH (yz (by omega) ‹_›)) | exact congrArg (xC s) (Qc ‹_›)
   · omega
  replace h57 := of_decide_eq_false h57
  refine xQ (t_x (t_x (b_x (t_n (qi (ql ?_))))))
  refine sps [.slice jX vS jW, .slice je zM vY, .slice jX vS jW, .slice je zM vY] ?_
  refine qj (t_n (qV ?_))
  refine ret2 (.slice jX vS jW) (.slice je zM vY) rfl rfl rfl ⟨_, rfl, ?_⟩
  obtain rfl : i = s.qh.length := by omega
  rw [show cellT s t s.qh.length c_1 = xP s t c_1 from rfl] at H hn_rules hn_needs
  refine sps [.tuple #[.slice jX vS jW, .slice je zM vY], .slice jX vS jW, .slice je zM vY, .slice jX vS jW, .slice je zM vY] ?_
  refine qj (t_n (qi (qi (ql ?_))))
  refine sp (.slice jX vS jW) ?_
  refine oN rfl ?_
  refine sp (.bool ((vS : Int) == 0)) ?_
  refine qj (t_n ?_)
  refine qC ((vS : Int) == 0) rfl (fun h75 => ?_) (fun h75 => ?_)
  ·skip
   replace h75 := eq_of_beq h75
   refine xQ (t_x (b_x (t_n (ql ?_))))
   refine sp (.int .i64 c_1) ?_
   refine sw (zk c_1 1 rfl rfl (by omega) ?_)
   refine sp (.int .i64 (c_1 + 1)) ?_
   refine qj ?_
   refine xk (m' := (s.qf.length - ((c_1 + 1) : Int)).toNat) (by omega) ⟨_, zO, zq, zJ, (qQ s t c_1), x_rules, F_rules, a_all, Ql, XJ, (qZ s t c_1), x_all, F_all, c_1 + 1, (by exact qg (qg (qg (qg (qg (qg (rfl) rfl) rfl) rfl) rfl) rfl) rfl), ?_, ?_, ?_, ?_, rfl, N, H.pick [2, 3, 4] [1, 2, 3, 4, 5, 6, 7, 8, 9]⟩
   · first | exact rules_yes (by omega) | exact rules_no (by omega)
   · first | exact packsL_yes (by omega) | exact packsL_no (by omega)
   · omega
   · exact gp.succ (by first | exact .inl (by omega) | exact .inr (show (xY _ _).2 = 0 from ‹_›))
  replace h75 := ne_of_beq_false h75
  refine qM (t_n (qi (ql ?_)))
  refine sps [pp bt ot, pp bt ot] ?_
  refine oF rfl ?_
  refine oL rfl (H.xJ 6 rfl 1 rfl) ?_
  refine sp (.int .i64 c_1) ?_
  obtain ⟨b76, o77, rfl⟩ := H.addr 8 rfl (by omega)
  obtain ⟨ae79, ce79, Fe79, H⟩ := H.jo 8 rfl c_1 c_1 (by omega) (by omega) (by omega)
  refine oI rfl rfl ?_
  refine oL rfl (H.xJ 1 rfl 0 rfl) ?_
  refine sp (.slice je zM vY) ?_
  obtain ⟨G80, hn81, h82⟩ := H.rowIsR (α := List Int) 0 rfl 2 rfl (by decide)
  have cp := cell_pack p0 p1 (c := c_1) (by omega)
  have sz86 := H.base.size
  have lt87 := H.ltN (L := [F_rules, F_all]) [3, 4]
  refine sw (oc (args_eq (by rw [← hn81]) (l01All_ok _ (t.qy[c_1]!) (xC s (xP s t c_1)) _ _ _ _ _ _ (H.get 0 rfl).1 (hn81 ▸ h82) (by first | assumption | omega))) ?_)
  rintro _ w84 ⟨ra83a, rn83a, rc83a, rx83a, rF83a, rfl, M, K⟩ _
  replace N := N.merge sz86 lt87 M
  replace H := H.merge K M
  dsimp only [List.cons_append, List.nil_append] at H
  obtain rfl := H.zK (α := List Int) 0 rfl 0 rfl (by decide)
  refine sps [.tuple #[.slice ra83a (((xY (t.qy[c_1]!) (xC s (xP s t c_1))).1).length) rc83a, .int .i64 ((xY (t.qy[c_1]!) (xC s (xP s t c_1))).2)], .slice ra83a (((xY (t.qy[c_1]!) (xC s (xP s t c_1))).1).length) rc83a, .int .i64 ((xY (t.qy[c_1]!) (xC s (xP s t c_1))).2), .slice ra83a (((xY (t.qy[c_1]!) (xC s (xP s t c_1))).1).length) rc83a, .int .i64 ((xY (t.qy[c_1]!) (xC s (xP s t c_1))).2)] ?_
  refine qj (t_n (qi (qi (ql ?_))))
  refine sps [.int .i64 ((xY (t.qy[c_1]!) (xC s (xP s t c_1))).2), .bool (((xY (t.qy[c_1]!) (xC s (xP s t c_1))).2 : Int) != 0)] ?_
  refine qj (t_n ?_)
  refine qC (((xY (t.qy[c_1]!) (xC s (xP s t c_1))).2 : Int) != 0) rfl (fun h89 => ?_) (fun h89 => ?_)
  ·skip
   replace h89 := bne_iff_ne.1 h89
   refine qi (ql ?_)
   refine sps [.slice zO zq zJ, .slice a_all Ql XJ, .int .i64 ((xY (t.qy[c_1]!) (xC s (xP s t c_1))).2), .slice zO zq zJ, .slice a_all Ql XJ, .int .i64 ((xY (t.qy[c_1]!) (xC s (xP s t c_1))).2)] ?_
   refine qj (t_n (qV (t_r (b_r (t_r (t_r (b_r (t_r ?_))))))))
   refine ret3 (.slice zO zq zJ) (.slice a_all Ql XJ) (.int .i64 ((xY (t.qy[c_1]!) (xC s (xP s t c_1))).2)) rfl rfl rfl rfl ⟨_, rfl, ?_⟩
   replace H := H.erases [5, 2, 1, 0]
   dsimp only [Qv, List.eraseIdx] at H
   refine sps [.tuple #[.slice zO zq zJ, .slice a_all Ql XJ, .int .i64 ((xY (t.qy[c_1]!) (xC s (xP s t c_1))).2)], .slice zO zq zJ, .slice a_all Ql XJ, .int .i64 ((xY (t.qy[c_1]!) (xC s (xP s t c_1))).2), .slice zO zq zJ, .slice a_all Ql XJ, .int .i64 ((xY (t.qy[c_1]!) (xC s (xP s t c_1))).2)] ?_
   refine qj (t_n (qi (qi (ql ?_))))
   refine sps [.int .i64 ((xY (t.qy[c_1]!) (xC s (xP s t c_1))).2), .bool (((xY (t.qy[c_1]!) (xC s (xP s t c_1))).2 : Int) != 0)] ?_
   refine qj (t_n ?_)
   refine qC (((xY (t.qy[c_1]!) (xC s (xP s t c_1))).2 : Int) != 0) rfl (fun h90 => ?_) (fun h => absurd (xw h) h89)
   replace h90 := bne_iff_ne.1 h90
   refine qi (ql ?_)
   refine sw (jm H Tryz.underlying27 ti22 fun b91 w92 H => ?_)
   refine sps [.int .i64 ((xY (t.qy[c_1]!) (xC s (xP s t c_1))).2), .slice (aa b91 0) 0 0, .int .i64 ((xY (t.qy[c_1]!) (xC s (xP s t c_1))).2)] ?_
   refine qj (t_n (qV (t_r ?_)))
   replace H := H.boxRow 0 rfl 1 0 rfl (by decide)
   try dsimp only [List.set] at H
   replace H := H.jq (α := List Int)
   refine ret2 (.slice (aa b91 0) 0 0) (.int .i64 ((xY (t.qy[c_1]!) (xC s (xP s t c_1))).2)) rfl rfl rfl ⟨_, rfl, ?_, H.base⟩
   rw [cho_code (bad_code (c := c_1) (by omega) (by omega) ‹_›) ‹_›]
   exact ⟨(aa b91 0), 0, 0, [], [], rfl, (N.emp.pick [0]), H.pick [0] [0]⟩
  replace h89 := xw h89
  refine qM (t_n (qi (ql ?_)))
  refine sps [.slice zO zq zJ, .slice jX vS jW] ?_
  refine sw (vJ H Tryz.underlying113 ti118 [.slice jX vS jW] fun b93 w94 H => ?_)
  obtain ⟨G98, N, hn99, H⟩ := H.Xx 3 rfl N (H.awayN [0, 4, 5])
  try dsimp only [List.set] at H
  refine sw (jh H 5 rfl 0 rfl Tryz.underlying113 ti118 rfl (by decide) rfl rfl rfl (by simp [Value.oneCell', Value.cells]) (by unfold maxLen; omega) (by omega) fun a95 c96 w97 H => ?_)
  try dsimp only [List.set] at H
  replace H := H.QF 5 rfl 0 rfl
  replace N : Fresh w.heap.size [(F_rules ++ G98), rF83a, F_all] := (N.pick [2, 0, 1, 3]).join
  refine sp (.slice a95 (zq + 1) c96) ?_
  refine qj (t_n (ql ?_))
  refine sps [.slice a_all Ql XJ, .slice ra83a (((xY (t.qy[c_1]!) (xC s (xP s t c_1))).1).length) rc83a] ?_
  refine sw (vJ H Tryz.underlying114 ti27 [.slice ra83a (((xY (t.qy[c_1]!) (xC s (xP s t c_1))).1).length) rc83a] fun b100 w101 H => ?_)
  have H0 := H
  obtain ⟨G105, hg107, hn106, H⟩ := H.freezeR (α := List Int) 2 rfl 2 rfl (by decide)
  replace N : Fresh w.heap.size [G105, (F_rules ++ G98), F_all] := Fresh.ice (N.pick [1, 0, 2]) H0 2 hg107.1 hg107.2 (H0.awayN [0, 7])
  clear H0
  try dsimp only [List.set] at H
  refine sw (jh H 5 rfl 0 rfl Tryz.underlying114 ti27 rfl (by decide) rfl rfl rfl (by simp [Value.oneCell', Value.cells]) (by unfold maxLen; omega) (by omega) fun a102 c103 w104 H => ?_)
  try dsimp only [List.set] at H
  replace H := H.QF 8 rfl 0 rfl
  replace N : Fresh w.heap.size [(F_all ++ G105), (F_rules ++ G98)] := (N.pick [2, 0, 1]).join
  refine sp (.slice a102 (Ql + 1) c103) ?_
  refine qj (b_n (t_n (ql ?_)))
  refine sp (.int .i64 c_1) ?_
  refine sw (zk c_1 1 rfl rfl (by omega) ?_)
  refine sp (.int .i64 (c_1 + 1)) ?_
  refine qj ?_
  refine xk (m' := (s.qf.length - ((c_1 + 1) : Int)).toNat) (by omega) ⟨_, a95, zq + 1, c96, ((qQ s t c_1) ++ [(xP s t c_1)]), x_rules ++ [.slice jX vS jW], (F_rules ++ G98), a102, Ql + 1, c103, ((qZ s t c_1) ++ [(xY (t.qy[c_1]!) (xC s (xP s t c_1))).1]), x_all ++ [.slice ra83a (((xY (t.qy[c_1]!) (xC s (xP s t c_1))).1).length) rc83a], (F_all ++ G105), c_1 + 1, (by exact qg (qg (qg (qg (qg (qg (rfl) rfl) rfl) rfl) rfl) rfl) rfl), ?_, ?_, ?_, ?_, rfl, (N.pick [1, 0]), H.pick [5, 6, 7] [2, 0, 10, 11, 12, 13, 14, 15, 16]⟩
  · first | exact rules_yes (by omega) | exact rules_no (by omega)
  · first | exact packsL_yes (by omega) | exact packsL_no (by omega)
  · omega
  · exact gp.succ (by first | exact .inl (by omega) | exact .inr (show (xY _ _).2 = 0 from ‹_›))
 replace h50 := of_decide_eq_false h50
 refine xQ (t_x (t_x (b_x (t_n (qi (ql ?_))))))
 refine sps [.slice zO zq zJ, .slice a_all Ql XJ, .slice zO zq zJ, .slice a_all Ql XJ, .int .i64 0] ?_
 refine qj (t_n (qV ?_))
 refine ret3 (.slice zO zq zJ) (.slice a_all Ql XJ) (.int .i64 0) rfl rfl rfl rfl ⟨_, rfl, ?_⟩
 replace H := H.erases [2]
 dsimp only [Qv, List.eraseIdx] at H
 obtain rfl : c_1 = s.qf.length := by omega
 have kb := prod_bd p0 p1 (k := s.qf.length) (by omega) gp
 have kn := packsL_ne p0 p1 (k := s.qf.length) (by omega) gp
 have kr := rules_le s t s.qf.length
 have kl := packsL_le s t s.qf.length
 refine sps [.tuple #[.slice zO zq zJ, .slice a_all Ql XJ, .int .i64 0], .slice zO zq zJ, .slice a_all Ql XJ, .int .i64 0, .slice zO zq zJ, .slice a_all Ql XJ, .int .i64 0] ?_
 refine qj (t_n (qi (qi (ql ?_))))
 refine sps [.int .i64 0, .bool false] ?_
 refine qj (t_n ?_)
 refine qC false rfl (fun h => absurd h (by decide)) (fun _ => ?_)
 refine qM (t_n (qi (qi (ql ?_))))
 refine sp (.slice a_all Ql XJ) ?_
 obtain ⟨G108, hn109, h110⟩ := H.rowIsR (α := List (List Int)) 0 rfl 1 rfl (by decide)
 refine sw (oc (args_eq (by rw [← hn109]) (l03Count_ok _ (qZ s t s.qf.length) _ _ _ (hn109 ▸ h110) (by first | assumption | omega))) ?_)
 rintro _ w112 rfl x113
 replace H := H.ext x113
 refine sp (.bool (decide ((((yA (qZ s t s.qf.length) (qZ s t s.qf.length).length : Nat) : Int) : Int) > 300))) ?_
 refine qj (t_n ?_)
 refine qC (decide ((((yA (qZ s t s.qf.length) (qZ s t s.qf.length).length : Nat) : Int) : Int) > 300)) rfl (fun h114 => ?_) (fun h114 => ?_)
 ·skip
  replace h114 := of_decide_eq_true h114
  refine qi (ql ?_)
  refine sw (jm H Tryz.underlying27 ti22 fun b115 w116 H => ?_)
  refine sps [.slice (aa b115 0) 0 0, .int .i64 3] ?_
  refine qj (t_n (qV (t_r ?_)))
  replace H := H.boxRow 0 rfl 1 0 rfl (by decide)
  try dsimp only [List.set] at H
  replace H := H.jq (α := List Int)
  refine ret2 (.slice (aa b115 0) 0 0) (.int .i64 3) rfl rfl rfl ⟨_, rfl, ?_, H.base⟩
  first | rw [cho_3 (.inl (bad_sum (c := c) (by omega) (by omega) (by omega)))] | rw [cho_3 (.inr (by omega))]
  exact ⟨(aa b115 0), 0, 0, [], [], rfl, (N.emp.pick [0]), H.pick [0] [0]⟩
 replace h114 := of_decide_eq_false h114
 have kc : ¬ yA (qZ s t s.qf.length) (qZ s t s.qf.length).length > 300 := by omega
 refine qM (t_n (qi (ql ?_)))
 refine sps [pp bs os, pp bs os] ?_
 refine oF rfl ?_
 refine oL rfl (H.xJ 2 rfl 2 rfl) ?_
 refine oN rfl ?_
 refine sw (zt H Tryz.underlying22 ti2 s.qh.length rfl rfl (by omega) (by omega) (by omega) fun b117 w118 H => ?_)
 refine sw (vJ H Tryz.underlying27 ti22 [.slice (aa b117 0) s.qh.length s.qh.length] fun b119 w120 H => ?_)
 refine sp (.slice (aa b119 0) 1 1) ?_
 refine qj (t_n (qi (qi (ql ?_))))
 refine sp (.int .i64 0) ?_
 refine qj (t_n (qW ?_))
 have H0 := H
 obtain ⟨G121, hg123, hn122, H⟩ := H.freezeR (α := List Int) 3 rfl 0 rfl (by decide)
 replace N : Fresh w.heap.size [G121, F_all] := Fresh.ice N H0 3 hg123.1 hg123.2 (H0.awayN [1])
 clear H0
 try dsimp only [List.set] at H
 have H0 := H
 obtain ⟨G124, hg126, hn125, H⟩ := H.freezeR (α := List (List Int)) 2 rfl 2 rfl (by decide)
 replace N : Fresh w.heap.size [G124, G121] := Fresh.ice (N.pick [1, 0]) H0 2 hg126.1 hg126.2 (H0.awayN [0])
 clear H0
 try dsimp only [List.set] at H
 replace H := H.boxRow 0 rfl 1 1 rfl (by decide)
 try dsimp only [List.set] at H
 replace H := H.jq (α := List Int)
 obtain ⟨G127, N, hn128, H⟩ := H.Xx 1 rfl N (H.awayN [1, 2])
 try dsimp only [List.set] at H
 replace H := H.Xq true 0 rfl 1 rfl (by simp)
 replace N : Fresh w.heap.size [(G127 ++ []), G124, G121] := (N.emp.pick [1, 0, 2, 3]).join
 refine zf (fun m' ρ w129 => ∃ (junk : Env) (vH : Option Addr) (xX : Nat) (zQ : Nat) (out : List (List Int)) (x_out : List Value) (Q5 : List Nat) (i : Nat), ρ = upd (upd (upd (upd junk 6 (.slice zO zq zJ)) 7 (.slice a_all Ql XJ)) 9 (.slice vH xX zQ)) 10 (.int .i64 i) ∧ out = (zF s.qh.length (qQ s t s.qf.length) (qZ s t s.qf.length) i) ∧ ((i : Int) ≤ Ql) ∧ m' = (Ql - (i : Int)).toNat ∧ Fresh w.heap.size [G124, G121, Q5] ∧ St w w129 [.row (.slice vH xX zQ) 22 1 xX x_out] [zn true Q5 x_out out, isF true G124 (.slice a_all Ql XJ) (qZ s t s.qf.length), isF true G121 (.slice zO zq zJ) (qQ s t s.qf.length)]) ((Ql - (0 : Int)).toNat) ⟨_, (aa b119 0), 1, 1, [(List.replicate s.qh.length (0 : Int))], [.slice (aa b117 0) s.qh.length s.qh.length], (G127 ++ []), 0, (by exact qg (qg (qg (qg (rfl) rfl) rfl) rfl) rfl), (by rfl), (by omega), rfl, (N.pick [1, 2, 0]), H.pick [0] [0, 3, 4]⟩ ?_
 clear H N
 rintro m' ρ w130 ⟨junk, vH, xX, zQ, out, x_out, Q5, i, rfl, rfl, i0, rfl, N, H⟩
 have hn_out := H.zK (α := List Int) 0 rfl 0 rfl (by decide)
 refine qi (qi (ql ?_))
 refine sps [.int .i64 i, .slice a_all Ql XJ] ?_
 refine oN rfl ?_
 refine sp (.bool (decide ((i : Int) < Ql))) ?_
 refine qj (t_n ?_)
 refine qC (decide ((i : Int) < Ql)) rfl (fun h131 => ?_) (fun h131 => ?_)
 ·skip
  replace h131 := of_decide_eq_true h131
  have ga := G_le (n := s.qh.length) (rs := (qQ s t s.qf.length)) (i := i) kn kc (by omega)
  obtain ⟨gb, gc⟩ := cell_few (s := s) (t := t) (n := s.qf.length) (i := i) p0 (by omega)
  refine qM (t_n (qi (qW (qi (ql ?_)))))
  refine sw (jm H Tryz.underlying27 ti22 fun b132 w133 H => ?_)
  refine sp (.slice (aa b132 0) 0 0) ?_
  refine qj (t_n (qi (qi (ql ?_))))
  refine sp (.int .i64 0) ?_
  refine qj (t_n (qW ?_))
  replace H := H.boxRow 0 rfl 1 0 rfl (by decide)
  try dsimp only [List.set] at H
  replace H := H.jq (α := List Int)
  refine zf (fun m' ρ w134 => ∃ (junk : Env) (a_next : Option Addr) (n_next : Nat) (c_next : Nat) (next : List (List Int)) (x_next : List Value) (F_next : List Nat) (k : Nat), ρ = upd (upd (upd (upd (upd (upd junk 6 (.slice zO zq zJ)) 7 (.slice a_all Ql XJ)) 9 (.slice vH xX zQ)) 10 (.int .i64 i)) 11 (.slice a_next n_next c_next)) 12 (.int .i64 k) ∧ next = (nextK (zF s.qh.length (qQ s t s.qf.length) (qZ s t s.qf.length) i) ((qQ s t s.qf.length)[i]!) ((qZ s t s.qf.length)[i]!) k) ∧ ((k : Int) ≤ xX) ∧ m' = (xX - (k : Int)).toNat ∧ Fresh w.heap.size [G124, G121, Q5, F_next] ∧ St w w134 [.row (.slice a_next n_next c_next) 22 1 n_next x_next, .row (.slice vH xX zQ) 22 1 xX x_out] [zn true F_next x_next next, zn true Q5 x_out (zF s.qh.length (qQ s t s.qf.length) (qZ s t s.qf.length) i), isF true G124 (.slice a_all Ql XJ) (qZ s t s.qf.length), isF true G121 (.slice zO zq zJ) (qQ s t s.qf.length)]) ((xX - (0 : Int)).toNat) ⟨_, (aa b132 0), 0, 0, ([] : List (List Int)), [], [], 0, (by exact qg (qg (qg (qg (qg (qg (rfl) rfl) rfl) rfl) rfl) rfl) rfl), (by rfl), (by omega), rfl, (N.emp.pick [1, 2, 3, 0]), H⟩ ?_
  clear H N
  rintro m' ρ w135 ⟨junk, a_next, n_next, c_next, next, x_next, F_next, k, rfl, rfl, i0, rfl, N, H⟩
  have hn_next := H.zK (α := List Int) 0 rfl 0 rfl (by decide)
  refine qi (qi (ql ?_))
  refine sps [.int .i64 k, .slice vH xX zQ] ?_
  refine oN rfl ?_
  refine sp (.bool (decide ((k : Int) < xX))) ?_
  refine qj (t_n ?_)
  refine qC (decide ((k : Int) < xX)) rfl (fun h136 => ?_) (fun h136 => ?_)
  ·skip
   replace h136 := of_decide_eq_true h136
   refine qM (t_n (qi (qW (qi (ql ?_)))))
   refine sp (.int .i64 0) ?_
   refine qj (t_n (qW ?_))
   refine zf (fun m' ρ w137 => ∃ (junk : Env) (yR : Option Addr) (vO : Nat) (yQ : Nat) (next_1 : List (List Int)) (Qp : List Value) (yc : List Nat) (x : Nat), ρ = upd (upd (upd (upd (upd (upd (upd junk 6 (.slice zO zq zJ)) 7 (.slice a_all Ql XJ)) 9 (.slice vH xX zQ)) 10 (.int .i64 i)) 11 (.slice yR vO yQ)) 12 (.int .i64 k)) 13 (.int .i64 x) ∧ next_1 = (nextX (zF s.qh.length (qQ s t s.qf.length) (qZ s t s.qf.length) i) ((qQ s t s.qf.length)[i]!) ((qZ s t s.qf.length)[i]!) k x) ∧ ((x : Int) ≤ (((qZ s t s.qf.length)[i]!).length)) ∧ m' = ((((qZ s t s.qf.length)[i]!).length) - (x : Int)).toNat ∧ Fresh w.heap.size [G124, G121, Q5, yc] ∧ St w w137 [.row (.slice yR vO yQ) 22 1 vO Qp, .row (.slice vH xX zQ) 22 1 xX x_out] [zn true yc Qp next_1, zn true Q5 x_out (zF s.qh.length (qQ s t s.qf.length) (qZ s t s.qf.length) i), isF true G124 (.slice a_all Ql XJ) (qZ s t s.qf.length), isF true G121 (.slice zO zq zJ) (qQ s t s.qf.length)]) (((((qZ s t s.qf.length)[i]!).length) - (0 : Int)).toNat) ⟨_, a_next, n_next, c_next, (nextK (zF s.qh.length (qQ s t s.qf.length) (qZ s t s.qf.length) i) ((qQ s t s.qf.length)[i]!) ((qZ s t s.qf.length)[i]!) k), x_next, F_next, 0, (by exact qg (qg (qg (qg (qg (qg (qg (rfl) rfl) rfl) rfl) rfl) rfl) rfl) rfl), (by exact nextX_zero _ _ _ _), (by omega), rfl, N, H⟩ ?_
   clear H N
   rintro m' ρ w138 ⟨junk, yR, vO, yQ, next_1, Qp, yc, x, rfl, rfl, i0, rfl, N, H⟩
   have hn_next := H.zK (α := List Int) 0 rfl 0 rfl (by decide)
   refine qi (qi (ql ?_))
   refine sps [.int .i64 x, .slice a_all Ql XJ, .int .i64 i] ?_
   have hl141 := H.isLen 2 rfl
   obtain ⟨b139, o140, rfl⟩ := H.addr 2 rfl (by omega)
   obtain ⟨ae142, ce142, Fe142, H⟩ := H.jo 2 rfl i i (by omega) (by omega) (by omega)
   refine oI rfl rfl ?_
   refine oL rfl (H.xJ 1 rfl 0 rfl) ?_
   refine oN rfl ?_
   refine sp (.bool (decide ((x : Int) < (((qZ s t s.qf.length)[i]!).length)))) ?_
   refine qj (t_n ?_)
   refine qC (decide ((x : Int) < (((qZ s t s.qf.length)[i]!).length))) rfl (fun h143 => ?_) (fun h143 => ?_)
   ·skip
    replace h143 := of_decide_eq_true h143
    have nx := next_le (n := s.qh.length) (rs := (qQ s t s.qf.length)) (i := i) (k := k) (x := x) kn kc (by omega) (by omega) (by omega)
    have g1 := prodG_at (n := s.qh.length) (rs := (qQ s t s.qf.length)) (all := (qZ s t s.qf.length)) (i := i) (k := k) (by omega)
    have g2 := pack_at (s := s) (t := t) (n := s.qf.length) (i := i) (x := x) (by omega) (by omega)
    refine qM (t_n (qi (qW (qi (ql ?_)))))
    refine sps [.slice vH xX zQ, .int .i64 k] ?_
    obtain ⟨b144, rfl⟩ := H.rowAddr 1 rfl (by omega)
    refine oI rfl rfl ?_
    obtain ⟨a145, c146, G147, s148, h149, hx150, hy151, H⟩ := H.rowElemX 1 rfl 3 rfl (iv := k) k (by omega) (by omega)
    refine oL rfl (H.rowGet 1 rfl hx150) ?_
    have sz152 := H.base.size
    have lt153 := H.ltN (L := [G124, G121, Q5, yc]) [5, 6, 4, 3]
    refine sw (oc (l00Own_ok _ ((zF s.qh.length (qQ s t s.qf.length) (qZ s t s.qf.length) i)[k]!) _ _ _ (H.get 0 rfl).1 (by first | assumption | omega)) ?_)
    rintro v157 w155 r157 x156
    replace H := H.yM x156 r157
    obtain ⟨a158, c159, rfl, hc160, hm161⟩ := H.rowForm 0 rfl
    refine sp (.slice a158 (((zF s.qh.length (qQ s t s.qf.length) (qZ s t s.qf.length) i)[k]!).length) c159) ?_
    refine qj (t_n (qi (qi (ql ?_))))
    refine sp (.int .i64 0) ?_
    refine qj (t_n (qW ?_))
    refine zf (fun m' ρ w162 => ∃ (junk : Env) (r : Nat) (own : List Int), ρ = upd (upd (upd (upd (upd (upd (upd (upd (upd junk 6 (.slice zO zq zJ)) 7 (.slice (aa b139 o140) Ql XJ)) 9 (.slice (aa b144 0) xX zQ)) 10 (.int .i64 i)) 11 (.slice yR vO yQ)) 12 (.int .i64 k)) 13 (.int .i64 x)) 14 (.slice a158 (((zF s.qh.length (qQ s t s.qf.length) (qZ s t s.qf.length) i)[k]!).length) c159)) 15 (.int .i64 r) ∧ own = (setTo ((zF s.qh.length (qQ s t s.qf.length) (qZ s t s.qf.length) i)[k]!) ((qQ s t s.qf.length)[i]!) (((qZ s t s.qf.length)[i]!)[x]!) r) ∧ ((r : Int) ≤ (((qQ s t s.qf.length)[i]!).length)) ∧ m' = ((((qQ s t s.qf.length)[i]!).length) - (r : Int)).toNat ∧ Fresh w.heap.size [G124, G121, Q5, yc] ∧ St w w162 [.row (.slice a158 (((zF s.qh.length (qQ s t s.qf.length) (qZ s t s.qf.length) i)[k]!).length) c159) 2 1 (((zF s.qh.length (qQ s t s.qf.length) (qZ s t s.qf.length) i)[k]!).length) (own.map (Value.int .i64)), .row (.slice yR vO yQ) 22 1 vO Qp, .row (.slice (aa b144 0) xX zQ) 22 1 xX x_out] [isF true Fe142 (.slice ae142 (((qZ s t s.qf.length)[i]!).length) ce142) ((qZ s t s.qf.length)[i]!), atF b139 (o140 + (i : Int).toNat * 1) [.slice ae142 (((qZ s t s.qf.length)[i]!).length) ce142], zn true yc Qp (nextX (zF s.qh.length (qQ s t s.qf.length) (qZ s t s.qf.length) i) ((qQ s t s.qf.length)[i]!) ((qZ s t s.qf.length)[i]!) k x), zn true Q5 x_out (zF s.qh.length (qQ s t s.qf.length) (qZ s t s.qf.length) i), isF true G124 (.slice (aa b139 o140) Ql XJ) (qZ s t s.qf.length), isF true G121 (.slice zO zq zJ) (qQ s t s.qf.length)]) (((((qQ s t s.qf.length)[i]!).length) - (0 : Int)).toNat) ⟨_, 0, ((zF s.qh.length (qQ s t s.qf.length) (qZ s t s.qf.length) i)[k]!), (by exact qg (qg (qg (qg (qg (qg (qg (qg (qg (rfl) rfl) rfl) rfl) rfl) rfl) rfl) rfl) rfl) rfl), (by rfl), (by omega), rfl, N, H.pick [0, 1, 2] [1, 2, 3, 4, 5, 6]⟩ ?_
    clear H N
    rintro m' ρ w163 ⟨junk, r, own, rfl, rfl, i0, rfl, N, H⟩
    have hn_own := H.rowNI 0 rfl
    have sl := setTo_len ((zF s.qh.length (qQ s t s.qf.length) (qZ s t s.qf.length) i)[k]!) ((qQ s t s.qf.length)[i]!) (((qZ s t s.qf.length)[i]!)[x]!) r
    refine qi (qi (ql ?_))
    refine sps [.int .i64 r, .slice zO zq zJ, .int .i64 i] ?_
    have hl166 := H.isLen 5 rfl
    obtain ⟨b164, o165, rfl⟩ := H.addr 5 rfl (by omega)
    obtain ⟨ae167, ce167, Fe167, H⟩ := H.jo 5 rfl i i (by omega) (by omega) (by omega)
    refine oI rfl rfl ?_
    refine oL rfl (H.xJ 1 rfl 0 rfl) ?_
    refine oN rfl ?_
    refine sp (.bool (decide ((r : Int) < (((qQ s t s.qf.length)[i]!).length)))) ?_
    refine qj (t_n ?_)
    refine qC (decide ((r : Int) < (((qQ s t s.qf.length)[i]!).length))) rfl (fun h168 => ?_) (fun h168 => ?_)
    ·skip
     replace h168 := of_decide_eq_true h168
     obtain ⟨g3, g4⟩ := choice_at (s := s) (t := t) (n := s.qf.length) (i := i) (r := r) (by omega) (by omega)
     refine qM (t_n (qi (qW ?_)))
     refine c_drawK rfl H [1, 2] fun H => ?_
     have S := H.pickC [1, 2] [0, 1, 2, 3, 4, 5, 6, 7]
     refine rtp 0 (.slice a158 (((zF s.qh.length (qQ s t s.qf.length) (qZ s t s.qf.length) i)[k]!).length) c159) S ?_
     refine rtp 1 (.slice (aa b164 o165) zq zJ) S ?_
     refine rtp 2 (.int .i64 i) S ?_
     refine tI 3 rfl rfl rfl S ?_
     refine tL 4 rfl rfl (fun _ h => h.xJ 1 rfl 0 rfl) S ?_
     refine rtp 5 (.int .i64 r) S ?_
     obtain ⟨b170, o171, rfl⟩ := H.addr 0 rfl (by omega)
     have S := H.pickC [1, 2] [0, 1, 2, 3, 4, 5, 6, 7]
     refine tI 6 rfl rfl rfl S ?_
     refine tL 7 rfl rfl (fun _ h => h.yP 0 rfl r (by omega)) S ?_
     refine rtp 8 (.slice (aa b139 o140) Ql XJ) S ?_
     refine rtp 9 (.int .i64 i) S ?_
     refine tI 10 rfl rfl rfl S ?_
     refine tL 11 rfl rfl (fun _ h => h.xJ 3 rfl 0 rfl) S ?_
     refine rtp 12 (.int .i64 x) S ?_
     obtain ⟨b173, o174, rfl⟩ := H.addr 2 rfl (by omega)
     obtain ⟨ae176, ce176, Fe176, H⟩ := H.jo 2 rfl x x (by omega) (by omega) (by omega)
     have S := H.pickC [1, 2] [2, 3, 4, 5, 6, 7, 8, 9]
     refine tI 13 rfl rfl rfl S ?_
     refine rtp 15 (.int .i64 r) S ?_
     refine qR [14] (by kernel_rfl) (by simp) (xA rfl ?_ qU)
     refine jU (.slice ae176 ((((qZ s t s.qf.length)[i]!)[x]!).length) ce176) Tryz.isAgg22 rfl (H.xJ 1 rfl 0 rfl) ?_
     refine ⟨H.pick [1, 2] [2, 3, 4, 5, 6, 7, 8, 9], ?_⟩
     obtain ⟨b177, o178, rfl⟩ := H.addr 0 rfl (by omega)
     refine tI 16 rfl rfl rfl (H.pick [1, 2] [2, 3, 4, 5, 6, 7, 8, 9]) ?_
     refine qR [17] (by kernel_rfl) (by simp) (xA rfl ?_ qU)
     refine jU (.int .i64 ((((qZ s t s.qf.length)[i]!)[x]!)[r]!)) Tryz.isAgg2 rfl (H.vT 0 rfl r (by omega) (by omega)) ?_
     refine ⟨H.pick [1, 2] [2, 3, 4, 5, 6, 7, 8, 9], ?_⟩
     obtain ⟨b180, rfl⟩ := H.rowAddr 0 rfl (by omega)
     refine tI 18 rfl rfl rfl (H.pick [1, 2] [2, 3, 4, 5, 6, 7, 8, 9]) ?_
     refine qR [19] (by kernel_rfl) (by simp) (xA rfl ?_ qU)
     refine o_storeInt H 0 rfl ((((qZ s t s.qf.length)[i]!)[x]!)[r]!) Tryz.sizeOf2 rfl rfl (i := ((((qQ s t s.qf.length)[i]!)[r]!).toNat)) (by omega) (by omega) fun w181 H => ?_
     try dsimp only [List.set] at H
     refine ⟨H.pick [1, 2] [2, 3, 4, 5, 6, 7, 8, 9], ?_⟩
     refine xq (by kernel_rfl) (b_n (t_n ?_))
     refine ql ?_
     refine sp (.int .i64 r) ?_
     refine sw (zk r 1 rfl rfl (by omega) ?_)
     refine sp (.int .i64 (r + 1)) ?_
     refine qj ?_
     refine xk (m' := ((((qQ s t s.qf.length)[i]!).length) - ((r + 1) : Int)).toNat) (by omega) ⟨_, r + 1, ((setTo ((zF s.qh.length (qQ s t s.qf.length) (qZ s t s.qf.length) i)[k]!) ((qQ s t s.qf.length)[i]!) (((qZ s t s.qf.length)[i]!)[x]!) r).set ((((qQ s t s.qf.length)[i]!)[r]!).toNat) ((((qZ s t s.qf.length)[i]!)[x]!)[r]!)), (by exact qg (qg (qg (qg (qg (qg (qg (qg (qg (rfl) rfl) rfl) rfl) rfl) rfl) rfl) rfl) rfl) rfl), ?_, ?_, rfl, N, H.pick [0, 1, 2] [4, 5, 6, 7, 8, 9]⟩
     · rfl
     · omega
    replace h168 := of_decide_eq_false h168
    refine xQ (t_x (t_x (b_x (t_n (ql ?_)))))
    refine sps [.slice yR vO yQ, .slice a158 (((zF s.qh.length (qQ s t s.qf.length) (qZ s t s.qf.length) i)[k]!).length) c159] ?_
    refine sw (vJ H Tryz.underlying27 ti22 [.slice a158 (((zF s.qh.length (qQ s t s.qf.length) (qZ s t s.qf.length) i)[k]!).length) c159] fun b182 w183 H => ?_)
    obtain ⟨G187, N, hn188, H⟩ := H.Xx 1 rfl N (H.awayN [6, 7, 5, 4])
    try dsimp only [List.set] at H
    refine sw (jh H 2 rfl 0 rfl Tryz.underlying27 ti22 rfl (by decide) rfl rfl rfl (by simp [Value.oneCell', Value.cells]) (by unfold maxLen; omega) (by omega) fun a184 c185 w186 H => ?_)
    try dsimp only [List.set] at H
    replace H := H.QF 5 rfl 0 rfl
    replace N : Fresh w.heap.size [(yc ++ G187), G124, G121, Q5] := (N.pick [4, 0, 1, 2, 3]).join
    refine sp (.slice a184 (vO + 1) c185) ?_
    refine qj (b_n (t_n (ql ?_)))
    refine sp (.int .i64 x) ?_
    refine sw (zk x 1 rfl rfl (by omega) ?_)
    refine sp (.int .i64 (x + 1)) ?_
    refine qj ?_
    refine xk (m' := ((((qZ s t s.qf.length)[i]!).length) - ((x + 1) : Int)).toNat) (by omega) ⟨_, a184, vO + 1, c185, ((nextX (zF s.qh.length (qQ s t s.qf.length) (qZ s t s.qf.length) i) ((qQ s t s.qf.length)[i]!) ((qZ s t s.qf.length)[i]!) k x) ++ [(setTo ((zF s.qh.length (qQ s t s.qf.length) (qZ s t s.qf.length) i)[k]!) ((qQ s t s.qf.length)[i]!) (((qZ s t s.qf.length)[i]!)[x]!) r)]), Qp ++ [.slice a158 (((zF s.qh.length (qQ s t s.qf.length) (qZ s t s.qf.length) i)[k]!).length) c159], (yc ++ G187), x + 1, (by exact qg (qg (qg (qg (qg (qg (qg (rfl) rfl) rfl) rfl) rfl) rfl) rfl) rfl), ?_, ?_, rfl, (N.pick [1, 2, 3, 0]), H.pick [2, 3] [0, 7, 8, 9]⟩
    · exact nextX_succ (by omega) (by rw [show r = ((qQ s t s.qf.length)[i]!).length by omega]; rfl)
    · omega
   replace h143 := of_decide_eq_false h143
   refine xQ (t_x (t_x (b_x (b_n (t_n (ql ?_))))))
   refine sp (.int .i64 k) ?_
   refine sw (zk k 1 rfl rfl (by omega) ?_)
   refine sp (.int .i64 (k + 1)) ?_
   refine qj ?_
   refine xk (m' := (xX - ((k + 1) : Int)).toNat) (by omega) ⟨_, yR, vO, yQ, (nextX (zF s.qh.length (qQ s t s.qf.length) (qZ s t s.qf.length) i) ((qQ s t s.qf.length)[i]!) ((qZ s t s.qf.length)[i]!) k x), Qp, yc, k + 1, (by exact qg (qg (qg (qg (qg (qg (rfl) rfl) rfl) rfl) rfl) rfl) rfl), ?_, ?_, rfl, N, H.pick [0, 1] [2, 3, 4, 5]⟩
   · exact nextX_end (by omega) (by omega)
   · omega
  replace h136 := of_decide_eq_false h136
  refine xQ (t_x (t_x (b_x (t_n (ql ?_)))))
  refine sps [.slice a_next n_next c_next, .slice a_next n_next c_next] ?_
  refine qj (b_n (t_n (ql ?_)))
  refine sp (.int .i64 i) ?_
  refine sw (zk i 1 rfl rfl (by omega) ?_)
  refine sp (.int .i64 (i + 1)) ?_
  refine qj ?_
  refine xk (m' := (Ql - ((i + 1) : Int)).toNat) (by omega) ⟨_, a_next, n_next, c_next, (nextK (zF s.qh.length (qQ s t s.qf.length) (qZ s t s.qf.length) i) ((qQ s t s.qf.length)[i]!) ((qZ s t s.qf.length)[i]!) k), x_next, F_next, i + 1, (by exact qg (qg (qg (qg (rfl) rfl) rfl) rfl) rfl), ?_, ?_, rfl, (N.pick [0, 1, 3]), H.pick [0] [0, 2, 3]⟩
  · rw [show k = (zF s.qh.length (qQ s t s.qf.length) (qZ s t s.qf.length) i).length by omega]; rfl
  · omega
 replace h131 := of_decide_eq_false h131
 refine xQ (t_x (t_x (b_x (t_n (qi (qi (ql ?_)))))))
 refine sp (.int .i64 1) ?_
 refine qj (t_n (qW ?_))
 have on : 0 < (zF s.qh.length (qQ s t s.qf.length) (qZ s t s.qf.length) i).length := by rw [QO, show i = (qZ s t s.qf.length).length by omega]; exact prod_mono kn (Nat.zero_le _) (Nat.le_refl _)
 have on2 := G_le (n := s.qh.length) (rs := (qQ s t s.qf.length)) (i := i) kn kc (by omega)
 refine zf (fun m' ρ w189 => ∃ (junk : Env) (i_1 : Nat) (out_1 : List (List Int)) (Xu : List Value) (QS : List Nat), ρ = upd (upd junk 9 (.slice vH xX zQ)) 16 (.int .i64 i_1) ∧ ((i_1 : Int) ≤ xX) ∧ ((zF s.qh.length (qQ s t s.qf.length) (qZ s t s.qf.length) (qZ s t s.qf.length).length).Perm out_1) ∧ (∀ a b, a < b → b < i_1 → ¬ ahead (out_1[b]!) (out_1[a]!)) ∧ m' = (xX - (i_1 : Int)).toNat ∧ Fresh w.heap.size [QS] ∧ St w w189 [.row (.slice vH xX zQ) 22 1 xX Xu] [zn true QS Xu out_1]) ((xX - (1 : Int)).toNat) ⟨_, 1, (zF s.qh.length (qQ s t s.qf.length) (qZ s t s.qf.length) i), x_out, Q5, (by exact qg (qg (rfl) rfl) rfl), (by omega), (by rw [show i = (qZ s t s.qf.length).length by omega]), (by exact fun a b h1 h2 => by omega), rfl, (N.pick [2]), H.pick [0] [0]⟩ ?_
 clear H N
 rintro m' ρ w190 ⟨junk, i_1, out_1, Xu, QS, rfl, i0, o1, o2, rfl, N, H⟩
 have hn_out := H.zK (α := List Int) 0 rfl 0 rfl (by decide)
 refine qi (qi (ql ?_))
 refine sps [.int .i64 i_1, .slice vH xX zQ] ?_
 refine oN rfl ?_
 refine sp (.bool (decide ((i_1 : Int) < xX))) ?_
 refine qj (t_n ?_)
 refine qC (decide ((i_1 : Int) < xX)) rfl (fun h191 => ?_) (fun h191 => ?_)
 ·skip
  replace h191 := of_decide_eq_true h191
  refine qM (t_n (qi (qW (qi (ql ?_)))))
  refine sps [.int .i64 i_1, .int .i64 i_1] ?_
  refine qj (t_n (qW ?_))
  refine zf (fun m' ρ w192 => ∃ (junk : Env) (k : Int) (out_51 : List (List Int)) (x_out_51 : List Value) (F_out_51 : List Nat), ρ = upd (upd (upd junk 9 (.slice vH xX zQ)) 16 (.int .i64 i_1)) 17 (.int .i64 k) ∧ ((zF s.qh.length (qQ s t s.qf.length) (qZ s t s.qf.length) (qZ s t s.qf.length).length).Perm out_51) ∧ (InsTo out_51 i_1 k.toNat) ∧ (0 ≤ k ∧ k ≤ i_1) ∧ m' = ((k : Int)).toNat ∧ Fresh w.heap.size [F_out_51] ∧ St w w192 [.row (.slice vH xX zQ) 22 1 xX x_out_51] [zn true F_out_51 x_out_51 out_51]) (((i_1 : Int)).toNat) ⟨_, i_1, out_1, Xu, QS, (by exact qg (qg (qg (rfl) rfl) rfl) rfl), (by assumption), (by exact InsTo.start o2), (by omega), rfl, N, H⟩ ?_
  clear H N
  rintro m' ρ w193 ⟨junk, k, out_51, x_out_51, F_out_51, rfl, o3, o4, o5, rfl, N, H⟩
  have hn_out := H.zK (α := List Int) 0 rfl 0 rfl (by decide)
  refine qi (qi ?_)
  refine vZ rfl H fun H => ?_
  refine rtp 0 (.int .i64 k) H ?_
  refine rtp 1 (.bool (decide ((k : Int) > 0))) H ?_
  refine rtp 2 (.bool (decide ((k : Int) > 0))) H ?_
  cases h195 : (decide ((k : Int) > 0))
  ·skip
   replace h195 := of_decide_eq_false h195
   refine zi [3, 4, 5, 6, 7, 8, 9, 10, 11, 12] 10 (H) ?_
   refine rtp 13 (.bool false) H ?_
   refine xq (by kernel_rfl) (t_n ?_)
   refine qC false rfl (fun h => absurd h (by decide)) (fun _ => ?_)
   refine xQ (t_x (t_x (b_x (b_n (t_n (ql ?_))))))
   refine sp (.int .i64 i_1) ?_
   refine sw (zk i_1 1 rfl rfl (by omega) ?_)
   refine sp (.int .i64 (i_1 + 1)) ?_
   refine qj ?_
   refine xk (m' := (xX - ((i_1 + 1) : Int)).toNat) (by omega) ⟨_, i_1 + 1, out_51, x_out_51, F_out_51, (by exact qg (qg (rfl) rfl) rfl), ?_, ?_, ?_, rfl, N, H⟩
   · omega
   · assumption
   · exact o4.stop (perm_rows o3) (by omega) (by omega) (by first | exact .inl (by omega) | exact .inr (by rw [show k.toNat - 1 = (k - 1).toNat by omega]; assumption))
  replace h195 := of_decide_eq_true h195
  refine rgp 3 (.slice vH xX zQ) 110 H ?_
  refine rgp 4 (.int .i64 k) 110 H ?_
  obtain ⟨b196, rfl⟩ := H.rowAddr 0 rfl (by omega)
  refine gI 5 rfl rfl rfl H ?_
  obtain ⟨a197, c198, G199, s200, h201, hx202, hy203, H⟩ := H.rowElemX 0 rfl 0 rfl (iv := k) k.toNat (by omega) (by omega)
  have S := H.pickC [0] [1]
  refine gL 6 rfl rfl (fun _ h => h.rowGet 0 rfl hx202) S ?_
  refine rgp 7 (.slice (aa b196 0) xX zQ) 110 S ?_
  refine rgp 8 (.int .i64 k) 110 S ?_
  refine rg 9 (.int .i64 (k - 1)) 110 (y_sub k 1 rfl rfl (by omega)) S ?_
  refine gI 10 rfl rfl rfl S ?_
  obtain ⟨a204, c205, G206, s207, h208, hx209, hy210, H⟩ := H.rowElemX 0 rfl 1 rfl (iv := k - 1) ((k - 1).toNat) (by omega) (by omega)
  refine gL 11 rfl rfl (fun _ h => h.rowGet 0 rfl hx209) (H.pick [0] [2]) ?_
  refine qR [12] (by kernel_rfl) (by simp) (r_opG rfl (e := 110) rfl rfl ?_ qU)
  have g5 := perm_rows o3
  have g6 := g5 k.toNat (by omega)
  have g7 := g5 (k - 1).toNat (by omega)
  refine oc (l03Before_ok _ (out_51[k.toNat]!) (out_51[(k - 1).toNat]!) _ _ _ _ _ _ (H.get 1 rfl).1 (H.get 0 rfl).1 (by first | assumption | omega)) ?_
  rintro _ w212 rfl x213
  replace H := H.ext x213
  refine ⟨H.pick [0] [2], ?_⟩
  refine rtp 13 (.bool (dec (ahead (out_51[k.toNat]!) (out_51[(k - 1).toNat]!)))) (H.pick [0] [2]) ?_
  refine xq (by kernel_rfl) (t_n ?_)
  refine qC (dec (ahead (out_51[k.toNat]!) (out_51[(k - 1).toNat]!))) rfl (fun h214 => ?_) (fun h214 => ?_)
  ·skip
   replace h214 := vC h214
   refine qM (t_n (qi (qW (qi (ql ?_)))))
   refine sps [.slice (aa b196 0) xX zQ, .int .i64 k] ?_
   refine oI rfl rfl ?_
   obtain ⟨a215, c216, G217, s218, h219, hx220, hy221, H⟩ := H.rowElemX 0 rfl 2 rfl (iv := k) k.toNat (by omega) (by omega)
   refine oL rfl (H.rowGet 0 rfl hx220) ?_
   refine sp (.slice a215 ((out_51[k.toNat]!).length) c216) ?_
   refine qj (t_n (qi (ql ?_)))
   refine sps [.slice (aa b196 0) xX zQ, .int .i64 k, .slice (aa b196 0) xX zQ, .int .i64 k] ?_
   refine sw (o_sub k 1 rfl rfl (by omega) ?_)
   refine oI rfl rfl ?_
   obtain ⟨a222, c223, G224, s225, h226, hx227, hy228, H⟩ := H.rowElemX 0 rfl 3 rfl (iv := k - 1) ((k - 1).toNat) (by omega) (by omega)
   refine oL rfl (H.rowGet 0 rfl hx227) ?_
   refine oI rfl rfl ?_
   refine sw (o_storeRow1 H 0 rfl (.slice a222 ((out_51[(k - 1).toNat]!).length) c223) Tryz.sizeOf22 rfl rfl rfl (by omega) fun w229 H => ?_)
   try dsimp only [List.set] at H
   refine qj (t_n (ql ?_))
   refine sps [.slice (aa b196 0) xX zQ, .int .i64 k] ?_
   refine sw (o_sub k 1 rfl rfl (by omega) ?_)
   refine sp (.slice a215 ((out_51[k.toNat]!).length) c216) ?_
   refine oI rfl rfl ?_
   refine sw (o_storeRow1 H 0 rfl (.slice a215 ((out_51[k.toNat]!).length) c216) Tryz.sizeOf22 rfl rfl rfl (by omega) fun w230 H => ?_)
   try dsimp only [List.set] at H
   obtain ⟨F231, hF232, H⟩ := H.swapR 4 rfl (k := (k : Int).toNat) (i := (k - 1 : Int).toNat) (by omega) (by omega) (by omega) hy228 hy221
   replace N : Fresh w.heap.size [F231] := Fresh.perm N hF232
   refine qj (b_n (t_n (ql ?_)))
   refine sp (.int .i64 k) ?_
   refine sw (o_sub k 1 rfl rfl (by omega) ?_)
   refine sp (.int .i64 (k - 1)) ?_
   refine qj ?_
   refine xk (m' := (((k - 1) : Int)).toNat) (by omega) ⟨_, k - 1, (swapAt out_51 k.toNat), ((x_out_51.set (k : Int).toNat (.slice a222 ((out_51[(k - 1).toNat]!).length) c223)).set (k - 1 : Int).toNat (.slice a215 ((out_51[k.toNat]!).length) c216)), F231, (by exact qg (qg (qg (rfl) rfl) rfl) rfl), ?_, ?_, ?_, rfl, N, H.pick [0] [0]⟩
   · exact perm_swap o3 (by omega) (by omega)
   · rw [show (k - 1).toNat = k.toNat - 1 by omega]; exact o4.down (perm_rows o3) (by omega) (by omega) (by omega) (by rw [show k.toNat - 1 = (k - 1).toNat by omega]; assumption)
   · omega
  replace h214 := xI h214
  refine xQ (t_x (t_x (b_x (b_n (t_n (ql ?_))))))
  refine sp (.int .i64 i_1) ?_
  refine sw (zk i_1 1 rfl rfl (by omega) ?_)
  refine sp (.int .i64 (i_1 + 1)) ?_
  refine qj ?_
  refine xk (m' := (xX - ((i_1 + 1) : Int)).toNat) (by omega) ⟨_, i_1 + 1, out_51, x_out_51, F_out_51, (by exact qg (qg (rfl) rfl) rfl), ?_, ?_, ?_, rfl, N, H.pick [0] [2]⟩
  · omega
  · assumption
  · exact o4.stop (perm_rows o3) (by omega) (by omega) (by first | exact .inl (by omega) | exact .inr (by rw [show k.toNat - 1 = (k - 1).toNat by omega]; assumption))
 replace h191 := of_decide_eq_false h191
 refine xQ (t_x (t_x (b_x (t_n (qi (ql ?_))))))
 refine sps [.slice vH xX zQ, .slice vH xX zQ, .int .i64 0] ?_
 refine qj (t_n (qV ?_))
 refine ret2 (.slice vH xX zQ) (.int .i64 0) rfl rfl rfl ⟨_, rfl, ?_, H.base⟩
 rw [cho_0 gp kc o1 (in_order (by omega) o2)]
 exact ⟨vH, xX, zQ, Xu, QS, rfl, N, H.pick [0] [0]⟩

end Go.Proofs.YtgjnaocffdhnbaaGreat
