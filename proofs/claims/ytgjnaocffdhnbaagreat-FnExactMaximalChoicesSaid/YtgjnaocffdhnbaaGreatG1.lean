/- Walks, printed by program (wip/tools/gv.py): what each function comes to, for all arguments. -/
import Derived.Test.YtgjnaocffdhnbaaGreatG0
import Derived.Test.YtgjnaocffdhnbaaGreatT0
import Derived.Test.YtgjnaocffdhnbaaGreatI
import Derived.Test.YtgjnaocffdhnbaaGreatTI
namespace Go.Proofs.YtgjnaocffdhnbaaGreat
set_option linter.unusedVariables false
set_option linter.unusedSimpArgs false
open Go.Proofs.YtgjnaocffdhnbaaGreat.Tot (tot)
open Go.Proofs.YtgjnaocffdhnbaaGreat.Mark (cnt mrk mkd mkd_mark cnt_mark)
open Go.RowKit
set_option linter.unusedVariables false
set_option linter.unusedSimpArgs false
set_option maxRecDepth 100000
set_option maxHeartbeats 4000000

instance iC189_G1 : Qn Tryz.prog 189 := ⟨Tryz.call189⟩


theorem both_ok (w : World) (l : List Int) (m : List Int) (of : FuncId) (capsof : Array Value) (gof : Nat → Int) (al : Option Addr) (cl : Nat) (Fl : List Nat) (am : Option Addr) (cm : Nat) (Fm : List Nat) (hl : qE.rep w Fl [.slice al l.length cl] l) (hm : qE.rep w Fm [.slice am m.length cm] m) (p0 : l.length ≤ m.length) (p1 : l.length ≤ 1000000) (hfof : ∀ args w, (callFunc of args).run Tryz.prog w = .ok (.enter of args) w) (hofof : ∀ k w', k < l.length → Ext w w' → Calls Tryz.prog of (([.int .i64 (l[k]!), .int .i64 (m[k]!)] : List Value) ++ capsof.toList).toArray w' (Ret (fun v _ => v = .int .i64 (gof k)) w')) : Calls Tryz.prog 189 #[.slice al l.length cl, .slice am m.length cm, .func (.func of) #[] capsof] w (Ret (fun v w' => OwnNew w w' 2 v (tabTo gof l.length)) w) := by
 refine en Tryz.func189 Tryz.ntmps189 ?_
 have H := ((St.start w).arg hm).arg hl
 have nhl := qA hl
 have nhm := qA hm
 clear hl hm
 refine qi (ql ?_)
 refine sp (.slice none 0 0) ?_
 refine qj (t_n (qi (ql ?_)))
 refine sw (jm H Tryz.underlying22 ti2 fun b1 w2 H => ?_)
 replace H : St _ _ [.box b1 [] 2] _ := H
 refine sp (.slice (aa b1 0) 0 0) ?_
 refine qj (t_n (qi (qi (ql ?_))))
 refine sp (.slice al l.length cl) ?_
 refine oN rfl ?_
 refine sp (.int .i64 0) ?_
 refine qj (t_n (qW ?_))
 replace H := H.boxRow 0 rfl 1 0 rfl (by decide)
 replace H : St _ _ [.row (.slice (aa b1 0) 0 0) 2 1 0 []] _ := H
 refine zf (fun m' ρ w3 => ∃ (junk : Env) (k : Nat) (vr7 : Value), ρ = upd (upd (upd (upd (upd (upd (upd junk 1 (.slice am m.length cm)) 2 (.func (.func of) #[] capsof)) 6 (.slice none 0 0)) 7 (vr7)) 11 (.slice al l.length cl)) 12 (.int .i64 l.length)) 13 (.int .i64 k) ∧ (k ≤ l.length) ∧ m' = l.length - k ∧ St w w3 [.row vr7 2 1 k ((tabTo gof k).map (Value.int .i64))] [isF false Fl (.slice al l.length cl) l, isF false Fm (.slice am m.length cm) m]) (l.length - 0) ⟨_, 0, (.slice (aa b1 0) 0 0), (by exact qg (qg (qg (qg (qg (qg (qg (rfl) rfl) rfl) rfl) rfl) rfl) rfl) rfl), (by omega), rfl, H⟩ ?_
 clear H
 rintro m' ρ w4 ⟨junk, k, vr7, rfl, i0, rfl, H⟩
 refine qi (ql ?_)
 refine sp (.bool (decide ((k : Int) < l.length))) ?_
 refine qj (t_n (qi ?_))
 refine qC (decide ((k : Int) < l.length)) rfl (fun h5 => ?_) (fun h5 => ?_)
 ·skip
  replace h5 := of_decide_eq_true h5
  refine qM (t_n (qi (qW (qi (ql ?_)))))
  refine sp (.int .i64 k) ?_
  obtain ⟨b6, o7, rfl⟩ := H.addr 0 rfl (by omega)
  refine oI rfl rfl ?_
  refine oL rfl (H.vT 0 rfl k (by omega) (by omega)) ?_
  refine sps [.int .i64 k, .int .i64 (l[k]!)] ?_
  refine qj (t_n (ql ?_))
  refine sps [vr7, .func (.func of) #[] capsof, .int .i64 (l[k]!), .slice am m.length cm, .int .i64 k] ?_
  obtain ⟨b8, o9, rfl⟩ := H.addr 1 rfl (by omega)
  refine oI rfl rfl ?_
  refine oL rfl (H.vT 1 rfl k (by omega) (by omega)) ?_
  refine sw (o_callV [.int .i64 (l[k]!), .int .i64 (m[k]!)] rfl rfl hfof (hofof k _ (by omega) H.base) ?_)
  rintro _ w10 rfl x11
  replace H := H.ext x11
  refine sw (o_build1 H Tryz.underlying22 ti2 (by decide) (by decide) (.int .i64 (gof k)) rfl rfl fun b12 w13 H => ?_)
  replace H : St _ _ [.box b12 [.int .i64 (gof k)] 2, .row vr7 2 1 k ((tabTo gof k).map (Value.int .i64))] _ := H
  refine sw (o_append H 1 rfl 0 rfl Tryz.underlying22 ti2 rfl (by decide) rfl rfl rfl (by simp [Value.oneCell', Value.cells]) (by unfold maxLen; omega) (by omega) fun v14 w15 H => ?_)
  replace H : St _ _ [.box b12 [.int .i64 (gof k)] 2, .row v14 2 1 (k + 1) (((tabTo gof k).map (Value.int .i64)) ++ [.int .i64 (gof k)])] _ := H
  refine sp (v14) ?_
  refine qj (b_n (t_n (ql ?_)))
  refine sw (zk k 1 rfl rfl (by omega) ?_)
  refine sp (.int .i64 (k + 1)) ?_
  refine qj ?_
  rw [show ((tabTo gof k).map (Value.int .i64)) ++ [.int .i64 (gof k)] = (tabTo gof (k + 1)).map (Value.int .i64) from by (rw [tabTo_succ]; simp)] at H
  refine xk (m' := l.length - (k + 1)) (by omega) ⟨_, k + 1, v14, (by exact qg (qg (qg (qg (qg (qg (qg (rfl) rfl) rfl) rfl) rfl) rfl) rfl) rfl), ?_, rfl, H.sel _ (.cons _ (.refl _)) _ (by simp)⟩
  · omega
 replace h5 := of_decide_eq_false h5
 refine xQ (t_x (t_x (b_x (t_n (qi (ql ?_))))))
 refine sps [vr7, vr7] ?_
 refine qj (t_n (qV ?_))
 refine ret1 (vr7) rfl rfl ⟨_, rfl, ?_, H.base⟩
 obtain rfl : k = l.length := by omega
 exact H.newInts 0 rfl (by simp)

theorem plus1_ok (w : World) (x : Int) (y : Int) (t : Int) (bt ot : Nat) (hpt : zT w bt ot [.int .i64 t]) (p0 : -1000000000000000 ≤ x ∧ x ≤ 1000000000000000) (p1 : -1000000000000000 ≤ t * y ∧ t * y ≤ 1000000000000000) : Calls Tryz.prog 190 #[.int .i64 x, .int .i64 y, pp bt ot] w (Ret (fun v w' => v = .int .i64 (x + t * y)) w) := by
 refine en Tryz.func190 Tryz.ntmps190 ?_
 have H := (St.start w).argAt hpt
 clear hpt
 refine qi (ql ?_)
 refine sp (.int .i64 0) ?_
 refine qj (t_n (qi (ql ?_)))
 refine sp (.int .i64 x) ?_
 refine oL rfl (H.xJ 0 rfl 0 rfl) ?_
 refine sp (.int .i64 y) ?_
 refine sw (o_mul t y rfl rfl (by omega) ?_)
 refine sw (zk x (t * y) rfl rfl (by omega) ?_)
 refine sp (.int .i64 (x + (t * y))) ?_
 refine qj (t_n (qV ?_))
 refine ret1 (.int .i64 (x + (t * y))) rfl rfl ⟨_, rfl, ?_, H.base⟩
 rfl

theorem plus_ok (w : World) (l : List Int) (m : List Int) (t : Int) (al : Option Addr) (cl : Nat) (Fl : List Nat) (am : Option Addr) (cm : Nat) (Fm : List Nat) (hl : qE.rep w Fl [.slice al l.length cl] l) (hm : qE.rep w Fm [.slice am m.length cm] m) (p0 : l.length ≤ m.length) (p1 : Mid l) (p2 : SmallT m t) : Calls Tryz.prog 152 #[.slice al l.length cl, .slice am m.length cm, .int .i64 t] w (Ret (fun v w' => OwnNew w w' 2 v (jH l m t)) w) := by
 refine en Tryz.func152 Tryz.ntmps152 ?_
 have H := ((St.start w).arg hm).arg hl
 have nhl := qA hl
 have nhm := qA hm
 clear hl hm
 have p3 := p1.1
 refine qi (ql ?_)
 refine sw (o_box H (.int .i64 t) rfl fun b1 w2 H => ?_)
 replace H : St _ _ [.box b1 [.int .i64 t] 2] _ := H
 refine sp (.slice none 0 0) ?_
 refine qj (t_n (qi (ql ?_)))
 refine sps [.slice al l.length cl, .slice am m.length cm, .func (.func 190) #[] #[pp b1 0]] ?_
 have szx4 := H.base.size
 refine sw (oc (both_ok _ l m 190 #[pp b1 0] (fun k => l[k]! + t * m[k]!) _ _ _ _ _ _ (H.get 0 rfl).1 (H.get 1 rfl).1 (by omega) (by omega) Tryz.call190 (fun k w' hk e => plus1_ok w' _ _ t _ _ ((H.ext e).cells 0 rfl) (by have := p1.2 k hk; omega) (p2 k (by omega)))) ?_)
 rintro v5 w3 r5 x4
 replace H := H.yM x4 r5
 refine sp (v5) ?_
 refine qj (t_n (qV ?_))
 refine ret1 (v5) rfl rfl ⟨_, rfl, ?_, H.base⟩
 exact H.newInts 0 rfl (by simp [plusL_len])

theorem l01Plus_ok (w : World) (l : List Int) (m : List Int) (t : Int) (al : Option Addr) (cl : Nat) (Fl : List Nat) (am : Option Addr) (cm : Nat) (Fm : List Nat) (hl : qE.rep w Fl [.slice al l.length cl] l) (hm : qE.rep w Fm [.slice am m.length cm] m) (p0 : l.length ≤ m.length) (p1 : Mid l) (p2 : SmallT m t) : Calls Tryz.prog 181 #[.slice al l.length cl, .slice am m.length cm, .int .i64 t] w (Ret (fun v w' => OwnNew w w' 2 v (jH l m t)) w) := by
 refine en Tryz.func181 Tryz.ntmps181 ?_
 have H := ((St.start w).arg hm).arg hl
 have nhl := qA hl
 have nhm := qA hm
 clear hl hm
 have p3 := p1.1
 refine qi (ql ?_)
 refine sp (.slice none 0 0) ?_
 refine qj (t_n (qi (ql ?_)))
 refine sw (jm H Tryz.underlying22 ti2 fun b1 w2 H => ?_)
 replace H : St _ _ [.box b1 [] 2] _ := H
 refine sp (.slice (aa b1 0) 0 0) ?_
 refine qj (t_n (qi (qi (ql ?_))))
 refine sp (.int .i64 0) ?_
 refine qj (t_n (qW ?_))
 replace H := H.boxRow 0 rfl 1 0 rfl (by decide)
 replace H : St _ _ [.row (.slice (aa b1 0) 0 0) 2 1 0 []] _ := H
 refine zf (fun m' ρ w3 => ∃ (junk : Env) (k : Nat) (vr7 : Value), ρ = upd (upd (upd (upd (upd (upd junk 0 (.slice al l.length cl)) 1 (.slice am m.length cm)) 2 (.int .i64 t)) 6 (.slice none 0 0)) 7 (vr7)) 8 (.int .i64 k) ∧ (k ≤ l.length) ∧ m' = l.length - k ∧ St w w3 [.row vr7 2 1 k ((plusTo l m t k).map (Value.int .i64))] [isF false Fl (.slice al l.length cl) l, isF false Fm (.slice am m.length cm) m]) (l.length - 0) ⟨_, 0, (.slice (aa b1 0) 0 0), (by exact qg (qg (qg (qg (qg (qg (rfl) rfl) rfl) rfl) rfl) rfl) rfl), (by omega), rfl, H⟩ ?_
 clear H
 rintro m' ρ w4 ⟨junk, k, vr7, rfl, i0, rfl, H⟩
 refine qi (qi (ql ?_))
 refine sps [.int .i64 k, .slice al l.length cl] ?_
 refine oN rfl ?_
 refine sp (.bool (decide ((k : Int) < l.length))) ?_
 refine qj (t_n ?_)
 refine qC (decide ((k : Int) < l.length)) rfl (fun h5 => ?_) (fun h5 => ?_)
 ·skip
  replace h5 := of_decide_eq_true h5
  refine qM (t_n (qi (qW ?_)))
  refine c_draw (fun w6 => St w w6 [] [isF false Fl (.slice al l.length cl) l, isF false Fm (.slice am m.length cm) m]) rfl ((H.ext (ext_drew _)).sel _ (.cons _ (.refl _)) _ (fun _ h => h)) ?_
  replace H := H.ext (ext_drew _)
  refine rtp 0 (vr7) (H.sel _ (.cons _ (.refl _)) _ (fun _ h => h)) ?_
  refine rtp 1 (.slice al l.length cl) (H.sel _ (.cons _ (.refl _)) _ (fun _ h => h)) ?_
  refine rtp 2 (.int .i64 k) (H.sel _ (.cons _ (.refl _)) _ (fun _ h => h)) ?_
  obtain ⟨b7, o8, rfl⟩ := H.addr 0 rfl (by omega)
  refine tI 3 rfl rfl rfl (H.sel _ (.cons _ (.refl _)) _ (fun _ h => h)) ?_
  refine tL 4 rfl rfl (fun _ h => h.yP 0 rfl k (by omega)) (H.sel _ (.cons _ (.refl _)) _ (fun _ h => h)) ?_
  refine rtp 5 (.slice am m.length cm) (H.sel _ (.cons _ (.refl _)) _ (fun _ h => h)) ?_
  refine rtp 6 (.int .i64 k) (H.sel _ (.cons _ (.refl _)) _ (fun _ h => h)) ?_
  obtain ⟨b9, o10, rfl⟩ := H.addr 1 rfl (by omega)
  refine tI 7 rfl rfl rfl (H.sel _ (.cons _ (.refl _)) _ (fun _ h => h)) ?_
  refine tL 8 rfl rfl (fun _ h => h.yP 1 rfl k (by omega)) (H.sel _ (.cons _ (.refl _)) _ (fun _ h => h)) ?_
  refine rtp 9 (.int .i64 t) (H.sel _ (.cons _ (.refl _)) _ (fun _ h => h)) ?_
  refine rt 10 (.int .i64 ((m[k]!) * t)) (y_mul (m[k]!) t rfl rfl (by (have := p1.2 k (by omega); have := p2 k (by omega); rw [Int.mul_comm] at this; omega))) (H.sel _ (.cons _ (.refl _)) _ (fun _ h => h)) ?_
  refine rt 11 (.int .i64 ((l[k]!) + ((m[k]!) * t))) (y_add (l[k]!) ((m[k]!) * t) rfl rfl (by (have := p1.2 k (by omega); have := p2 k (by omega); rw [Int.mul_comm] at this; omega))) (H.sel _ (.cons _ (.refl _)) _ (fun _ h => h)) ?_
  refine qR [12] (by kernel_rfl) (by simp) (xA rfl ?_ qU)
  refine o_build1 H Tryz.underlying22 ti2 (by decide) (by decide) (.int .i64 ((l[k]!) + ((m[k]!) * t))) rfl rfl fun b11 w12 H => ?_
  replace H : St _ _ [.box b11 [.int .i64 ((l[k]!) + ((m[k]!) * t))] 2, .row vr7 2 1 k ((plusTo l m t k).map (Value.int .i64))] _ := H
  refine ⟨H.sel _ (.cons _ (.cons _ (.refl _))) _ (fun _ h => h), ?_⟩
  refine qR [13] (by kernel_rfl) (by simp) (xA rfl ?_ qU)
  refine o_append H 1 rfl 0 rfl Tryz.underlying22 ti2 rfl (by decide) rfl rfl rfl (by simp [Value.oneCell', Value.cells]) (by unfold maxLen; omega) (by omega) fun v13 w14 H => ?_
  replace H : St _ _ [.box b11 [.int .i64 ((l[k]!) + ((m[k]!) * t))] 2, .row v13 2 1 (k + 1) (((plusTo l m t k).map (Value.int .i64)) ++ [.int .i64 ((l[k]!) + ((m[k]!) * t))])] _ := H
  refine ⟨H.sel _ (.cons _ (.cons _ (.refl _))) _ (fun _ h => h), ?_⟩
  refine rtp 14 (v13) (H.sel _ (.cons _ (.cons _ (.refl _))) _ (fun _ h => h)) ?_
  refine xq (by kernel_rfl) (b_n (t_n ?_))
  refine ql ?_
  refine sp (.int .i64 k) ?_
  refine sw (zk k 1 rfl rfl (by (have := p1.2 k (by omega); have := p2 k (by omega); rw [Int.mul_comm] at this; omega)) ?_)
  refine sp (.int .i64 (k + 1)) ?_
  refine qj ?_
  rw [show ((plusTo l m t k).map (Value.int .i64)) ++ [.int .i64 ((l[k]!) + ((m[k]!) * t))] = (plusTo l m t (k + 1)).map (Value.int .i64) from by (rw [plusTo_succ, Int.mul_comm t]; simp)] at H
  refine xk (m' := l.length - (k + 1)) (by omega) ⟨_, k + 1, v13, (by exact qg (qg (qg (qg (qg (qg (rfl) rfl) rfl) rfl) rfl) rfl) rfl), ?_, rfl, H.sel _ (.cons _ (.refl _)) _ (by simp)⟩
  · omega
 replace h5 := of_decide_eq_false h5
 refine xQ (t_x (t_x (b_x (t_n (qi (ql ?_))))))
 refine sps [vr7, vr7] ?_
 refine qj (t_n (qV ?_))
 refine ret1 (vr7) rfl rfl ⟨_, rfl, ?_, H.base⟩
 obtain rfl : k = l.length := by omega
 exact H.newInts 0 rfl (by simp [jH, plusTo])

theorem l00Own_ok (w : World) (l : List Int) (al : Option Addr) (cl : Nat) (Fl : List Nat) (hl : qE.rep w Fl [.slice al l.length cl] l) (p0 : l.length ≤ 1000000) : Calls Tryz.prog 101 #[.slice al l.length cl] w (Ret (fun v w' => OwnNew w w' 2 v l) w) := by
 refine en Tryz.func101 Tryz.ntmps101 ?_
 have H := (St.start w).arg hl
 have nhl := qA hl
 clear hl
 refine qi (ql ?_)
 refine sp (.slice none 0 0) ?_
 refine qj (t_n (qi (ql ?_)))
 refine sw (jm H Tryz.underlying22 ti2 fun b1 w2 H => ?_)
 replace H : St _ _ [.box b1 [] 2] _ := H
 refine sp (.slice al l.length cl) ?_
 replace H := H.boxRow 0 rfl 1 0 rfl (by decide)
 replace H : St _ _ [.row (.slice (aa b1 0) 0 0) 2 1 0 []] _ := H
 refine sw (o_appendInts H 0 rfl 0 rfl Tryz.underlying22 ti2 rfl rfl rfl (by unfold maxLen; omega) (by omega) fun v3 w4 H => ?_)
 replace H : St _ _ [.row v3 2 1 (0 + l.length) ([] ++ l.map (Value.int .i64))] _ := H
 refine sp (v3) ?_
 refine qj (t_n (qV ?_))
 refine ret1 (v3) rfl rfl ⟨_, rfl, ?_, H.base⟩
 exact H.newInts 0 rfl (by omega)

theorem cloneI_ok (w : World) (l : List Int) (al : Option Addr) (cl : Nat) (Fl : List Nat) (hl : qE.rep w Fl [.slice al l.length cl] l) (p0 : l.length ≤ 1000000) : Calls Tryz.prog 108 #[.slice al l.length cl] w (Ret (fun v w' => OwnNew w w' 2 v l) w) := by
 refine en Tryz.func108 Tryz.ntmps108 ?_
 have H := (St.start w).arg hl
 have nhl := qA hl
 clear hl
 refine qi (ql ?_)
 refine sp (.slice none 0 0) ?_
 refine qj (t_n (qi (qi (ql ?_))))
 refine sp (.slice al l.length cl) ?_
 refine sw (o_eqnil Tryz.underlying22 al l.length cl rfl ?_)
 refine qj (t_n ?_)
 refine qC (al.isNone) rfl (fun h1 => ?_) (fun h1 => ?_)
 ·skip
  refine qi (ql ?_)
  refine sp (.slice none 0 0) ?_
  refine qj (t_n (qV (t_r ?_)))
  refine ret1 (.slice none 0 0) rfl rfl ⟨_, rfl, ?_, H.base⟩
  obtain rfl := H.nilOf 0 rfl ‹_›
  exact ownNew_nil _ _ _
 refine qM (t_n (qi (ql ?_)))
 refine sw (jm H Tryz.underlying22 ti2 fun b2 w3 H => ?_)
 replace H : St _ _ [.box b2 [] 2] _ := H
 refine sp (.slice al l.length cl) ?_
 replace H := H.boxRow 0 rfl 1 0 rfl (by decide)
 replace H : St _ _ [.row (.slice (aa b2 0) 0 0) 2 1 0 []] _ := H
 refine sw (o_appendInts H 0 rfl 0 rfl Tryz.underlying22 ti2 rfl rfl rfl (by unfold maxLen; omega) (by omega) fun v4 w5 H => ?_)
 replace H : St _ _ [.row v4 2 1 (0 + l.length) ([] ++ l.map (Value.int .i64))] _ := H
 refine sp (v4) ?_
 refine qj (t_n (qV ?_))
 refine ret1 (v4) rfl rfl ⟨_, rfl, ?_, H.base⟩
 exact H.newInts 0 rfl (by omega)

end Go.Proofs.YtgjnaocffdhnbaaGreat
