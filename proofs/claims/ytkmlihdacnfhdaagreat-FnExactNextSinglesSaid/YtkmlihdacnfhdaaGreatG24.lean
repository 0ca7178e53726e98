/- Walks, printed by program (wip/tools/gv.py): what each function comes to, for all arguments. -/
import Derived.Test.YtkmlihdacnfhdaaGreatG20
import Derived.Test.YtkmlihdacnfhdaaGreatTQ
import Derived.Test.YtkmlihdacnfhdaaGreatPB
namespace Go.Proofs.YtkmlihdacnfhdaaGreat
open Go.Proofs.YtkmlihdacnfhdaaGreat.Tot (tot)
open Go.Proofs.YtkmlihdacnfhdaaGreat.Mark (cnt mrk mkd mkd_mark cnt_mark)
open Go.RowKit
set_option linter.unusedVariables false
set_option linter.unusedSimpArgs false
set_option maxRecDepth 100000
set_option maxHeartbeats 4000000



theorem eqStateS_ok (w : World) (x : List qP) (y : List qP) (ax : Option Addr) (cx : Nat) (Fx : List Nat) (ay : Option Addr) (cy : Nat) (Fy : List Nat) (hx : qQ.rep w Fx [.slice ax x.length cx] x) (hy : qQ.rep w Fy [.slice ay y.length cy] y) : Calls Tryz.prog 35 #[.slice ax x.length cx, .slice ay y.length cy] w (Ret (fun v w' => v = .bool (decide (x = y))) w) := by
 refine enter (n := 27) Tryz.func35 rfl Tryz.ntmps35 (Nat.le_of_ble_eq_true rfl) ?_
 have H := ((St.start w).arg hy).arg hx
 have nhx := qJ hx
 have nhy := qJ hy
 clear hx hy
 refine qm (qy ?_)
 refine sp (.bool false) ?_
 refine qw (t_n (qm (qm (qy ?_))))
 refine sp (.slice ax x.length cx) ?_
 refine sw (zD Tryz.underlying57 ax x.length cx rfl ?_)
 refine sp (.slice ay y.length cy) ?_
 refine sw (zD Tryz.underlying57 ay y.length cy rfl ?_)
 refine sp (.bool ((x.length : Int) != y.length)) ?_
 refine qw (t_n ?_)
 refine qV ((x.length : Int) != y.length) rfl (fun h1 => ?_) (fun h1 => ?_)
 ·skip
  replace h1 := bne_iff_ne.1 h1
  refine qm (qy ?_)
  refine sp (.bool false) ?_
  refine qw (t_n (xx (t_r ?_)))
  refine ret1 (.bool false) rfl rfl ⟨_, rfl, ?_, H.base⟩
  first | rw [decide_eq_false (fun e => by subst e; omega)] | rw [decide_eq_false (zX (k := k) ‹_›)] | rw [decide_eq_true (vw (k := k) (by omega) (by omega) ‹_›)]
 replace h1 := xI h1
 refine xh (t_n (qm (qm (qy ?_))))
 refine sp (.int .i64 0) ?_
 refine qw (t_n (xu ?_))
 refine zG (fun m' ρ w2 => ∃ (junk : Env) (k : Nat), ρ = upd (upd (upd junk 0 (.slice ax x.length cx)) 1 (.slice ay y.length cy)) 5 (.int .i64 k) ∧ (k ≤ x.length) ∧ (x.take k = y.take k) ∧ m' = x.length - k ∧ St w w2 [] [isF false Fx (.slice ax x.length cx) x, isF false Fy (.slice ay y.length cy) y]) (x.length - 0) ⟨_, 0, (by exact qj (qj (qj (rfl) rfl) rfl) rfl), (by omega), (by rfl), rfl, H⟩ ?_
 clear H
 rintro m' ρ w3 ⟨junk, k, rfl, i0, i1, rfl, H⟩
 refine qm (qm (qy ?_))
 refine sps [.int .i64 k, .slice ax x.length cx] ?_
 refine sw (zD Tryz.underlying57 ax x.length cx rfl ?_)
 refine sp (.bool (decide ((k : Int) < x.length))) ?_
 refine qw (t_n ?_)
 refine qV (decide ((k : Int) < x.length)) rfl (fun h4 => ?_) (fun h4 => ?_)
 ·skip
  replace h4 := of_decide_eq_true h4
  refine xh (t_n (qm (xu (qm ?_))))
  refine jk rfl H fun H => ?_
  refine rtp 0 (.slice ax x.length cx) H ?_
  refine rtp 1 (.int .i64 k) H ?_
  obtain ⟨b6, o7, rfl⟩ := H.addr 0 rfl (by omega)
  obtain ⟨ae8Alive, ce8Alive, Fe8Alive, ae8Bags, ce8Bags, Fe8Bags, ae8Around, ce8Around, Fe8Around, H⟩ := H.elem_StateD 0 rfl k k (by omega) (by omega) (by omega)
  refine rt 2 (pp b6 (o7 + (k : Int).toNat * 3)) (xN b6 (o7) x.length cx k Tryz.underlying57 ti38 rfl rfl (by omega) (by omega)) (H.sel _ (.refl _) _ (fun _ h => List.mem_cons_of_mem _ (List.mem_cons_of_mem _ (List.mem_cons_of_mem _ (List.mem_cons_of_mem _ (h)))))) ?_
  refine rtp 4 (.slice ay y.length cy) (H.sel _ (.refl _) _ (fun _ h => List.mem_cons_of_mem _ (List.mem_cons_of_mem _ (List.mem_cons_of_mem _ (List.mem_cons_of_mem _ (h)))))) ?_
  refine rtp 5 (.int .i64 k) (H.sel _ (.refl _) _ (fun _ h => List.mem_cons_of_mem _ (List.mem_cons_of_mem _ (List.mem_cons_of_mem _ (List.mem_cons_of_mem _ (h)))))) ?_
  obtain ⟨b9, o10, rfl⟩ := H.addr 5 rfl (by omega)
  obtain ⟨ae11Alive, ce11Alive, Fe11Alive, ae11Bags, ce11Bags, Fe11Bags, ae11Around, ce11Around, Fe11Around, H⟩ := H.elem_StateD 5 rfl k k (by omega) (by omega) (by omega)
  refine rt 6 (pp b9 (o10 + (k : Int).toNat * 3)) (xN b9 (o10) y.length cy k Tryz.underlying57 ti38 rfl rfl (by omega) (by omega)) (H.sel _ (.refl _) _ (fun _ h => List.mem_cons_of_mem _ (List.mem_cons_of_mem _ (List.mem_cons_of_mem _ (List.mem_cons_of_mem _ (List.mem_cons_of_mem _ (List.mem_cons_of_mem _ (List.mem_cons_of_mem _ (List.mem_cons_of_mem _ (h)))))))))) ?_
  refine xB [3, 7] (by kernel_rfl) (by simp) (zh rfl ?_ (zh rfl ?_ xC))
  ·skip
   refine zi [.slice ae8Alive (((x[k]!).qh).length) ce8Alive, .slice ae8Bags (((x[k]!).qx).length) ce8Bags, .slice ae8Around (((x[k]!).ql).length) ce8Around] Tryz.isAgg38 Tryz.sizeOf38 rfl (qG (H.get 7 rfl) 0 3) ?_
   refine ⟨H.sel _ (.refl _) _ (fun _ h => List.mem_cons_of_mem _ (List.mem_cons_of_mem _ (List.mem_cons_of_mem _ (List.mem_cons_of_mem _ (List.mem_cons_of_mem _ (List.mem_cons_of_mem _ (List.mem_cons_of_mem _ (List.mem_cons_of_mem _ (h))))))))), ?_⟩
   refine xB [7] (by kernel_rfl) (by simp) (zh rfl ?_ xC)
   refine zi [.slice ae11Alive (((y[k]!).qh).length) ce11Alive, .slice ae11Bags (((y[k]!).qx).length) ce11Bags, .slice ae11Around (((y[k]!).ql).length) ce11Around] Tryz.isAgg38 Tryz.sizeOf38 rfl (qG (H.get 3 rfl) 0 3) ?_
   refine ⟨H.sel _ (.refl _) _ (fun _ h => List.mem_cons_of_mem _ (List.mem_cons_of_mem _ (List.mem_cons_of_mem _ (List.mem_cons_of_mem _ (List.mem_cons_of_mem _ (List.mem_cons_of_mem _ (List.mem_cons_of_mem _ (List.mem_cons_of_mem _ (h))))))))), ?_⟩
   refine xB [8] (by kernel_rfl) (by simp) (zh rfl ?_ xC)
   refine xf #[.agg #[.slice ae8Alive (((x[k]!).qh).length) ce8Alive, .slice ae8Bags (((x[k]!).qx).length) ce8Bags, .slice ae8Around (((x[k]!).ql).length) ce8Around], .agg #[.slice ae11Alive (((y[k]!).qh).length) ce11Alive, .slice ae11Bags (((y[k]!).qx).length) ce11Bags, .slice ae11Around (((y[k]!).ql).length) ce11Around]] rfl rfl Tryz.call16 (eqState_ok w3.drew (x[k]!) (y[k]!) ae8Alive ce8Alive Fe8Alive ae8Bags ce8Bags Fe8Bags ae8Around ce8Around Fe8Around ae11Alive ce11Alive Fe11Alive ae11Bags ce11Bags Fe11Bags ae11Around ce11Around Fe11Around (H.get 4 rfl).1 (H.get 5 rfl).1 (H.get 6 rfl).1 (H.get 0 rfl).1 (H.get 1 rfl).1 (H.get 2 rfl).1) ?_
   rintro _ w12 rfl x13
   replace H := H.ext x13
   refine ⟨H.sel _ (.refl _) _ (fun _ h => List.mem_cons_of_mem _ (List.mem_cons_of_mem _ (List.mem_cons_of_mem _ (List.mem_cons_of_mem _ (List.mem_cons_of_mem _ (List.mem_cons_of_mem _ (List.mem_cons_of_mem _ (List.mem_cons_of_mem _ (h))))))))), ?_⟩
   refine rtp 9 (.bool (!(decide ((x[k]!) = (y[k]!))))) (H.sel _ (.refl _) _ (fun _ h => List.mem_cons_of_mem _ (List.mem_cons_of_mem _ (List.mem_cons_of_mem _ (List.mem_cons_of_mem _ (List.mem_cons_of_mem _ (List.mem_cons_of_mem _ (List.mem_cons_of_mem _ (List.mem_cons_of_mem _ (h)))))))))) ?_
   refine xO (by kernel_rfl) (t_n ?_)
   refine qV (!(decide ((x[k]!) = (y[k]!)))) rfl (fun h14 => ?_) (fun h14 => ?_)
   ·skip
    replace h14 := xe h14
    replace h14 := of_decide_eq_false h14
    refine qm (qy ?_)
    refine sp (.bool false) ?_
    refine qw (t_n (xx (b_r (t_r (t_r (b_r (t_r ?_)))))))
    refine ret1 (.bool false) rfl rfl ⟨_, rfl, ?_, H.base⟩
    first | rw [decide_eq_false (fun e => by subst e; omega)] | rw [decide_eq_false (zX (k := k) ‹_›)] | rw [decide_eq_true (vw (k := k) (by omega) (by omega) ‹_›)]
   replace h14 := qX h14
   replace h14 := of_decide_eq_true h14
   refine xh (b_n (t_n (qy ?_)))
   refine sp (.int .i64 k) ?_
   refine sw (zJ k 1 rfl rfl (by omega) ?_)
   refine sp (.int .i64 (k + 1)) ?_
   refine qw ?_
   refine xF (m' := x.length - (k + 1)) (by omega) ⟨_, k + 1, (by exact qj (qj (qj (rfl) rfl) rfl) rfl), ?_, ?_, rfl, H.sel _ (.refl _) _ (by simp)⟩
   · omega
   · exact Qu (by omega) (by omega) ‹_› (by first | assumption | omega)
  refine zi [.slice ae11Alive (((y[k]!).qh).length) ce11Alive, .slice ae11Bags (((y[k]!).qx).length) ce11Bags, .slice ae11Around (((y[k]!).ql).length) ce11Around] Tryz.isAgg38 Tryz.sizeOf38 rfl (qG (H.get 3 rfl) 0 3) ?_
  refine ⟨H.sel _ (.refl _) _ (fun _ h => List.mem_cons_of_mem _ (List.mem_cons_of_mem _ (List.mem_cons_of_mem _ (List.mem_cons_of_mem _ (List.mem_cons_of_mem _ (List.mem_cons_of_mem _ (List.mem_cons_of_mem _ (List.mem_cons_of_mem _ (h))))))))), ?_⟩
  refine xB [3] (by kernel_rfl) (by simp) (zh rfl ?_ xC)
  refine zi [.slice ae8Alive (((x[k]!).qh).length) ce8Alive, .slice ae8Bags (((x[k]!).qx).length) ce8Bags, .slice ae8Around (((x[k]!).ql).length) ce8Around] Tryz.isAgg38 Tryz.sizeOf38 rfl (qG (H.get 7 rfl) 0 3) ?_
  refine ⟨H.sel _ (.refl _) _ (fun _ h => List.mem_cons_of_mem _ (List.mem_cons_of_mem _ (List.mem_cons_of_mem _ (List.mem_cons_of_mem _ (List.mem_cons_of_mem _ (List.mem_cons_of_mem _ (List.mem_cons_of_mem _ (List.mem_cons_of_mem _ (h))))))))), ?_⟩
  refine xB [8] (by kernel_rfl) (by simp) (zh rfl ?_ xC)
  refine xf #[.agg #[.slice ae8Alive (((x[k]!).qh).length) ce8Alive, .slice ae8Bags (((x[k]!).qx).length) ce8Bags, .slice ae8Around (((x[k]!).ql).length) ce8Around], .agg #[.slice ae11Alive (((y[k]!).qh).length) ce11Alive, .slice ae11Bags (((y[k]!).qx).length) ce11Bags, .slice ae11Around (((y[k]!).ql).length) ce11Around]] rfl rfl Tryz.call16 (eqState_ok w3.drew (x[k]!) (y[k]!) ae8Alive ce8Alive Fe8Alive ae8Bags ce8Bags Fe8Bags ae8Around ce8Around Fe8Around ae11Alive ce11Alive Fe11Alive ae11Bags ce11Bags Fe11Bags ae11Around ce11Around Fe11Around (H.get 4 rfl).1 (H.get 5 rfl).1 (H.get 6 rfl).1 (H.get 0 rfl).1 (H.get 1 rfl).1 (H.get 2 rfl).1) ?_
  rintro _ w15 rfl x16
  replace H := H.ext x16
  refine ⟨H.sel _ (.refl _) _ (fun _ h => List.mem_cons_of_mem _ (List.mem_cons_of_mem _ (List.mem_cons_of_mem _ (List.mem_cons_of_mem _ (List.mem_cons_of_mem _ (List.mem_cons_of_mem _ (List.mem_cons_of_mem _ (List.mem_cons_of_mem _ (h))))))))), ?_⟩
  refine rtp 9 (.bool (!(decide ((x[k]!) = (y[k]!))))) (H.sel _ (.refl _) _ (fun _ h => List.mem_cons_of_mem _ (List.mem_cons_of_mem _ (List.mem_cons_of_mem _ (List.mem_cons_of_mem _ (List.mem_cons_of_mem _ (List.mem_cons_of_mem _ (List.mem_cons_of_mem _ (List.mem_cons_of_mem _ (h)))))))))) ?_
  refine xO (by kernel_rfl) (t_n ?_)
  refine qV (!(decide ((x[k]!) = (y[k]!)))) rfl (fun h17 => ?_) (fun h17 => ?_)
  ·skip
   replace h17 := xe h17
   replace h17 := of_decide_eq_false h17
   refine qm (qy ?_)
   refine sp (.bool false) ?_
   refine qw (t_n (xx (b_r (t_r (t_r (b_r (t_r ?_)))))))
   refine ret1 (.bool false) rfl rfl ⟨_, rfl, ?_, H.base⟩
   first | rw [decide_eq_false (fun e => by subst e; omega)] | rw [decide_eq_false (zX (k := k) ‹_›)] | rw [decide_eq_true (vw (k := k) (by omega) (by omega) ‹_›)]
  replace h17 := qX h17
  replace h17 := of_decide_eq_true h17
  refine xh (b_n (t_n (qy ?_)))
  refine sp (.int .i64 k) ?_
  refine sw (zJ k 1 rfl rfl (by omega) ?_)
  refine sp (.int .i64 (k + 1)) ?_
  refine qw ?_
  refine xF (m' := x.length - (k + 1)) (by omega) ⟨_, k + 1, (by exact qj (qj (qj (rfl) rfl) rfl) rfl), ?_, ?_, rfl, H.sel _ (.refl _) _ (by simp)⟩
  · omega
  · exact Qu (by omega) (by omega) ‹_› (by first | assumption | omega)
 replace h4 := of_decide_eq_false h4
 refine zy (t_x (t_x (b_x (t_n (qm (qy ?_))))))
 refine sp (.bool true) ?_
 refine qw (t_n (xx ?_))
 refine ret1 (.bool true) rfl rfl ⟨_, rfl, ?_, H.base⟩
 first | rw [decide_eq_false (fun e => by subst e; omega)] | rw [decide_eq_false (zX (k := k) ‹_›)] | rw [decide_eq_true (vw (k := k) (by omega) (by omega) ‹_›)]

theorem markStateS_ok (w : World) (x : List qP) (kk : Int) (ax : Option Addr) (cx : Nat) (Fx : List Nat) (hx : qQ.rep w Fx [.slice ax x.length cx] x) (nd : Fx.Nodup) (fr : zU w Fx) (p0 : 0 ≤ kk) (p1 : kk + (cnt x : Nat) ≤ 4611686018427387904) : Calls Tryz.prog 36 #[.slice ax x.length cx, .int .i64 kk] w (RetM (fun v w' => v = .int .i64 (kk + (cnt x : Nat)) ∧ (isF true Fx (.slice ax x.length cx) (mrk x kk)).φ w') Fx w) := by
 refine enter (n := 34) Tryz.func36 rfl Tryz.ntmps36 (Nat.le_of_ble_eq_true rfl) ?_
 have H := St.start w
 replace H := H.add (isF true Fx (.slice ax x.length cx) x) ⟨hx, fun _ => fr.sub (by intro z hz; simp [hz])⟩ (Vm hx)
 have nhx := qJ hx
 clear hx
 have C : Chg Fx w w := Chg.refl _ _
 have N : ([Fx] : List (List Nat)).flatten.Nodup := by simpa using nd
 refine qm (qy ?_)
 refine sp (.int .i64 0) ?_
 refine qw (t_n (qm (qm (qy ?_))))
 refine sp (.int .i64 0) ?_
 refine qw (t_n (xu ?_))
 replace H : St w w [] [isF true Fx (.slice ax x.length cx) (zY x kk 0)] := by rw [markTo_zero]; exact H
 refine zG (fun m' ρ w1 => ∃ (junk : Env) (k : Nat) (r : Int) (W : World), ρ = upd (upd (upd (upd junk 0 (.slice ax x.length cx)) 1 (.int .i64 r)) 4 (.int .i64 0)) 5 (.int .i64 k) ∧ (k ≤ x.length) ∧ (r = kk + (Vg x k : Nat)) ∧ (Chg Fx w W) ∧ m' = x.length - k ∧ St W w1 [] [isF true Fx (.slice ax x.length cx) (zY x kk k)]) (x.length - 0) ⟨_, 0, kk, w, (by exact qj (qj (qj (qj (rfl) rfl) rfl) rfl) rfl), (by omega), (by exact (Int.add_zero _).symm), (by exact C), rfl, H⟩ ?_
 clear H
 rintro m' ρ w2 ⟨junk, k, r, W, rfl, i0, i1, C, rfl, H⟩
 have hc := fun h => cnt_get (l := x) (k := k) h
 refine qm (qm (qy ?_))
 refine sps [.int .i64 k, .slice ax x.length cx] ?_
 refine sw (zD Tryz.underlying57 ax x.length cx rfl ?_)
 refine sp (.bool (decide ((k : Int) < x.length))) ?_
 refine qw (t_n ?_)
 refine qV (decide ((k : Int) < x.length)) rfl (fun h3 => ?_) (fun h3 => ?_)
 ·skip
  replace h3 := of_decide_eq_true h3
  refine xh (t_n (qm (xu (qm (qy ?_)))))
  refine sps [.slice ax x.length cx, .int .i64 k] ?_
  obtain ⟨b4, o5, rfl⟩ := H.addr 0 rfl (by rw [vC _ _ (by omega)]; omega)
  obtain ⟨xs1, xs2, G1, G2, aqAlive, cqAlive, FqAlive, aqBags, cqBags, FqBags, aqAround, cqAround, FqAround, rfl, hx, H, N⟩ := H.open_StateD nd k (by rw [vC _ _ (by omega)]; omega) (markTo_get _ _ (by omega))
  refine sw (xJ k Tryz.underlying57 ti38 rfl rfl (by omega) (by omega) ?_)
  refine sw (qM b4 (o5 + (k : Int).toNat * 3) 0 Tryz.underlying38 rfl rfl Tryz.sizeOf26 rfl ?_)
  refine sw (qE (.slice aqAlive (((x[k]!).qh).length) cqAlive) Tryz.isAgg26 rfl (H.Vp _ 0 hx rfl) ?_)
  refine sp (.int .i64 r) ?_
  refine sw (Xo #[.slice aqAlive (((x[k]!).qh).length) cqAlive, .int .i64 r] rfl rfl Tryz.call58 (markBoolS_ok w2 ((x[k]!).qh) r aqAlive cqAlive FqAlive (H.get 1 rfl).1 (yz N 1 rfl) ((H.get 1 rfl).2 rfl) (by (have := hc (by omega); have e := jY (x[k]!); omega)) (by (have := hc (by omega); have e := jY (x[k]!); omega))) ?_)
  rintro _ w6 ⟨rfl, m10⟩ x8
  obtain ⟨W7, C9, H⟩ := H.chgAt N 1 rfl (isF true FqAlive (.slice aqAlive (((x[k]!).qh).length) cqAlive) (mrk ((x[k]!).qh) r)) rfl x8 m10
  replace C := C.trans (C9.mono (by intro z hz; have hz : z ∈ FqAlive := hz; simp [hz]))
  replace H : St _ _ _ [XC b4 o5 xs1 [.slice aqAlive (((x[k]!).qh).length) cqAlive, .slice aqBags (((x[k]!).qx).length) cqBags, .slice aqAround (((x[k]!).ql).length) cqAround] xs2 G1 G2 ((zY x kk k).take k) ((zY x kk k).drop (k + 1)), isF true FqAlive (.slice aqAlive (((x[k]!).qh).length) cqAlive) (mrk ((x[k]!).qh) r), isF true FqBags (.slice aqBags (((x[k]!).qx).length) cqBags) ((x[k]!).qx), isF true FqAround (.slice aqAround (((x[k]!).ql).length) cqAround) ((x[k]!).ql)] := H
  refine sp (.int .i64 (r + (cnt ((x[k]!).qh) : Nat))) ?_
  refine qw (t_n (qm (qy ?_)))
  refine sps [.slice (aa b4 o5) x.length cx, .int .i64 k] ?_
  refine sw (xJ k Tryz.underlying57 ti38 rfl rfl (by omega) (by omega) ?_)
  refine sw (qM b4 (o5 + (k : Int).toNat * 3) 1 Tryz.underlying38 rfl rfl Tryz.sizeOf27 rfl ?_)
  refine sw (qE (.slice aqBags (((x[k]!).qx).length) cqBags) Tryz.isAgg27 rfl (H.Vp _ 1 hx rfl) ?_)
  refine sp (.int .i64 (r + (cnt ((x[k]!).qh) : Nat))) ?_
  refine sw (Xo #[.slice aqBags (((x[k]!).qx).length) cqBags, .int .i64 (r + (cnt ((x[k]!).qh) : Nat))] rfl rfl Tryz.call19 (markInt64SS_ok w6 ((x[k]!).qx) (r + (cnt ((x[k]!).qh) : Nat)) aqBags cqBags FqBags (H.get 2 rfl).1 (yz N 2 rfl) ((H.get 2 rfl).2 rfl) (by (have := hc (by omega); have e := jY (x[k]!); omega)) (by (have := hc (by omega); have e := jY (x[k]!); omega))) ?_)
  rintro _ w11 ⟨rfl, m15⟩ x13
  obtain ⟨W12, C14, H⟩ := H.chgAt N 2 rfl (isF true FqBags (.slice aqBags (((x[k]!).qx).length) cqBags) (mrk ((x[k]!).qx) (r + (cnt ((x[k]!).qh) : Nat)))) rfl x13 m15
  replace C := C.trans (C14.mono (by intro z hz; have hz : z ∈ FqBags := hz; simp [hz]))
  replace H : St _ _ _ [XC b4 o5 xs1 [.slice aqAlive (((x[k]!).qh).length) cqAlive, .slice aqBags (((x[k]!).qx).length) cqBags, .slice aqAround (((x[k]!).ql).length) cqAround] xs2 G1 G2 ((zY x kk k).take k) ((zY x kk k).drop (k + 1)), isF true FqAlive (.slice aqAlive (((x[k]!).qh).length) cqAlive) (mrk ((x[k]!).qh) r), isF true FqBags (.slice aqBags (((x[k]!).qx).length) cqBags) (mrk ((x[k]!).qx) (r + (cnt ((x[k]!).qh) : Nat))), isF true FqAround (.slice aqAround (((x[k]!).ql).length) cqAround) ((x[k]!).ql)] := H
  refine sp (.int .i64 (r + (cnt ((x[k]!).qh) : Nat) + (cnt ((x[k]!).qx) : Nat))) ?_
  refine qw (t_n (qy ?_))
  refine sps [.slice (aa b4 o5) x.length cx, .int .i64 k] ?_
  refine sw (xJ k Tryz.underlying57 ti38 rfl rfl (by omega) (by omega) ?_)
  refine sw (qM b4 (o5 + (k : Int).toNat * 3) 2 Tryz.underlying38 rfl rfl Tryz.sizeOf22 rfl ?_)
  refine sw (qE (.slice aqAround (((x[k]!).ql).length) cqAround) Tryz.isAgg22 rfl (H.Vp _ 2 hx rfl) ?_)
  refine sp (.int .i64 (r + (cnt ((x[k]!).qh) : Nat) + (cnt ((x[k]!).qx) : Nat))) ?_
  refine sw (Xo #[.slice aqAround (((x[k]!).ql).length) cqAround, .int .i64 (r + (cnt ((x[k]!).qh) : Nat) + (cnt ((x[k]!).qx) : Nat))] rfl rfl Tryz.call28 (yT w11 ((x[k]!).ql) (r + (cnt ((x[k]!).qh) : Nat) + (cnt ((x[k]!).qx) : Nat)) aqAround cqAround FqAround (H.get 3 rfl).1 (yz N 3 rfl) ((H.get 3 rfl).2 rfl) (by (have := hc (by omega); have e := jY (x[k]!); omega)) (by (have := hc (by omega); have e := jY (x[k]!); omega))) ?_)
  rintro _ w16 ⟨rfl, m20⟩ x18
  obtain ⟨W17, C19, H⟩ := H.chgAt N 3 rfl (isF true FqAround (.slice aqAround (((x[k]!).ql).length) cqAround) (mrk ((x[k]!).ql) (r + (cnt ((x[k]!).qh) : Nat) + (cnt ((x[k]!).qx) : Nat)))) rfl x18 m20
  replace C := C.trans (C19.mono (by intro z hz; have hz : z ∈ FqAround := hz; simp [hz]))
  replace H : St _ _ _ [XC b4 o5 xs1 [.slice aqAlive (((x[k]!).qh).length) cqAlive, .slice aqBags (((x[k]!).qx).length) cqBags, .slice aqAround (((x[k]!).ql).length) cqAround] xs2 G1 G2 ((zY x kk k).take k) ((zY x kk k).drop (k + 1)), isF true FqAlive (.slice aqAlive (((x[k]!).qh).length) cqAlive) (mrk ((x[k]!).qh) r), isF true FqBags (.slice aqBags (((x[k]!).qx).length) cqBags) (mrk ((x[k]!).qx) (r + (cnt ((x[k]!).qh) : Nat))), isF true FqAround (.slice aqAround (((x[k]!).ql).length) cqAround) (mrk ((x[k]!).ql) (r + (cnt ((x[k]!).qh) : Nat) + (cnt ((x[k]!).qx) : Nat)))] := H
  refine sp (.int .i64 (r + (cnt ((x[k]!).qh) : Nat) + (cnt ((x[k]!).qx) : Nat) + (cnt ((x[k]!).ql) : Nat))) ?_
  refine qw (b_n (t_n (qy ?_)))
  refine sp (.int .i64 k) ?_
  refine sw (zJ k 1 rfl rfl (by (have := hc (by omega); have e := jY (x[k]!); omega)) ?_)
  refine sp (.int .i64 (k + 1)) ?_
  refine qw ?_
  replace H := H.closeAt (y := mrk (x[k]!) r) (m := x.length) (c := cx) ⟨_, _, _, _, _, _, rfl, rfl, (H.get 1 rfl).1, (H.get 2 rfl).1, (H.get 3 rfl).1⟩ ((((H.get 1 rfl).2 rfl).app ((H.get 2 rfl).2 rfl)).app ((H.get 3 rfl).2 rfl)) (Xx (Xx (H.ltOwn 1 rfl) (H.ltOwn 2 rfl)) (H.ltOwn 3 rfl)) (zY x kk (k + 1)) (by subst i1; exact markTo_step _ _ (by omega)) (vC _ _ (by omega)) (by rw [vC _ _ (by omega)]; exact nhx)
  refine xF (m' := x.length - (k + 1)) (by omega) ⟨_, k + 1, r + (cnt ((x[k]!).qh) : Nat) + (cnt ((x[k]!).qx) : Nat) + (cnt ((x[k]!).ql) : Nat), W17, (by exact qj (qj (qj (qj (rfl) rfl) rfl) rfl) rfl), ?_, ?_, ?_, rfl, H⟩
  · omega
  · rw [yc]; have e := jY (x[k]!); omega
  · exact C
 replace h3 := of_decide_eq_false h3
 refine zy (t_x (t_x (b_x (t_n (qm (qy ?_))))))
 refine sps [.int .i64 r, .int .i64 r] ?_
 refine qw (t_n (xx ?_))
 obtain rfl : k = x.length := by omega
 refine ret1 (.int .i64 r) rfl rfl ⟨_, rfl, ⟨?_, H.get 0 rfl⟩, C.trans (Chg.ofExt H.base)⟩
 first | rfl | (refine congrArg (Value.int .i64) ?_; rw [XQ]; omega)

theorem heldStateS_ok (w : World) (x : List qP) (kk : Int) (ax : Option Addr) (cx : Nat) (Fx : List Nat) (hx : qQ.rep w Fx [.slice ax x.length cx] x) (m : mkd x kk) (p0 : 0 ≤ kk) (p1 : kk + (cnt x : Nat) ≤ 4611686018427387904) : Calls Tryz.prog 37 #[.slice ax x.length cx, .int .i64 kk] w (Ret (fun v w' => v = .int .i64 (kk + (cnt x : Nat))) w) := by
 refine enter (n := 40) Tryz.func37 rfl Tryz.ntmps37 (Nat.le_of_ble_eq_true rfl) ?_
 have H := (St.start w).arg hx
 have nhx := qJ hx
 clear hx
 refine qm (qy ?_)
 refine sp (.int .i64 0) ?_
 refine qw (t_n (qm (qm (qy ?_))))
 refine sp (.int .i64 0) ?_
 refine qw (t_n (xu ?_))
 refine zG (fun m' ρ w1 => ∃ (junk : Env) (k : Nat) (r : Int), ρ = upd (upd (upd junk 0 (.slice ax x.length cx)) 1 (.int .i64 r)) 5 (.int .i64 k) ∧ (k ≤ x.length) ∧ (r = kk + (Vg x k : Nat)) ∧ m' = x.length - k ∧ St w w1 [] [isF false Fx (.slice ax x.length cx) x]) (x.length - 0) ⟨_, 0, kk, (by exact qj (qj (qj (rfl) rfl) rfl) rfl), (by omega), (by exact (Int.add_zero _).symm), rfl, H⟩ ?_
 clear H
 rintro m' ρ w2 ⟨junk, k, r, rfl, i0, i1, rfl, H⟩
 have hc := fun h => cnt_get (l := x) (k := k) h
 refine qm (qm (qy ?_))
 refine sps [.int .i64 k, .slice ax x.length cx] ?_
 refine sw (zD Tryz.underlying57 ax x.length cx rfl ?_)
 refine sp (.bool (decide ((k : Int) < x.length))) ?_
 refine qw (t_n ?_)
 refine qV (decide ((k : Int) < x.length)) rfl (fun h3 => ?_) (fun h3 => ?_)
 ·skip
  replace h3 := of_decide_eq_true h3
  obtain ⟨m0, m1, m2⟩ := m k (by omega)
  rw [← i1] at m0
  rw [← i1] at m1
  rw [← i1] at m2
  refine xh (t_n (qm (xu (qm (qy ?_)))))
  refine sps [.slice ax x.length cx, .int .i64 k] ?_
  obtain ⟨b4, o5, rfl⟩ := H.addr 0 rfl (by omega)
  obtain ⟨ae6Alive, ce6Alive, Fe6Alive, ae6Bags, ce6Bags, Fe6Bags, ae6Around, ce6Around, Fe6Around, H⟩ := H.elem_StateD 0 rfl k k (by omega) (by omega) (by omega)
  refine sw (xJ k Tryz.underlying57 ti38 rfl rfl (by omega) (by omega) ?_)
  refine sw (qM b4 (o5 + (k : Int).toNat * 3) 0 Tryz.underlying38 rfl rfl Tryz.sizeOf26 rfl ?_)
  refine sw (qE (.slice ae6Alive (((x[k]!).qh).length) ce6Alive) Tryz.isAgg26 rfl (H.xR 3 rfl 0 rfl) ?_)
  refine sp (.int .i64 r) ?_
  refine sw (xf #[.slice ae6Alive (((x[k]!).qh).length) ce6Alive, .int .i64 r] rfl rfl Tryz.call68 (heldBoolS_ok w2 ((x[k]!).qh) r ae6Alive ce6Alive Fe6Alive (H.get 0 rfl).1 (by assumption) (by (have := hc (by omega); have e := jY (x[k]!); omega)) (by (have := hc (by omega); have e := jY (x[k]!); omega))) ?_)
  rintro _ w7 rfl x8
  replace H := H.ext x8
  refine sp (.int .i64 (r + (cnt ((x[k]!).qh) : Nat))) ?_
  refine qw (t_n (qm (qm (qy ?_))))
  refine sps [.int .i64 (r + (cnt ((x[k]!).qh) : Nat)), .bool (decide ((r + (cnt ((x[k]!).qh) : Nat) : Int) < 0))] ?_
  refine qw (t_n ?_)
  refine qV (decide ((r + (cnt ((x[k]!).qh) : Nat) : Int) < 0)) rfl (fun h9 => ?_) (fun h9 => ?_)
  ·skip
   replace h9 := of_decide_eq_true h9
   refine qm (qy ?_)
   refine sp (.int .i64 (-1)) ?_
   refine qw (t_n (xx (t_r (b_r (t_r (t_r (b_r (t_r ?_))))))))
   refine ret1 (.int .i64 (-1)) rfl rfl ⟨_, rfl, ?_, H.base⟩
   exfalso; first | omega | (exact absurd ‹_› ‹¬ _›) | simp_all
  replace h9 := of_decide_eq_false h9
  refine xh (t_n (qm (qy ?_)))
  refine sps [.slice (aa b4 o5) x.length cx, .int .i64 k] ?_
  refine sw (xJ k Tryz.underlying57 ti38 rfl rfl (by omega) (by omega) ?_)
  refine sw (qM b4 (o5 + (k : Int).toNat * 3) 1 Tryz.underlying38 rfl rfl Tryz.sizeOf27 rfl ?_)
  refine sw (qE (.slice ae6Bags (((x[k]!).qx).length) ce6Bags) Tryz.isAgg27 rfl (H.xR 3 rfl 1 rfl) ?_)
  refine sp (.int .i64 (r + (cnt ((x[k]!).qh) : Nat))) ?_
  refine sw (xf #[.slice ae6Bags (((x[k]!).qx).length) ce6Bags, .int .i64 (r + (cnt ((x[k]!).qh) : Nat))] rfl rfl Tryz.call20 (heldInt64SS_ok w7 ((x[k]!).qx) (r + (cnt ((x[k]!).qh) : Nat)) ae6Bags ce6Bags Fe6Bags (H.get 1 rfl).1 (by assumption) (by (have := hc (by omega); have e := jY (x[k]!); omega)) (by (have := hc (by omega); have e := jY (x[k]!); omega))) ?_)
  rintro _ w10 rfl x11
  replace H := H.ext x11
  refine sp (.int .i64 ((r + (cnt ((x[k]!).qh) : Nat)) + (cnt ((x[k]!).qx) : Nat))) ?_
  refine qw (t_n (qm (qm (qy ?_))))
  refine sps [.int .i64 ((r + (cnt ((x[k]!).qh) : Nat)) + (cnt ((x[k]!).qx) : Nat)), .bool (decide (((r + (cnt ((x[k]!).qh) : Nat)) + (cnt ((x[k]!).qx) : Nat) : Int) < 0))] ?_
  refine qw (t_n ?_)
  refine qV (decide (((r + (cnt ((x[k]!).qh) : Nat)) + (cnt ((x[k]!).qx) : Nat) : Int) < 0)) rfl (fun h12 => ?_) (fun h12 => ?_)
  ·skip
   replace h12 := of_decide_eq_true h12
   refine qm (qy ?_)
   refine sp (.int .i64 (-1)) ?_
   refine qw (t_n (xx (t_r (b_r (t_r (t_r (b_r (t_r ?_))))))))
   refine ret1 (.int .i64 (-1)) rfl rfl ⟨_, rfl, ?_, H.base⟩
   exfalso; first | omega | (exact absurd ‹_› ‹¬ _›) | simp_all
  replace h12 := of_decide_eq_false h12
  refine xh (t_n (qm (qy ?_)))
  refine sps [.slice (aa b4 o5) x.length cx, .int .i64 k] ?_
  refine sw (xJ k Tryz.underlying57 ti38 rfl rfl (by omega) (by omega) ?_)
  refine sw (qM b4 (o5 + (k : Int).toNat * 3) 2 Tryz.underlying38 rfl rfl Tryz.sizeOf22 rfl ?_)
  refine sw (qE (.slice ae6Around (((x[k]!).ql).length) ce6Around) Tryz.isAgg22 rfl (H.xR 3 rfl 2 rfl) ?_)
  refine sp (.int .i64 ((r + (cnt ((x[k]!).qh) : Nat)) + (cnt ((x[k]!).qx) : Nat))) ?_
  refine sw (xf #[.slice ae6Around (((x[k]!).ql).length) ce6Around, .int .i64 ((r + (cnt ((x[k]!).qh) : Nat)) + (cnt ((x[k]!).qx) : Nat))] rfl rfl Tryz.call59 (heldInt64S_ok w10 ((x[k]!).ql) ((r + (cnt ((x[k]!).qh) : Nat)) + (cnt ((x[k]!).qx) : Nat)) ae6Around ce6Around Fe6Around (H.get 2 rfl).1 (by assumption) (by (have := hc (by omega); have e := jY (x[k]!); omega)) (by (have := hc (by omega); have e := jY (x[k]!); omega))) ?_)
  rintro _ w13 rfl x14
  replace H := H.ext x14
  refine sp (.int .i64 (((r + (cnt ((x[k]!).qh) : Nat)) + (cnt ((x[k]!).qx) : Nat)) + (cnt ((x[k]!).ql) : Nat))) ?_
  refine qw (t_n (qm (qy ?_)))
  refine sps [.int .i64 (((r + (cnt ((x[k]!).qh) : Nat)) + (cnt ((x[k]!).qx) : Nat)) + (cnt ((x[k]!).ql) : Nat)), .bool (decide ((((r + (cnt ((x[k]!).qh) : Nat)) + (cnt ((x[k]!).qx) : Nat)) + (cnt ((x[k]!).ql) : Nat) : Int) < 0))] ?_
  refine qw (t_n ?_)
  refine qV (decide ((((r + (cnt ((x[k]!).qh) : Nat)) + (cnt ((x[k]!).qx) : Nat)) + (cnt ((x[k]!).ql) : Nat) : Int) < 0)) rfl (fun h15 => ?_) (fun h15 => ?_)
  ·skip
   replace h15 := of_decide_eq_true h15
   refine qm (qy ?_)
   refine sp (.int .i64 (-1)) ?_
   refine qw (t_n (xx (b_r (t_r (t_r (b_r (t_r ?_)))))))
   refine ret1 (.int .i64 (-1)) rfl rfl ⟨_, rfl, ?_, H.base⟩
   exfalso; first | omega | (exact absurd ‹_› ‹¬ _›) | simp_all
  replace h15 := of_decide_eq_false h15
  refine xh (b_n (t_n (qy ?_)))
  refine sp (.int .i64 k) ?_
  refine sw (zJ k 1 rfl rfl (by (have := hc (by omega); have e := jY (x[k]!); omega)) ?_)
  refine sp (.int .i64 (k + 1)) ?_
  refine qw ?_
  refine xF (m' := x.length - (k + 1)) (by omega) ⟨_, k + 1, ((r + (cnt ((x[k]!).qh) : Nat)) + (cnt ((x[k]!).qx) : Nat)) + (cnt ((x[k]!).ql) : Nat), (by exact qj (qj (qj (rfl) rfl) rfl) rfl), ?_, ?_, rfl, H.sel _ (.refl _) _ (by simp)⟩
  · omega
  · rw [yc]; have e := jY (x[k]!); omega
 replace h3 := of_decide_eq_false h3
 refine zy (t_x (t_x (b_x (t_n (qm (qy ?_))))))
 refine sps [.int .i64 r, .int .i64 r] ?_
 refine qw (t_n (xx ?_))
 refine ret1 (.int .i64 r) rfl rfl ⟨_, rfl, ?_, H.base⟩
 first | rfl | (refine congrArg (Value.int .i64) ?_; obtain rfl : k = x.length := (by omega); exact i1)

end Go.Proofs.YtkmlihdacnfhdaaGreat
