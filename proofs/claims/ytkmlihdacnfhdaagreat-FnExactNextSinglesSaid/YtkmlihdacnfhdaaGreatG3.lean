/- Walks, printed by program (wip/tools/gv.py): what each function comes to, for all arguments. -/
import Derived.Test.YtkmlihdacnfhdaaGreatT1
namespace Go.Proofs.YtkmlihdacnfhdaaGreat
open Go.Proofs.YtkmlihdacnfhdaaGreat.Tot (tot)
open Go.Proofs.YtkmlihdacnfhdaaGreat.Mark (cnt mrk mkd mkd_mark cnt_mark)
open Go.RowKit
set_option linter.unusedVariables false
set_option linter.unusedSimpArgs false
set_option maxRecDepth 100000
set_option maxHeartbeats 4000000



theorem yT (w : World) (x : List Int) (kk : Int) (ax : Option Addr) (cx : Nat) (Fx : List Nat) (hx : qQ.rep w Fx [.slice ax x.length cx] x) (nd : Fx.Nodup) (fr : zU w Fx) (p0 : 0 ≤ kk) (p1 : kk + (cnt x : Nat) ≤ 4611686018427387904) : Calls Tryz.prog 28 #[.slice ax x.length cx, .int .i64 kk] w (RetM (fun v w' => v = .int .i64 (kk + (cnt x : Nat)) ∧ (isF true Fx (.slice ax x.length cx) (mrk x kk)).φ w') Fx w) := by
 refine enter (n := 19) Tryz.func28 rfl Tryz.ntmps28 (Nat.le_of_ble_eq_true rfl) ?_
 have H := St.start w
 replace H := H.add (isF true Fx (.slice ax x.length cx) x) ⟨hx, fun _ => fr.sub (by intro z hz; simp [hz])⟩ (Vm hx)
 have nhx := qJ hx
 clear hx
 have C : Chg Fx w w := Chg.refl _ _
 have N : ([Fx] : List (List Nat)).flatten.Nodup := by simpa using nd
 refine qm (qy ?_)
 refine sp (.int .i64 0) ?_
 refine qw (t_n (qm (qm (qy ?_))))
 refine sp (.int .i64 0) ?_
 refine qw (t_n (xu ?_))
 replace H : St w w [] [isF true Fx (.slice ax x.length cx) (zY x kk 0)] := by rw [markTo_zero]; exact H
 refine zG (fun m' ρ w1 => ∃ (junk : Env) (k : Nat) (r : Int) (W : World), ρ = upd (upd (upd (upd junk 0 (.slice ax x.length cx)) 1 (.int .i64 r)) 4 (.int .i64 0)) 5 (.int .i64 k) ∧ (k ≤ x.length) ∧ (r = kk + (Vg x k : Nat)) ∧ (Chg Fx w W) ∧ m' = x.length - k ∧ St W w1 [] [isF true Fx (.slice ax x.length cx) (zY x kk k)]) (x.length - 0) ⟨_, 0, kk, w, (by exact qj (qj (qj (qj (rfl) rfl) rfl) rfl) rfl), (by omega), (by exact (Int.add_zero _).symm), (by exact C), rfl, H⟩ ?_
 clear H
 rintro m' ρ w2 ⟨junk, k, r, W, rfl, i0, i1, C, rfl, H⟩
 have hc := fun h => cnt_get (l := x) (k := k) h
 refine qm (qm (qy ?_))
 refine sps [.int .i64 k, .slice ax x.length cx] ?_
 refine sw (zD Tryz.underlying22 ax x.length cx rfl ?_)
 refine sp (.bool (decide ((k : Int) < x.length))) ?_
 refine qw (t_n ?_)
 refine qV (decide ((k : Int) < x.length)) rfl (fun h3 => ?_) (fun h3 => ?_)
 ·skip
  replace h3 := of_decide_eq_true h3
  refine xh (t_n (qm (xu (qm (qy ?_)))))
  refine sps [.slice ax x.length cx, .int .i64 k, .int .i64 r] ?_
  obtain ⟨b4, o5, rfl⟩ := H.addr 0 rfl (by rw [vC _ _ (by omega)]; omega)
  obtain ⟨xs1, xs2, G1, G2, rfl, hx, H, N⟩ := H.open_Int nd k (by rw [vC _ _ (by omega)]; omega) (markTo_get _ _ (by omega))
  refine sw (xJ k Tryz.underlying22 ti2 rfl rfl (by omega) (by omega) ?_)
  refine sw (o_storeHole H N _ 0 hx (.int .i64 r) Tryz.sizeOf2 rfl rfl rfl (Nat.le_of_ble_eq_true rfl) fun w6 W7 C8 H => ?_)
  replace C := C.trans (C8.mono (hole_sub _ _ _ _))
  replace H : St _ _ _ [XC b4 o5 xs1 [.int .i64 r] xs2 G1 G2 ((zY x kk k).take k) ((zY x kk k).drop (k + 1))] := H
  refine qw (t_n (qy ?_))
  refine sp (.int .i64 r) ?_
  refine sw (zJ r 1 rfl rfl (by (have := hc (by omega); have e : cnt (x[k]!) = 1 := rfl; omega)) ?_)
  refine sp (.int .i64 (r + 1)) ?_
  refine qw (b_n (t_n (qy ?_)))
  refine sp (.int .i64 k) ?_
  refine sw (zJ k 1 rfl rfl (by (have := hc (by omega); have e : cnt (x[k]!) = 1 := rfl; omega)) ?_)
  refine sp (.int .i64 (k + 1)) ?_
  refine qw ?_
  replace H := H.closeAt (y := mrk (x[k]!) r) (m := x.length) (c := cx) ⟨rfl, rfl⟩ (zU.nil _) (by intro z hz; simp at hz) (zY x kk (k + 1)) (by subst i1; exact markTo_step _ _ (by omega)) (vC _ _ (by omega)) (by rw [vC _ _ (by omega)]; exact nhx)
  refine xF (m' := x.length - (k + 1)) (by omega) ⟨_, k + 1, r + 1, W7, (by exact qj (qj (qj (qj (rfl) rfl) rfl) rfl) rfl), ?_, ?_, ?_, rfl, H⟩
  · omega
  · rw [yc]; have e : cnt (x[k]!) = 1 := rfl; omega
  · exact C
 replace h3 := of_decide_eq_false h3
 refine zy (t_x (t_x (b_x (t_n (qm (qy ?_))))))
 refine sps [.int .i64 r, .int .i64 r] ?_
 refine qw (t_n (xx ?_))
 obtain rfl : k = x.length := by omega
 refine ret1 (.int .i64 r) rfl rfl ⟨_, rfl, ⟨?_, H.get 0 rfl⟩, C.trans (Chg.ofExt H.base)⟩
 first | rfl | (refine congrArg (Value.int .i64) ?_; rw [XQ]; omega)

theorem markBoolS_ok (w : World) (x : List Bool) (kk : Int) (ax : Option Addr) (cx : Nat) (Fx : List Nat) (hx : qQ.rep w Fx [.slice ax x.length cx] x) (nd : Fx.Nodup) (fr : zU w Fx) (p0 : 0 ≤ kk) (p1 : kk + (cnt x : Nat) ≤ 4611686018427387904) : Calls Tryz.prog 58 #[.slice ax x.length cx, .int .i64 kk] w (RetM (fun v w' => v = .int .i64 (kk + (cnt x : Nat)) ∧ (isF true Fx (.slice ax x.length cx) (mrk x kk)).φ w') Fx w) := by
 refine enter (n := 21) Tryz.func58 rfl Tryz.ntmps58 (Nat.le_of_ble_eq_true rfl) ?_
 have H := St.start w
 replace H := H.add (isF true Fx (.slice ax x.length cx) x) ⟨hx, fun _ => fr.sub (by intro z hz; simp [hz])⟩ (Vm hx)
 have nhx := qJ hx
 clear hx
 have C : Chg Fx w w := Chg.refl _ _
 have N : ([Fx] : List (List Nat)).flatten.Nodup := by simpa using nd
 refine qm (qy ?_)
 refine sp (.int .i64 0) ?_
 refine qw (t_n (qm (qm (qy ?_))))
 refine sp (.int .i64 0) ?_
 refine qw (t_n (xu ?_))
 replace H : St w w [] [isF true Fx (.slice ax x.length cx) (zY x kk 0)] := by rw [markTo_zero]; exact H
 refine zG (fun m' ρ w1 => ∃ (junk : Env) (k : Nat) (r : Int) (W : World), ρ = upd (upd (upd (upd junk 0 (.slice ax x.length cx)) 1 (.int .i64 r)) 4 (.int .i64 0)) 5 (.int .i64 k) ∧ (k ≤ x.length) ∧ (r = kk + (Vg x k : Nat)) ∧ (Chg Fx w W) ∧ m' = x.length - k ∧ St W w1 [] [isF true Fx (.slice ax x.length cx) (zY x kk k)]) (x.length - 0) ⟨_, 0, kk, w, (by exact qj (qj (qj (qj (rfl) rfl) rfl) rfl) rfl), (by omega), (by exact (Int.add_zero _).symm), (by exact C), rfl, H⟩ ?_
 clear H
 rintro m' ρ w2 ⟨junk, k, r, W, rfl, i0, i1, C, rfl, H⟩
 have hc := fun h => cnt_get (l := x) (k := k) h
 refine qm (qm (qy ?_))
 refine sps [.int .i64 k, .slice ax x.length cx] ?_
 refine sw (zD Tryz.underlying26 ax x.length cx rfl ?_)
 refine sp (.bool (decide ((k : Int) < x.length))) ?_
 refine qw (t_n ?_)
 refine qV (decide ((k : Int) < x.length)) rfl (fun h3 => ?_) (fun h3 => ?_)
 ·skip
  replace h3 := of_decide_eq_true h3
  refine xh (t_n (qm (xu (qm (qy ?_)))))
  refine sps [.slice ax x.length cx, .int .i64 k, .int .i64 r] ?_
  refine sw (o_rem r 3 rfl rfl (by (have := hc (by omega); have e : cnt (x[k]!) = 1 := rfl; omega)) (by omega) (by (have := hc (by omega); have e : cnt (x[k]!) = 1 := rfl; omega)) ?_)
  refine sp (.bool ((r % 3 : Int) == 0)) ?_
  obtain ⟨b4, o5, rfl⟩ := H.addr 0 rfl (by rw [vC _ _ (by omega)]; omega)
  obtain ⟨xs1, xs2, G1, G2, rfl, hx, H, N⟩ := H.open_Bool nd k (by rw [vC _ _ (by omega)]; omega) (markTo_get _ _ (by omega))
  refine sw (xJ k Tryz.underlying26 ti4 rfl rfl (by omega) (by omega) ?_)
  refine sw (o_storeHole H N _ 0 hx (.bool ((r % 3 : Int) == 0)) Tryz.sizeOf4 rfl rfl rfl (Nat.le_of_ble_eq_true rfl) fun w6 W7 C8 H => ?_)
  replace C := C.trans (C8.mono (hole_sub _ _ _ _))
  replace H : St _ _ _ [XC b4 o5 xs1 [.bool ((r % 3 : Int) == 0)] xs2 G1 G2 ((zY x kk k).take k) ((zY x kk k).drop (k + 1))] := H
  refine qw (t_n (qy ?_))
  refine sp (.int .i64 r) ?_
  refine sw (zJ r 1 rfl rfl (by (have := hc (by omega); have e : cnt (x[k]!) = 1 := rfl; omega)) ?_)
  refine sp (.int .i64 (r + 1)) ?_
  refine qw (b_n (t_n (qy ?_)))
  refine sp (.int .i64 k) ?_
  refine sw (zJ k 1 rfl rfl (by (have := hc (by omega); have e : cnt (x[k]!) = 1 := rfl; omega)) ?_)
  refine sp (.int .i64 (k + 1)) ?_
  refine qw ?_
  replace H := H.closeAt (y := mrk (x[k]!) r) (m := x.length) (c := cx) ⟨rfl, rfl⟩ (zU.nil _) (by intro z hz; simp at hz) (zY x kk (k + 1)) (by subst i1; exact markTo_step _ _ (by omega)) (vC _ _ (by omega)) (by rw [vC _ _ (by omega)]; exact nhx)
  refine xF (m' := x.length - (k + 1)) (by omega) ⟨_, k + 1, r + 1, W7, (by exact qj (qj (qj (qj (rfl) rfl) rfl) rfl) rfl), ?_, ?_, ?_, rfl, H⟩
  · omega
  · rw [yc]; have e : cnt (x[k]!) = 1 := rfl; omega
  · exact C
 replace h3 := of_decide_eq_false h3
 refine zy (t_x (t_x (b_x (t_n (qm (qy ?_))))))
 refine sps [.int .i64 r, .int .i64 r] ?_
 refine qw (t_n (xx ?_))
 obtain rfl : k = x.length := by omega
 refine ret1 (.int .i64 r) rfl rfl ⟨_, rfl, ⟨?_, H.get 0 rfl⟩, C.trans (Chg.ofExt H.base)⟩
 first | rfl | (refine congrArg (Value.int .i64) ?_; rw [XQ]; omega)

theorem markInt64SS_ok (w : World) (x : List (List Int)) (kk : Int) (ax : Option Addr) (cx : Nat) (Fx : List Nat) (hx : qQ.rep w Fx [.slice ax x.length cx] x) (nd : Fx.Nodup) (fr : zU w Fx) (p0 : 0 ≤ kk) (p1 : kk + (cnt x : Nat) ≤ 4611686018427387904) : Calls Tryz.prog 19 #[.slice ax x.length cx, .int .i64 kk] w (RetM (fun v w' => v = .int .i64 (kk + (cnt x : Nat)) ∧ (isF true Fx (.slice ax x.length cx) (mrk x kk)).φ w') Fx w) := by
 refine enter (n := 19) Tryz.func19 rfl Tryz.ntmps19 (Nat.le_of_ble_eq_true rfl) ?_
 have H := St.start w
 replace H := H.add (isF true Fx (.slice ax x.length cx) x) ⟨hx, fun _ => fr.sub (by intro z hz; simp [hz])⟩ (Vm hx)
 have nhx := qJ hx
 clear hx
 have C : Chg Fx w w := Chg.refl _ _
 have N : ([Fx] : List (List Nat)).flatten.Nodup := by simpa using nd
 refine qm (qy ?_)
 refine sp (.int .i64 0) ?_
 refine qw (t_n (qm (qm (qy ?_))))
 refine sp (.int .i64 0) ?_
 refine qw (t_n (xu ?_))
 replace H : St w w [] [isF true Fx (.slice ax x.length cx) (zY x kk 0)] := by rw [markTo_zero]; exact H
 refine zG (fun m' ρ w1 => ∃ (junk : Env) (k : Nat) (r : Int) (W : World), ρ = upd (upd (upd (upd junk 0 (.slice ax x.length cx)) 1 (.int .i64 r)) 4 (.int .i64 0)) 5 (.int .i64 k) ∧ (k ≤ x.length) ∧ (r = kk + (Vg x k : Nat)) ∧ (Chg Fx w W) ∧ m' = x.length - k ∧ St W w1 [] [isF true Fx (.slice ax x.length cx) (zY x kk k)]) (x.length - 0) ⟨_, 0, kk, w, (by exact qj (qj (qj (qj (rfl) rfl) rfl) rfl) rfl), (by omega), (by exact (Int.add_zero _).symm), (by exact C), rfl, H⟩ ?_
 clear H
 rintro m' ρ w2 ⟨junk, k, r, W, rfl, i0, i1, C, rfl, H⟩
 have hc := fun h => cnt_get (l := x) (k := k) h
 refine qm (qm (qy ?_))
 refine sps [.int .i64 k, .slice ax x.length cx] ?_
 refine sw (zD Tryz.underlying27 ax x.length cx rfl ?_)
 refine sp (.bool (decide ((k : Int) < x.length))) ?_
 refine qw (t_n ?_)
 refine qV (decide ((k : Int) < x.length)) rfl (fun h3 => ?_) (fun h3 => ?_)
 ·skip
  replace h3 := of_decide_eq_true h3
  refine xh (t_n (qm (xu (qy ?_))))
  refine sps [.slice ax x.length cx, .int .i64 k] ?_
  obtain ⟨b4, o5, rfl⟩ := H.addr 0 rfl (by rw [vC _ _ (by omega)]; omega)
  obtain ⟨xs1, xs2, G1, G2, aq, cq, Fq, rfl, hx, H, N⟩ := H.open_List nd k (by rw [vC _ _ (by omega)]; omega) (markTo_get _ _ (by omega))
  refine sw (xJ k Tryz.underlying27 ti22 rfl rfl (by omega) (by omega) ?_)
  refine sw (qE (.slice aq ((x[k]!).length) cq) Tryz.isAgg22 rfl (H.Vp _ 0 hx rfl) ?_)
  refine sp (.int .i64 r) ?_
  refine sw (Xo #[.slice aq ((x[k]!).length) cq, .int .i64 r] rfl rfl Tryz.call28 (yT w2 (x[k]!) r aq cq Fq (H.get 1 rfl).1 (yz N 1 rfl) ((H.get 1 rfl).2 rfl) (by (have := hc (by omega); skip; omega)) (by (have := hc (by omega); skip; omega))) ?_)
  rintro _ w6 ⟨rfl, m10⟩ x8
  obtain ⟨W7, C9, H⟩ := H.chgAt N 1 rfl (isF true Fq (.slice aq ((x[k]!).length) cq) (mrk (x[k]!) r)) rfl x8 m10
  replace C := C.trans (C9.mono (by intro z hz; have hz : z ∈ Fq := hz; simp [hz]))
  replace H : St _ _ _ [XC b4 o5 xs1 [.slice aq ((x[k]!).length) cq] xs2 G1 G2 ((zY x kk k).take k) ((zY x kk k).drop (k + 1)), isF true Fq (.slice aq ((x[k]!).length) cq) (mrk (x[k]!) r)] := H
  refine sp (.int .i64 (r + (cnt (x[k]!) : Nat))) ?_
  refine qw (b_n (t_n (qy ?_)))
  refine sp (.int .i64 k) ?_
  refine sw (zJ k 1 rfl rfl (by (have := hc (by omega); skip; omega)) ?_)
  refine sp (.int .i64 (k + 1)) ?_
  refine qw ?_
  replace H := H.closeAt (y := mrk (x[k]!) r) (m := x.length) (c := cx) (H.get 1 rfl).1 ((H.get 1 rfl).2 rfl) (H.ltOwn 1 rfl) (zY x kk (k + 1)) (by subst i1; exact markTo_step _ _ (by omega)) (vC _ _ (by omega)) (by rw [vC _ _ (by omega)]; exact nhx)
  refine xF (m' := x.length - (k + 1)) (by omega) ⟨_, k + 1, r + (cnt (x[k]!) : Nat), W7, (by exact qj (qj (qj (qj (rfl) rfl) rfl) rfl) rfl), ?_, ?_, ?_, rfl, H⟩
  · omega
  · rw [yc]; skip; omega
  · exact C
 replace h3 := of_decide_eq_false h3
 refine zy (t_x (t_x (b_x (t_n (qm (qy ?_))))))
 refine sps [.int .i64 r, .int .i64 r] ?_
 refine qw (t_n (xx ?_))
 obtain rfl : k = x.length := by omega
 refine ret1 (.int .i64 r) rfl rfl ⟨_, rfl, ⟨?_, H.get 0 rfl⟩, C.trans (Chg.ofExt H.base)⟩
 first | rfl | (refine congrArg (Value.int .i64) ?_; rw [XQ]; omega)

theorem markIntoS_ok (w : World) (x : List IntoD) (kk : Int) (ax : Option Addr) (cx : Nat) (Fx : List Nat) (hx : qQ.rep w Fx [.slice ax x.length cx] x) (nd : Fx.Nodup) (fr : zU w Fx) (p0 : 0 ≤ kk) (p1 : kk + (cnt x : Nat) ≤ 4611686018427387904) : Calls Tryz.prog 105 #[.slice ax x.length cx, .int .i64 kk] w (RetM (fun v w' => v = .int .i64 (kk + (cnt x : Nat)) ∧ (isF true Fx (.slice ax x.length cx) (mrk x kk)).φ w') Fx w) := by
 refine enter (n := 27) Tryz.func105 rfl Tryz.ntmps105 (Nat.le_of_ble_eq_true rfl) ?_
 have H := St.start w
 replace H := H.add (isF true Fx (.slice ax x.length cx) x) ⟨hx, fun _ => fr.sub (by intro z hz; simp [hz])⟩ (Vm hx)
 have nhx := qJ hx
 clear hx
 have C : Chg Fx w w := Chg.refl _ _
 have N : ([Fx] : List (List Nat)).flatten.Nodup := by simpa using nd
 refine qm (qy ?_)
 refine sp (.int .i64 0) ?_
 refine qw (t_n (qm (qm (qy ?_))))
 refine sp (.int .i64 0) ?_
 refine qw (t_n (xu ?_))
 replace H : St w w [] [isF true Fx (.slice ax x.length cx) (zY x kk 0)] := by rw [markTo_zero]; exact H
 refine zG (fun m' ρ w1 => ∃ (junk : Env) (k : Nat) (r : Int) (W : World), ρ = upd (upd (upd (upd junk 0 (.slice ax x.length cx)) 1 (.int .i64 r)) 4 (.int .i64 0)) 5 (.int .i64 k) ∧ (k ≤ x.length) ∧ (r = kk + (Vg x k : Nat)) ∧ (Chg Fx w W) ∧ m' = x.length - k ∧ St W w1 [] [isF true Fx (.slice ax x.length cx) (zY x kk k)]) (x.length - 0) ⟨_, 0, kk, w, (by exact qj (qj (qj (qj (rfl) rfl) rfl) rfl) rfl), (by omega), (by exact (Int.add_zero _).symm), (by exact C), rfl, H⟩ ?_
 clear H
 rintro m' ρ w2 ⟨junk, k, r, W, rfl, i0, i1, C, rfl, H⟩
 have hc := fun h => cnt_get (l := x) (k := k) h
 refine qm (qm (qy ?_))
 refine sps [.int .i64 k, .slice ax x.length cx] ?_
 refine sw (zD Tryz.underlying108 ax x.length cx rfl ?_)
 refine sp (.bool (decide ((k : Int) < x.length))) ?_
 refine qw (t_n ?_)
 refine qV (decide ((k : Int) < x.length)) rfl (fun h3 => ?_) (fun h3 => ?_)
 ·skip
  replace h3 := of_decide_eq_true h3
  refine xh (t_n (qm (xu (qm (qy ?_)))))
  refine sps [.slice ax x.length cx, .int .i64 k, .int .i64 r] ?_
  obtain ⟨b4, o5, rfl⟩ := H.addr 0 rfl (by rw [vC _ _ (by omega)]; omega)
  obtain ⟨xs1, xs2, G1, G2, aqBag, cqBag, FqBag, rfl, hx, H, N⟩ := H.open_IntoD nd k (by rw [vC _ _ (by omega)]; omega) (markTo_get _ _ (by omega))
  refine sw (xJ k Tryz.underlying108 ti115 rfl rfl (by omega) (by omega) ?_)
  refine sw (qM b4 (o5 + (k : Int).toNat * 2) 0 Tryz.underlying115 rfl rfl Tryz.sizeOf2 rfl ?_)
  refine sw (o_storeHole H N _ 0 hx (.int .i64 r) Tryz.sizeOf2 rfl rfl rfl (Nat.le_of_ble_eq_true rfl) fun w6 W7 C8 H => ?_)
  replace C := C.trans (C8.mono (hole_sub _ _ _ _))
  replace H : St _ _ _ [XC b4 o5 xs1 [.int .i64 r, .slice aqBag (((x[k]!).zW).length) cqBag] xs2 G1 G2 ((zY x kk k).take k) ((zY x kk k).drop (k + 1)), isF true FqBag (.slice aqBag (((x[k]!).zW).length) cqBag) ((x[k]!).zW)] := H
  refine qw (t_n (qm (qy ?_)))
  refine sp (.int .i64 r) ?_
  refine sw (zJ r 1 rfl rfl (by (have := hc (by omega); have e := cnt_IntoD (x[k]!); omega)) ?_)
  refine sp (.int .i64 (r + 1)) ?_
  refine qw (t_n (qy ?_))
  refine sps [.slice (aa b4 o5) x.length cx, .int .i64 k] ?_
  refine sw (xJ k Tryz.underlying108 ti115 rfl rfl (by omega) (by omega) ?_)
  refine sw (qM b4 (o5 + (k : Int).toNat * 2) 1 Tryz.underlying115 rfl rfl Tryz.sizeOf22 rfl ?_)
  refine sw (qE (.slice aqBag (((x[k]!).zW).length) cqBag) Tryz.isAgg22 rfl (H.Vp _ 1 hx rfl) ?_)
  refine sp (.int .i64 (r + 1)) ?_
  refine sw (Xo #[.slice aqBag (((x[k]!).zW).length) cqBag, .int .i64 (r + 1)] rfl rfl Tryz.call28 (yT w6 ((x[k]!).zW) (r + 1) aqBag cqBag FqBag (H.get 1 rfl).1 (yz N 1 rfl) ((H.get 1 rfl).2 rfl) (by (have := hc (by omega); have e := cnt_IntoD (x[k]!); omega)) (by (have := hc (by omega); have e := cnt_IntoD (x[k]!); omega))) ?_)
  rintro _ w9 ⟨rfl, m13⟩ x11
  obtain ⟨W10, C12, H⟩ := H.chgAt N 1 rfl (isF true FqBag (.slice aqBag (((x[k]!).zW).length) cqBag) (mrk ((x[k]!).zW) (r + 1))) rfl x11 m13
  replace C := C.trans (C12.mono (by intro z hz; have hz : z ∈ FqBag := hz; simp [hz]))
  replace H : St _ _ _ [XC b4 o5 xs1 [.int .i64 r, .slice aqBag (((x[k]!).zW).length) cqBag] xs2 G1 G2 ((zY x kk k).take k) ((zY x kk k).drop (k + 1)), isF true FqBag (.slice aqBag (((x[k]!).zW).length) cqBag) (mrk ((x[k]!).zW) (r + 1))] := H
  refine sp (.int .i64 (r + 1 + (cnt ((x[k]!).zW) : Nat))) ?_
  refine qw (b_n (t_n (qy ?_)))
  refine sp (.int .i64 k) ?_
  refine sw (zJ k 1 rfl rfl (by (have := hc (by omega); have e := cnt_IntoD (x[k]!); omega)) ?_)
  refine sp (.int .i64 (k + 1)) ?_
  refine qw ?_
  replace H := H.closeAt (y := mrk (x[k]!) r) (m := x.length) (c := cx) ⟨_, _, rfl, rfl, (H.get 1 rfl).1⟩ ((H.get 1 rfl).2 rfl) (H.ltOwn 1 rfl) (zY x kk (k + 1)) (by subst i1; exact markTo_step _ _ (by omega)) (vC _ _ (by omega)) (by rw [vC _ _ (by omega)]; exact nhx)
  refine xF (m' := x.length - (k + 1)) (by omega) ⟨_, k + 1, r + 1 + (cnt ((x[k]!).zW) : Nat), W10, (by exact qj (qj (qj (qj (rfl) rfl) rfl) rfl) rfl), ?_, ?_, ?_, rfl, H⟩
  · omega
  · rw [yc]; have e := cnt_IntoD (x[k]!); omega
  · exact C
 replace h3 := of_decide_eq_false h3
 refine zy (t_x (t_x (b_x (t_n (qm (qy ?_))))))
 refine sps [.int .i64 r, .int .i64 r] ?_
 refine qw (t_n (xx ?_))
 obtain rfl : k = x.length := by omega
 refine ret1 (.int .i64 r) rfl rfl ⟨_, rfl, ⟨?_, H.get 0 rfl⟩, C.trans (Chg.ofExt H.base)⟩
 first | rfl | (refine congrArg (Value.int .i64) ?_; rw [XQ]; omega)

theorem markRuleS_ok (w : World) (x : List QB) (kk : Int) (ax : Option Addr) (cx : Nat) (Fx : List Nat) (hx : qQ.rep w Fx [.slice ax x.length cx] x) (nd : Fx.Nodup) (fr : zU w Fx) (p0 : 0 ≤ kk) (p1 : kk + (cnt x : Nat) ≤ 4611686018427387904) : Calls Tryz.prog 57 #[.slice ax x.length cx, .int .i64 kk] w (RetM (fun v w' => v = .int .i64 (kk + (cnt x : Nat)) ∧ (isF true Fx (.slice ax x.length cx) (mrk x kk)).φ w') Fx w) := by
 refine enter (n := 78) Tryz.func57 rfl Tryz.ntmps57 (Nat.le_of_ble_eq_true rfl) ?_
 have H := St.start w
 replace H := H.add (isF true Fx (.slice ax x.length cx) x) ⟨hx, fun _ => fr.sub (by intro z hz; simp [hz])⟩ (Vm hx)
 have nhx := qJ hx
 clear hx
 have C : Chg Fx w w := Chg.refl _ _
 have N : ([Fx] : List (List Nat)).flatten.Nodup := by simpa using nd
 refine qm (qy ?_)
 refine sp (.int .i64 0) ?_
 refine qw (t_n (qm (qm (qy ?_))))
 refine sp (.int .i64 0) ?_
 refine qw (t_n (xu ?_))
 replace H : St w w [] [isF true Fx (.slice ax x.length cx) (zY x kk 0)] := by rw [markTo_zero]; exact H
 refine zG (fun m' ρ w1 => ∃ (junk : Env) (k : Nat) (r : Int) (W : World), ρ = upd (upd (upd (upd junk 0 (.slice ax x.length cx)) 1 (.int .i64 r)) 4 (.int .i64 0)) 5 (.int .i64 k) ∧ (k ≤ x.length) ∧ (r = kk + (Vg x k : Nat)) ∧ (Chg Fx w W) ∧ m' = x.length - k ∧ St W w1 [] [isF true Fx (.slice ax x.length cx) (zY x kk k)]) (x.length - 0) ⟨_, 0, kk, w, (by exact qj (qj (qj (qj (rfl) rfl) rfl) rfl) rfl), (by omega), (by exact (Int.add_zero _).symm), (by exact C), rfl, H⟩ ?_
 clear H
 rintro m' ρ w2 ⟨junk, k, r, W, rfl, i0, i1, C, rfl, H⟩
 have hc := fun h => cnt_get (l := x) (k := k) h
 refine qm (qm (qy ?_))
 refine sps [.int .i64 k, .slice ax x.length cx] ?_
 refine sw (zD Tryz.underlying34 ax x.length cx rfl ?_)
 refine sp (.bool (decide ((k : Int) < x.length))) ?_
 refine qw (t_n ?_)
 refine qV (decide ((k : Int) < x.length)) rfl (fun h3 => ?_) (fun h3 => ?_)
 ·skip
  replace h3 := of_decide_eq_true h3
  refine xh (t_n (qm (xu (qm (qy ?_)))))
  refine sps [.slice ax x.length cx, .int .i64 k, .int .i64 r] ?_
  obtain ⟨b4, o5, rfl⟩ := H.addr 0 rfl (by rw [vC _ _ (by omega)]; omega)
  obtain ⟨xs1, xs2, G1, G2, X6, XZ, FqNeed, Va, X5, FqHave, X7, X0, FqLack, X9, X4, FqHere, aqOut, cqOut, FqOut, X8, X3, FqInto, rfl, hx, H, N⟩ := H.open_RuleD nd k (by rw [vC _ _ (by omega)]; omega) (markTo_get _ _ (by omega))
  refine sw (xJ k Tryz.underlying34 ti110 rfl rfl (by omega) (by omega) ?_)
  refine sw (qM b4 (o5 + (k : Int).toNat * 9) 0 Tryz.underlying110 rfl rfl Tryz.sizeOf2 rfl ?_)
  refine sw (o_storeHole H N _ 0 hx (.int .i64 r) Tryz.sizeOf2 rfl rfl rfl (Nat.le_of_ble_eq_true rfl) fun w6 W7 C8 H => ?_)
  replace C := C.trans (C8.mono (hole_sub _ _ _ _))
  replace H : St _ _ _ [XC b4 o5 xs1 [.int .i64 r, .int .i64 ((x[k]!).xZ), .slice X6 (((x[k]!).qW).length) XZ, .slice Va (((x[k]!).xg).length) X5, .slice X7 (((x[k]!).xk).length) X0, .slice X9 (((x[k]!).xw).length) X4, .slice aqOut (((x[k]!).zf).length) cqOut, .slice X8 (((x[k]!).qB).length) X3, .bool ((x[k]!).xP)] xs2 G1 G2 ((zY x kk k).take k) ((zY x kk k).drop (k + 1)), isF true FqNeed (.slice X6 (((x[k]!).qW).length) XZ) ((x[k]!).qW), isF true FqHave (.slice Va (((x[k]!).xg).length) X5) ((x[k]!).xg), isF true FqLack (.slice X7 (((x[k]!).xk).length) X0) ((x[k]!).xk), isF true FqHere (.slice X9 (((x[k]!).xw).length) X4) ((x[k]!).xw), isF true FqOut (.slice aqOut (((x[k]!).zf).length) cqOut) ((x[k]!).zf), isF true FqInto (.slice X8 (((x[k]!).qB).length) X3) ((x[k]!).qB)] := H
  refine qw (t_n (qm (qy ?_)))
  refine sp (.int .i64 r) ?_
  refine sw (zJ r 1 rfl rfl (by (have := hc (by omega); have e := jZ (x[k]!); omega)) ?_)
  refine sp (.int .i64 (r + 1)) ?_
  refine qw (t_n (qm (qy ?_)))
  refine sps [.slice (aa b4 o5) x.length cx, .int .i64 k, .int .i64 (r + 1)] ?_
  refine sw (xJ k Tryz.underlying34 ti110 rfl rfl (by omega) (by omega) ?_)
  refine sw (qM b4 (o5 + (k : Int).toNat * 9) 1 Tryz.underlying110 rfl rfl Tryz.sizeOf2 rfl ?_)
  refine sw (o_storeHole H N _ 1 hx (.int .i64 (r + 1)) Tryz.sizeOf2 rfl rfl rfl (Nat.le_of_ble_eq_true rfl) fun w9 W10 C11 H => ?_)
  replace C := C.trans (C11.mono (hole_sub _ _ _ _))
  replace H : St _ _ _ [XC b4 o5 xs1 [.int .i64 r, .int .i64 (r + 1), .slice X6 (((x[k]!).qW).length) XZ, .slice Va (((x[k]!).xg).length) X5, .slice X7 (((x[k]!).xk).length) X0, .slice X9 (((x[k]!).xw).length) X4, .slice aqOut (((x[k]!).zf).length) cqOut, .slice X8 (((x[k]!).qB).length) X3, .bool ((x[k]!).xP)] xs2 G1 G2 ((zY x kk k).take k) ((zY x kk k).drop (k + 1)), isF true FqNeed (.slice X6 (((x[k]!).qW).length) XZ) ((x[k]!).qW), isF true FqHave (.slice Va (((x[k]!).xg).length) X5) ((x[k]!).xg), isF true FqLack (.slice X7 (((x[k]!).xk).length) X0) ((x[k]!).xk), isF true FqHere (.slice X9 (((x[k]!).xw).length) X4) ((x[k]!).xw), isF true FqOut (.slice aqOut (((x[k]!).zf).length) cqOut) ((x[k]!).zf), isF true FqInto (.slice X8 (((x[k]!).qB).length) X3) ((x[k]!).qB)] := H
  refine qw (t_n (qm (qy ?_)))
  refine sp (.int .i64 (r + 1)) ?_
  refine sw (zJ (r + 1) 1 rfl rfl (by (have := hc (by omega); have e := jZ (x[k]!); omega)) ?_)
  refine sp (.int .i64 ((r + 1) + 1)) ?_
  refine qw (t_n (qm (qy ?_)))
  refine sps [.slice (aa b4 o5) x.length cx, .int .i64 k] ?_
  refine sw (xJ k Tryz.underlying34 ti110 rfl rfl (by omega) (by omega) ?_)
  refine sw (qM b4 (o5 + (k : Int).toNat * 9) 2 Tryz.underlying110 rfl rfl Tryz.sizeOf22 rfl ?_)
  refine sw (qE (.slice X6 (((x[k]!).qW).length) XZ) Tryz.isAgg22 rfl (H.Vp _ 2 hx rfl) ?_)
  refine sp (.int .i64 ((r + 1) + 1)) ?_
  refine sw (Xo #[.slice X6 (((x[k]!).qW).length) XZ, .int .i64 ((r + 1) + 1)] rfl rfl Tryz.call28 (yT w9 ((x[k]!).qW) ((r + 1) + 1) X6 XZ FqNeed (H.get 1 rfl).1 (yz N 1 rfl) ((H.get 1 rfl).2 rfl) (by (have := hc (by omega); have e := jZ (x[k]!); omega)) (by (have := hc (by omega); have e := jZ (x[k]!); omega))) ?_)
  rintro _ w12 ⟨rfl, m16⟩ x14
  obtain ⟨W13, C15, H⟩ := H.chgAt N 1 rfl (isF true FqNeed (.slice X6 (((x[k]!).qW).length) XZ) (mrk ((x[k]!).qW) ((r + 1) + 1))) rfl x14 m16
  replace C := C.trans (C15.mono (by intro z hz; have hz : z ∈ FqNeed := hz; simp [hz]))
  replace H : St _ _ _ [XC b4 o5 xs1 [.int .i64 r, .int .i64 (r + 1), .slice X6 (((x[k]!).qW).length) XZ, .slice Va (((x[k]!).xg).length) X5, .slice X7 (((x[k]!).xk).length) X0, .slice X9 (((x[k]!).xw).length) X4, .slice aqOut (((x[k]!).zf).length) cqOut, .slice X8 (((x[k]!).qB).length) X3, .bool ((x[k]!).xP)] xs2 G1 G2 ((zY x kk k).take k) ((zY x kk k).drop (k + 1)), isF true FqNeed (.slice X6 (((x[k]!).qW).length) XZ) (mrk ((x[k]!).qW) ((r + 1) + 1)), isF true FqHave (.slice Va (((x[k]!).xg).length) X5) ((x[k]!).xg), isF true FqLack (.slice X7 (((x[k]!).xk).length) X0) ((x[k]!).xk), isF true FqHere (.slice X9 (((x[k]!).xw).length) X4) ((x[k]!).xw), isF true FqOut (.slice aqOut (((x[k]!).zf).length) cqOut) ((x[k]!).zf), isF true FqInto (.slice X8 (((x[k]!).qB).length) X3) ((x[k]!).qB)] := H
  refine sp (.int .i64 ((r + 1) + 1 + (cnt ((x[k]!).qW) : Nat))) ?_
  refine qw (t_n (qm (qy ?_)))
  refine sps [.slice (aa b4 o5) x.length cx, .int .i64 k] ?_
  refine sw (xJ k Tryz.underlying34 ti110 rfl rfl (by omega) (by omega) ?_)
  refine sw (qM b4 (o5 + (k : Int).toNat * 9) 3 Tryz.underlying110 rfl rfl Tryz.sizeOf22 rfl ?_)
  refine sw (qE (.slice Va (((x[k]!).xg).length) X5) Tryz.isAgg22 rfl (H.Vp _ 3 hx rfl) ?_)
  refine sp (.int .i64 ((r + 1) + 1 + (cnt ((x[k]!).qW) : Nat))) ?_
  refine sw (Xo #[.slice Va (((x[k]!).xg).length) X5, .int .i64 ((r + 1) + 1 + (cnt ((x[k]!).qW) : Nat))] rfl rfl Tryz.call28 (yT w12 ((x[k]!).xg) ((r + 1) + 1 + (cnt ((x[k]!).qW) : Nat)) Va X5 FqHave (H.get 2 rfl).1 (yz N 2 rfl) ((H.get 2 rfl).2 rfl) (by (have := hc (by omega); have e := jZ (x[k]!); omega)) (by (have := hc (by omega); have e := jZ (x[k]!); omega))) ?_)
  rintro _ w17 ⟨rfl, m21⟩ x19
  obtain ⟨W18, C20, H⟩ := H.chgAt N 2 rfl (isF true FqHave (.slice Va (((x[k]!).xg).length) X5) (mrk ((x[k]!).xg) ((r + 1) + 1 + (cnt ((x[k]!).qW) : Nat)))) rfl x19 m21
  replace C := C.trans (C20.mono (by intro z hz; have hz : z ∈ FqHave := hz; simp [hz]))
  replace H : St _ _ _ [XC b4 o5 xs1 [.int .i64 r, .int .i64 (r + 1), .slice X6 (((x[k]!).qW).length) XZ, .slice Va (((x[k]!).xg).length) X5, .slice X7 (((x[k]!).xk).length) X0, .slice X9 (((x[k]!).xw).length) X4, .slice aqOut (((x[k]!).zf).length) cqOut, .slice X8 (((x[k]!).qB).length) X3, .bool ((x[k]!).xP)] xs2 G1 G2 ((zY x kk k).take k) ((zY x kk k).drop (k + 1)), isF true FqNeed (.slice X6 (((x[k]!).qW).length) XZ) (mrk ((x[k]!).qW) ((r + 1) + 1)), isF true FqHave (.slice Va (((x[k]!).xg).length) X5) (mrk ((x[k]!).xg) ((r + 1) + 1 + (cnt ((x[k]!).qW) : Nat))), isF true FqLack (.slice X7 (((x[k]!).xk).length) X0) ((x[k]!).xk), isF true FqHere (.slice X9 (((x[k]!).xw).length) X4) ((x[k]!).xw), isF true FqOut (.slice aqOut (((x[k]!).zf).length) cqOut) ((x[k]!).zf), isF true FqInto (.slice X8 (((x[k]!).qB).length) X3) ((x[k]!).qB)] := H
  refine sp (.int .i64 ((r + 1) + 1 + (cnt ((x[k]!).qW) : Nat) + (cnt ((x[k]!).xg) : Nat))) ?_
  refine qw (t_n (qm (qy ?_)))
  refine sps [.slice (aa b4 o5) x.length cx, .int .i64 k] ?_
  refine sw (xJ k Tryz.underlying34 ti110 rfl rfl (by omega) (by omega) ?_)
  refine sw (qM b4 (o5 + (k : Int).toNat * 9) 4 Tryz.underlying110 rfl rfl Tryz.sizeOf22 rfl ?_)
  refine sw (qE (.slice X7 (((x[k]!).xk).length) X0) Tryz.isAgg22 rfl (H.Vp _ 4 hx rfl) ?_)
  refine sp (.int .i64 ((r + 1) + 1 + (cnt ((x[k]!).qW) : Nat) + (cnt ((x[k]!).xg) : Nat))) ?_
  refine sw (Xo #[.slice X7 (((x[k]!).xk).length) X0, .int .i64 ((r + 1) + 1 + (cnt ((x[k]!).qW) : Nat) + (cnt ((x[k]!).xg) : Nat))] rfl rfl Tryz.call28 (yT w17 ((x[k]!).xk) ((r + 1) + 1 + (cnt ((x[k]!).qW) : Nat) + (cnt ((x[k]!).xg) : Nat)) X7 X0 FqLack (H.get 3 rfl).1 (yz N 3 rfl) ((H.get 3 rfl).2 rfl) (by (have := hc (by omega); have e := jZ (x[k]!); omega)) (by (have := hc (by omega); have e := jZ (x[k]!); omega))) ?_)
  rintro _ w22 ⟨rfl, m26⟩ x24
  obtain ⟨W23, C25, H⟩ := H.chgAt N 3 rfl (isF true FqLack (.slice X7 (((x[k]!).xk).length) X0) (mrk ((x[k]!).xk) ((r + 1) + 1 + (cnt ((x[k]!).qW) : Nat) + (cnt ((x[k]!).xg) : Nat)))) rfl x24 m26
  replace C := C.trans (C25.mono (by intro z hz; have hz : z ∈ FqLack := hz; simp [hz]))
  replace H : St _ _ _ [XC b4 o5 xs1 [.int .i64 r, .int .i64 (r + 1), .slice X6 (((x[k]!).qW).length) XZ, .slice Va (((x[k]!).xg).length) X5, .slice X7 (((x[k]!).xk).length) X0, .slice X9 (((x[k]!).xw).length) X4, .slice aqOut (((x[k]!).zf).length) cqOut, .slice X8 (((x[k]!).qB).length) X3, .bool ((x[k]!).xP)] xs2 G1 G2 ((zY x kk k).take k) ((zY x kk k).drop (k + 1)), isF true FqNeed (.slice X6 (((x[k]!).qW).length) XZ) (mrk ((x[k]!).qW) ((r + 1) + 1)), isF true FqHave (.slice Va (((x[k]!).xg).length) X5) (mrk ((x[k]!).xg) ((r + 1) + 1 + (cnt ((x[k]!).qW) : Nat))), isF true FqLack (.slice X7 (((x[k]!).xk).length) X0) (mrk ((x[k]!).xk) ((r + 1) + 1 + (cnt ((x[k]!).qW) : Nat) + (cnt ((x[k]!).xg) : Nat))), isF true FqHere (.slice X9 (((x[k]!).xw).length) X4) ((x[k]!).xw), isF true FqOut (.slice aqOut (((x[k]!).zf).length) cqOut) ((x[k]!).zf), isF true FqInto (.slice X8 (((x[k]!).qB).length) X3) ((x[k]!).qB)] := H
  refine sp (.int .i64 ((r + 1) + 1 + (cnt ((x[k]!).qW) : Nat) + (cnt ((x[k]!).xg) : Nat) + (cnt ((x[k]!).xk) : Nat))) ?_
  refine qw (t_n (qm (qy ?_)))
  refine sps [.slice (aa b4 o5) x.length cx, .int .i64 k] ?_
  refine sw (xJ k Tryz.underlying34 ti110 rfl rfl (by omega) (by omega) ?_)
  refine sw (qM b4 (o5 + (k : Int).toNat * 9) 5 Tryz.underlying110 rfl rfl Tryz.sizeOf22 rfl ?_)
  refine sw (qE (.slice X9 (((x[k]!).xw).length) X4) Tryz.isAgg22 rfl (H.Vp _ 5 hx rfl) ?_)
  refine sp (.int .i64 ((r + 1) + 1 + (cnt ((x[k]!).qW) : Nat) + (cnt ((x[k]!).xg) : Nat) + (cnt ((x[k]!).xk) : Nat))) ?_
  refine sw (Xo #[.slice X9 (((x[k]!).xw).length) X4, .int .i64 ((r + 1) + 1 + (cnt ((x[k]!).qW) : Nat) + (cnt ((x[k]!).xg) : Nat) + (cnt ((x[k]!).xk) : Nat))] rfl rfl Tryz.call28 (yT w22 ((x[k]!).xw) ((r + 1) + 1 + (cnt ((x[k]!).qW) : Nat) + (cnt ((x[k]!).xg) : Nat) + (cnt ((x[k]!).xk) : Nat)) X9 X4 FqHere (H.get 4 rfl).1 (yz N 4 rfl) ((H.get 4 rfl).2 rfl) (by (have := hc (by omega); have e := jZ (x[k]!); omega)) (by (have := hc (by omega); have e := jZ (x[k]!); omega))) ?_)
  rintro _ w27 ⟨rfl, m31⟩ x29
  obtain ⟨W28, C30, H⟩ := H.chgAt N 4 rfl (isF true FqHere (.slice X9 (((x[k]!).xw).length) X4) (mrk ((x[k]!).xw) ((r + 1) + 1 + (cnt ((x[k]!).qW) : Nat) + (cnt ((x[k]!).xg) : Nat) + (cnt ((x[k]!).xk) : Nat)))) rfl x29 m31
  replace C := C.trans (C30.mono (by intro z hz; have hz : z ∈ FqHere := hz; simp [hz]))
  replace H : St _ _ _ [XC b4 o5 xs1 [.int .i64 r, .int .i64 (r + 1), .slice X6 (((x[k]!).qW).length) XZ, .slice Va (((x[k]!).xg).length) X5, .slice X7 (((x[k]!).xk).length) X0, .slice X9 (((x[k]!).xw).length) X4, .slice aqOut (((x[k]!).zf).length) cqOut, .slice X8 (((x[k]!).qB).length) X3, .bool ((x[k]!).xP)] xs2 G1 G2 ((zY x kk k).take k) ((zY x kk k).drop (k + 1)), isF true FqNeed (.slice X6 (((x[k]!).qW).length) XZ) (mrk ((x[k]!).qW) ((r + 1) + 1)), isF true FqHave (.slice Va (((x[k]!).xg).length) X5) (mrk ((x[k]!).xg) ((r + 1) + 1 + (cnt ((x[k]!).qW) : Nat))), isF true FqLack (.slice X7 (((x[k]!).xk).length) X0) (mrk ((x[k]!).xk) ((r + 1) + 1 + (cnt ((x[k]!).qW) : Nat) + (cnt ((x[k]!).xg) : Nat))), isF true FqHere (.slice X9 (((x[k]!).xw).length) X4) (mrk ((x[k]!).xw) ((r + 1) + 1 + (cnt ((x[k]!).qW) : Nat) + (cnt ((x[k]!).xg) : Nat) + (cnt ((x[k]!).xk) : Nat))), isF true FqOut (.slice aqOut (((x[k]!).zf).length) cqOut) ((x[k]!).zf), isF true FqInto (.slice X8 (((x[k]!).qB).length) X3) ((x[k]!).qB)] := H
  refine sp (.int .i64 ((r + 1) + 1 + (cnt ((x[k]!).qW) : Nat) + (cnt ((x[k]!).xg) : Nat) + (cnt ((x[k]!).xk) : Nat) + (cnt ((x[k]!).xw) : Nat))) ?_
  refine qw (t_n (qm (qy ?_)))
  refine sps [.slice (aa b4 o5) x.length cx, .int .i64 k] ?_
  refine sw (xJ k Tryz.underlying34 ti110 rfl rfl (by omega) (by omega) ?_)
  refine sw (qM b4 (o5 + (k : Int).toNat * 9) 6 Tryz.underlying110 rfl rfl Tryz.sizeOf22 rfl ?_)
  refine sw (qE (.slice aqOut (((x[k]!).zf).length) cqOut) Tryz.isAgg22 rfl (H.Vp _ 6 hx rfl) ?_)
  refine sp (.int .i64 ((r + 1) + 1 + (cnt ((x[k]!).qW) : Nat) + (cnt ((x[k]!).xg) : Nat) + (cnt ((x[k]!).xk) : Nat) + (cnt ((x[k]!).xw) : Nat))) ?_
  refine sw (Xo #[.slice aqOut (((x[k]!).zf).length) cqOut, .int .i64 ((r + 1) + 1 + (cnt ((x[k]!).qW) : Nat) + (cnt ((x[k]!).xg) : Nat) + (cnt ((x[k]!).xk) : Nat) + (cnt ((x[k]!).xw) : Nat))] rfl rfl Tryz.call28 (yT w27 ((x[k]!).zf) ((r + 1) + 1 + (cnt ((x[k]!).qW) : Nat) + (cnt ((x[k]!).xg) : Nat) + (cnt ((x[k]!).xk) : Nat) + (cnt ((x[k]!).xw) : Nat)) aqOut cqOut FqOut (H.get 5 rfl).1 (yz N 5 rfl) ((H.get 5 rfl).2 rfl) (by (have := hc (by omega); have e := jZ (x[k]!); omega)) (by (have := hc (by omega); have e := jZ (x[k]!); omega))) ?_)
  rintro _ w32 ⟨rfl, m36⟩ x34
  obtain ⟨W33, C35, H⟩ := H.chgAt N 5 rfl (isF true FqOut (.slice aqOut (((x[k]!).zf).length) cqOut) (mrk ((x[k]!).zf) ((r + 1) + 1 + (cnt ((x[k]!).qW) : Nat) + (cnt ((x[k]!).xg) : Nat) + (cnt ((x[k]!).xk) : Nat) + (cnt ((x[k]!).xw) : Nat)))) rfl x34 m36
  replace C := C.trans (C35.mono (by intro z hz; have hz : z ∈ FqOut := hz; simp [hz]))
  replace H : St _ _ _ [XC b4 o5 xs1 [.int .i64 r, .int .i64 (r + 1), .slice X6 (((x[k]!).qW).length) XZ, .slice Va (((x[k]!).xg).length) X5, .slice X7 (((x[k]!).xk).length) X0, .slice X9 (((x[k]!).xw).length) X4, .slice aqOut (((x[k]!).zf).length) cqOut, .slice X8 (((x[k]!).qB).length) X3, .bool ((x[k]!).xP)] xs2 G1 G2 ((zY x kk k).take k) ((zY x kk k).drop (k + 1)), isF true FqNeed (.slice X6 (((x[k]!).qW).length) XZ) (mrk ((x[k]!).qW) ((r + 1) + 1)), isF true FqHave (.slice Va (((x[k]!).xg).length) X5) (mrk ((x[k]!).xg) ((r + 1) + 1 + (cnt ((x[k]!).qW) : Nat))), isF true FqLack (.slice X7 (((x[k]!).xk).length) X0) (mrk ((x[k]!).xk) ((r + 1) + 1 + (cnt ((x[k]!).qW) : Nat) + (cnt ((x[k]!).xg) : Nat))), isF true FqHere (.slice X9 (((x[k]!).xw).length) X4) (mrk ((x[k]!).xw) ((r + 1) + 1 + (cnt ((x[k]!).qW) : Nat) + (cnt ((x[k]!).xg) : Nat) + (cnt ((x[k]!).xk) : Nat))), isF true FqOut (.slice aqOut (((x[k]!).zf).length) cqOut) (mrk ((x[k]!).zf) ((r + 1) + 1 + (cnt ((x[k]!).qW) : Nat) + (cnt ((x[k]!).xg) : Nat) + (cnt ((x[k]!).xk) : Nat) + (cnt ((x[k]!).xw) : Nat))), isF true FqInto (.slice X8 (((x[k]!).qB).length) X3) ((x[k]!).qB)] := H
  refine sp (.int .i64 ((r + 1) + 1 + (cnt ((x[k]!).qW) : Nat) + (cnt ((x[k]!).xg) : Nat) + (cnt ((x[k]!).xk) : Nat) + (cnt ((x[k]!).xw) : Nat) + (cnt ((x[k]!).zf) : Nat))) ?_
  refine qw (t_n (qm (qy ?_)))
  refine sps [.slice (aa b4 o5) x.length cx, .int .i64 k] ?_
  refine sw (xJ k Tryz.underlying34 ti110 rfl rfl (by omega) (by omega) ?_)
  refine sw (qM b4 (o5 + (k : Int).toNat * 9) 7 Tryz.underlying110 rfl rfl Tryz.sizeOf108 rfl ?_)
  refine sw (qE (.slice X8 (((x[k]!).qB).length) X3) Tryz.isAgg108 rfl (H.Vp _ 7 hx rfl) ?_)
  refine sp (.int .i64 ((r + 1) + 1 + (cnt ((x[k]!).qW) : Nat) + (cnt ((x[k]!).xg) : Nat) + (cnt ((x[k]!).xk) : Nat) + (cnt ((x[k]!).xw) : Nat) + (cnt ((x[k]!).zf) : Nat))) ?_
  refine sw (Xo #[.slice X8 (((x[k]!).qB).length) X3, .int .i64 ((r + 1) + 1 + (cnt ((x[k]!).qW) : Nat) + (cnt ((x[k]!).xg) : Nat) + (cnt ((x[k]!).xk) : Nat) + (cnt ((x[k]!).xw) : Nat) + (cnt ((x[k]!).zf) : Nat))] rfl rfl Tryz.call105 (markIntoS_ok w32 ((x[k]!).qB) ((r + 1) + 1 + (cnt ((x[k]!).qW) : Nat) + (cnt ((x[k]!).xg) : Nat) + (cnt ((x[k]!).xk) : Nat) + (cnt ((x[k]!).xw) : Nat) + (cnt ((x[k]!).zf) : Nat)) X8 X3 FqInto (H.get 6 rfl).1 (yz N 6 rfl) ((H.get 6 rfl).2 rfl) (by (have := hc (by omega); have e := jZ (x[k]!); omega)) (by (have := hc (by omega); have e := jZ (x[k]!); omega))) ?_)
  rintro _ w37 ⟨rfl, m41⟩ x39
  obtain ⟨W38, C40, H⟩ := H.chgAt N 6 rfl (isF true FqInto (.slice X8 (((x[k]!).qB).length) X3) (mrk ((x[k]!).qB) ((r + 1) + 1 + (cnt ((x[k]!).qW) : Nat) + (cnt ((x[k]!).xg) : Nat) + (cnt ((x[k]!).xk) : Nat) + (cnt ((x[k]!).xw) : Nat) + (cnt ((x[k]!).zf) : Nat)))) rfl x39 m41
  replace C := C.trans (C40.mono (by intro z hz; have hz : z ∈ FqInto := hz; simp [hz]))
  replace H : St _ _ _ [XC b4 o5 xs1 [.int .i64 r, .int .i64 (r + 1), .slice X6 (((x[k]!).qW).length) XZ, .slice Va (((x[k]!).xg).length) X5, .slice X7 (((x[k]!).xk).length) X0, .slice X9 (((x[k]!).xw).length) X4, .slice aqOut (((x[k]!).zf).length) cqOut, .slice X8 (((x[k]!).qB).length) X3, .bool ((x[k]!).xP)] xs2 G1 G2 ((zY x kk k).take k) ((zY x kk k).drop (k + 1)), isF true FqNeed (.slice X6 (((x[k]!).qW).length) XZ) (mrk ((x[k]!).qW) ((r + 1) + 1)), isF true FqHave (.slice Va (((x[k]!).xg).length) X5) (mrk ((x[k]!).xg) ((r + 1) + 1 + (cnt ((x[k]!).qW) : Nat))), isF true FqLack (.slice X7 (((x[k]!).xk).length) X0) (mrk ((x[k]!).xk) ((r + 1) + 1 + (cnt ((x[k]!).qW) : Nat) + (cnt ((x[k]!).xg) : Nat))), isF true FqHere (.slice X9 (((x[k]!).xw).length) X4) (mrk ((x[k]!).xw) ((r + 1) + 1 + (cnt ((x[k]!).qW) : Nat) + (cnt ((x[k]!).xg) : Nat) + (cnt ((x[k]!).xk) : Nat))), isF true FqOut (.slice aqOut (((x[k]!).zf).length) cqOut) (mrk ((x[k]!).zf) ((r + 1) + 1 + (cnt ((x[k]!).qW) : Nat) + (cnt ((x[k]!).xg) : Nat) + (cnt ((x[k]!).xk) : Nat) + (cnt ((x[k]!).xw) : Nat))), isF true FqInto (.slice X8 (((x[k]!).qB).length) X3) (mrk ((x[k]!).qB) ((r + 1) + 1 + (cnt ((x[k]!).qW) : Nat) + (cnt ((x[k]!).xg) : Nat) + (cnt ((x[k]!).xk) : Nat) + (cnt ((x[k]!).xw) : Nat) + (cnt ((x[k]!).zf) : Nat)))] := H
  refine sp (.int .i64 ((r + 1) + 1 + (cnt ((x[k]!).qW) : Nat) + (cnt ((x[k]!).xg) : Nat) + (cnt ((x[k]!).xk) : Nat) + (cnt ((x[k]!).xw) : Nat) + (cnt ((x[k]!).zf) : Nat) + (cnt ((x[k]!).qB) : Nat))) ?_
  refine qw (t_n (qm (qy ?_)))
  refine sps [.slice (aa b4 o5) x.length cx, .int .i64 k, .int .i64 ((r + 1) + 1 + (cnt ((x[k]!).qW) : Nat) + (cnt ((x[k]!).xg) : Nat) + (cnt ((x[k]!).xk) : Nat) + (cnt ((x[k]!).xw) : Nat) + (cnt ((x[k]!).zf) : Nat) + (cnt ((x[k]!).qB) : Nat))] ?_
  refine sw (o_rem ((r + 1) + 1 + (cnt ((x[k]!).qW) : Nat) + (cnt ((x[k]!).xg) : Nat) + (cnt ((x[k]!).xk) : Nat) + (cnt ((x[k]!).xw) : Nat) + (cnt ((x[k]!).zf) : Nat) + (cnt ((x[k]!).qB) : Nat)) 3 rfl rfl (by (have := hc (by omega); have e := jZ (x[k]!); omega)) (by omega) (by (have := hc (by omega); have e := jZ (x[k]!); omega)) ?_)
  refine sp (.bool ((((r + 1) + 1 + (cnt ((x[k]!).qW) : Nat) + (cnt ((x[k]!).xg) : Nat) + (cnt ((x[k]!).xk) : Nat) + (cnt ((x[k]!).xw) : Nat) + (cnt ((x[k]!).zf) : Nat) + (cnt ((x[k]!).qB) : Nat)) % 3 : Int) == 0)) ?_
  refine sw (xJ k Tryz.underlying34 ti110 rfl rfl (by omega) (by omega) ?_)
  refine sw (qM b4 (o5 + (k : Int).toNat * 9) 8 Tryz.underlying110 rfl rfl Tryz.sizeOf4 rfl ?_)
  refine sw (o_storeHole H N _ 8 hx (.bool ((((r + 1) + 1 + (cnt ((x[k]!).qW) : Nat) + (cnt ((x[k]!).xg) : Nat) + (cnt ((x[k]!).xk) : Nat) + (cnt ((x[k]!).xw) : Nat) + (cnt ((x[k]!).zf) : Nat) + (cnt ((x[k]!).qB) : Nat)) % 3 : Int) == 0)) Tryz.sizeOf4 rfl rfl rfl (Nat.le_of_ble_eq_true rfl) fun w42 W43 C44 H => ?_)
  replace C := C.trans (C44.mono (hole_sub _ _ _ _))
  replace H : St _ _ _ [XC b4 o5 xs1 [.int .i64 r, .int .i64 (r + 1), .slice X6 (((x[k]!).qW).length) XZ, .slice Va (((x[k]!).xg).length) X5, .slice X7 (((x[k]!).xk).length) X0, .slice X9 (((x[k]!).xw).length) X4, .slice aqOut (((x[k]!).zf).length) cqOut, .slice X8 (((x[k]!).qB).length) X3, .bool ((((r + 1) + 1 + (cnt ((x[k]!).qW) : Nat) + (cnt ((x[k]!).xg) : Nat) + (cnt ((x[k]!).xk) : Nat) + (cnt ((x[k]!).xw) : Nat) + (cnt ((x[k]!).zf) : Nat) + (cnt ((x[k]!).qB) : Nat)) % 3 : Int) == 0)] xs2 G1 G2 ((zY x kk k).take k) ((zY x kk k).drop (k + 1)), isF true FqNeed (.slice X6 (((x[k]!).qW).length) XZ) (mrk ((x[k]!).qW) ((r + 1) + 1)), isF true FqHave (.slice Va (((x[k]!).xg).length) X5) (mrk ((x[k]!).xg) ((r + 1) + 1 + (cnt ((x[k]!).qW) : Nat))), isF true FqLack (.slice X7 (((x[k]!).xk).length) X0) (mrk ((x[k]!).xk) ((r + 1) + 1 + (cnt ((x[k]!).qW) : Nat) + (cnt ((x[k]!).xg) : Nat))), isF true FqHere (.slice X9 (((x[k]!).xw).length) X4) (mrk ((x[k]!).xw) ((r + 1) + 1 + (cnt ((x[k]!).qW) : Nat) + (cnt ((x[k]!).xg) : Nat) + (cnt ((x[k]!).xk) : Nat))), isF true FqOut (.slice aqOut (((x[k]!).zf).length) cqOut) (mrk ((x[k]!).zf) ((r + 1) + 1 + (cnt ((x[k]!).qW) : Nat) + (cnt ((x[k]!).xg) : Nat) + (cnt ((x[k]!).xk) : Nat) + (cnt ((x[k]!).xw) : Nat))), isF true FqInto (.slice X8 (((x[k]!).qB).length) X3) (mrk ((x[k]!).qB) ((r + 1) + 1 + (cnt ((x[k]!).qW) : Nat) + (cnt ((x[k]!).xg) : Nat) + (cnt ((x[k]!).xk) : Nat) + (cnt ((x[k]!).xw) : Nat) + (cnt ((x[k]!).zf) : Nat)))] := H
  refine qw (t_n (qy ?_))
  refine sp (.int .i64 ((r + 1) + 1 + (cnt ((x[k]!).qW) : Nat) + (cnt ((x[k]!).xg) : Nat) + (cnt ((x[k]!).xk) : Nat) + (cnt ((x[k]!).xw) : Nat) + (cnt ((x[k]!).zf) : Nat) + (cnt ((x[k]!).qB) : Nat))) ?_
  refine sw (zJ ((r + 1) + 1 + (cnt ((x[k]!).qW) : Nat) + (cnt ((x[k]!).xg) : Nat) + (cnt ((x[k]!).xk) : Nat) + (cnt ((x[k]!).xw) : Nat) + (cnt ((x[k]!).zf) : Nat) + (cnt ((x[k]!).qB) : Nat)) 1 rfl rfl (by (have := hc (by omega); have e := jZ (x[k]!); omega)) ?_)
  refine sp (.int .i64 (((r + 1) + 1 + (cnt ((x[k]!).qW) : Nat) + (cnt ((x[k]!).xg) : Nat) + (cnt ((x[k]!).xk) : Nat) + (cnt ((x[k]!).xw) : Nat) + (cnt ((x[k]!).zf) : Nat) + (cnt ((x[k]!).qB) : Nat)) + 1)) ?_
  refine qw (b_n (t_n (qy ?_)))
  refine sp (.int .i64 k) ?_
  refine sw (zJ k 1 rfl rfl (by (have := hc (by omega); have e := jZ (x[k]!); omega)) ?_)
  refine sp (.int .i64 (k + 1)) ?_
  refine qw ?_
  replace H := H.closeAt (y := mrk (x[k]!) r) (m := x.length) (c := cx) ⟨_, _, _, _, _, _, _, _, _, _, _, _, rfl, rfl, (H.get 1 rfl).1, (H.get 2 rfl).1, (H.get 3 rfl).1, (H.get 4 rfl).1, (H.get 5 rfl).1, (H.get 6 rfl).1⟩ (((((((H.get 1 rfl).2 rfl).app ((H.get 2 rfl).2 rfl)).app ((H.get 3 rfl).2 rfl)).app ((H.get 4 rfl).2 rfl)).app ((H.get 5 rfl).2 rfl)).app ((H.get 6 rfl).2 rfl)) (Xx (Xx (Xx (Xx (Xx (H.ltOwn 1 rfl) (H.ltOwn 2 rfl)) (H.ltOwn 3 rfl)) (H.ltOwn 4 rfl)) (H.ltOwn 5 rfl)) (H.ltOwn 6 rfl)) (zY x kk (k + 1)) (by subst i1; exact markTo_step _ _ (by omega)) (vC _ _ (by omega)) (by rw [vC _ _ (by omega)]; exact nhx)
  refine xF (m' := x.length - (k + 1)) (by omega) ⟨_, k + 1, ((r + 1) + 1 + (cnt ((x[k]!).qW) : Nat) + (cnt ((x[k]!).xg) : Nat) + (cnt ((x[k]!).xk) : Nat) + (cnt ((x[k]!).xw) : Nat) + (cnt ((x[k]!).zf) : Nat) + (cnt ((x[k]!).qB) : Nat)) + 1, W43, (by exact qj (qj (qj (qj (rfl) rfl) rfl) rfl) rfl), ?_, ?_, ?_, rfl, H⟩
  · omega
  · rw [yc]; have e := jZ (x[k]!); omega
  · exact C
 replace h3 := of_decide_eq_false h3
 refine zy (t_x (t_x (b_x (t_n (qm (qy ?_))))))
 refine sps [.int .i64 r, .int .i64 r] ?_
 refine qw (t_n (xx ?_))
 obtain rfl : k = x.length := by omega
 refine ret1 (.int .i64 r) rfl rfl ⟨_, rfl, ⟨?_, H.get 0 rfl⟩, C.trans (Chg.ofExt H.base)⟩
 first | rfl | (refine congrArg (Value.int .i64) ?_; rw [XQ]; omega)

theorem markSystem_ok (w : World) (x : qU) (kk : Int) (zA : Option Addr) (zx : Nat) (jI : List Nat) (vT : Option Addr) (vS : Nat) (QV : List Nat) (Qs : qQ.rep w jI [.slice zA x.qf.length zx] x.qf) (Ve : qQ.rep w QV [.slice vT x.qg.length vS] x.qg) (nd : (jI ++ QV).Nodup) (fr : zU w (jI ++ QV)) (p0 : 0 ≤ kk) (p1 : kk + (cnt x.qf : Nat) + (cnt x.qg : Nat) ≤ 4611686018427387904) : Calls Tryz.prog 17 #[.agg #[.int .i64 x.qI, .slice zA x.qf.length zx, .slice vT x.qg.length vS], .int .i64 kk] w (RetM (fun v w' => v = .int .i64 (kk + (cnt x.qf : Nat) + (cnt x.qg : Nat)) ∧ (isF true jI (.slice zA x.qf.length zx) (mrk x.qf kk)).φ w' ∧ (isF true QV (.slice vT x.qg.length vS) (mrk x.qg (kk + (cnt x.qf : Nat)))).φ w') (jI ++ QV) w) := by
 refine enter (n := 14) Tryz.func17 rfl Tryz.ntmps17 (Nat.le_of_ble_eq_true rfl) ?_
 have H := St.start w
 replace H := H.add (isF true QV (.slice vT x.qg.length vS) x.qg) ⟨Ve, fun _ => fr.sub (by intro z hz; simp [hz])⟩ (Vm Ve)
 replace H := H.add (isF true jI (.slice zA x.qf.length zx) x.qf) ⟨Qs, fun _ => fr.sub (by intro z hz; simp [hz])⟩ (Vm Qs)
 have nhxParents := qJ Qs
 have nhxRules := qJ Ve
 clear Qs Ve
 have C : Chg (jI ++ QV) w w := Chg.refl _ _
 have N : ([jI, QV] : List (List Nat)).flatten.Nodup := by simpa using nd
 refine qm (qy ?_)
 refine sw (o_box H (.agg #[.int .i64 x.qI, .slice zA x.qf.length zx, .slice vT x.qg.length vS]) rfl fun b1 w2 H => ?_)
 replace H : St _ _ [.box b1 [.int .i64 x.qI, .slice zA x.qf.length zx, .slice vT x.qg.length vS] 36] _ := H
 refine sp (.int .i64 0) ?_
 refine qw (t_n (qm (qy ?_)))
 refine sw (qM b1 (0) 1 Tryz.underlying36 rfl rfl Tryz.sizeOf22 rfl ?_)
 refine sw (qE (.slice zA x.qf.length zx) Tryz.isAgg22 rfl (H.cell 0 rfl rfl) ?_)
 refine sp (.int .i64 kk) ?_
 refine sw (Xo #[.slice zA x.qf.length zx, .int .i64 kk] rfl rfl Tryz.call28 (yT w2 x.qf kk zA zx jI (H.get 0 rfl).1 (yz N 0 rfl) ((H.get 0 rfl).2 rfl) (by omega) (by omega)) ?_)
 rintro _ w3 ⟨rfl, m7⟩ x5
 obtain ⟨W4, C6, H⟩ := H.chgAt N 0 rfl (isF true jI (.slice zA x.qf.length zx) (mrk x.qf kk)) rfl x5 m7
 replace C := C.trans (C6.mono (by intro z hz; have hz : z ∈ jI := hz; simp [hz]))
 replace H : St _ _ _ [isF true jI (.slice zA x.qf.length zx) (mrk x.qf kk), isF true QV (.slice vT x.qg.length vS) x.qg] := H
 refine sp (.int .i64 (kk + (cnt x.qf : Nat))) ?_
 refine qw (t_n (qm (qy ?_)))
 refine sw (qM b1 (0) 2 Tryz.underlying36 rfl rfl Tryz.sizeOf34 rfl ?_)
 refine sw (qE (.slice vT x.qg.length vS) Tryz.isAgg34 rfl (H.cell 0 rfl rfl) ?_)
 refine sp (.int .i64 (kk + (cnt x.qf : Nat))) ?_
 refine sw (Xo #[.slice vT x.qg.length vS, .int .i64 (kk + (cnt x.qf : Nat))] rfl rfl Tryz.call57 (markRuleS_ok w3 x.qg (kk + (cnt x.qf : Nat)) vT vS QV (H.get 1 rfl).1 (yz N 1 rfl) ((H.get 1 rfl).2 rfl) (by omega) (by omega)) ?_)
 rintro _ w8 ⟨rfl, m12⟩ x10
 obtain ⟨W9, C11, H⟩ := H.chgAt N 1 rfl (isF true QV (.slice vT x.qg.length vS) (mrk x.qg (kk + (cnt x.qf : Nat)))) rfl x10 m12
 replace C := C.trans (C11.mono (by intro z hz; have hz : z ∈ QV := hz; simp [hz]))
 replace H : St _ _ _ [isF true jI (.slice zA x.qf.length zx) (mrk x.qf kk), isF true QV (.slice vT x.qg.length vS) (mrk x.qg (kk + (cnt x.qf : Nat)))] := H
 refine sp (.int .i64 (kk + (cnt x.qf : Nat) + (cnt x.qg : Nat))) ?_
 refine qw (t_n (qm (qy ?_)))
 refine sps [.int .i64 (kk + (cnt x.qf : Nat) + (cnt x.qg : Nat)), .int .i64 (kk + (cnt x.qf : Nat) + (cnt x.qg : Nat))] ?_
 refine qw (t_n (xx ?_))
 simp_all
 refine ret1 (.int .i64 (kk + (cnt x.qf : Nat) + (cnt x.qg : Nat))) rfl rfl ⟨_, rfl, ⟨?_, H.get 0 rfl, H.get 1 rfl⟩, C.trans (Chg.ofExt H.base)⟩
 first | rfl | (refine congrArg (Value.int .i64) ?_; rw [XQ]; omega)

theorem markState_ok (w : World) (x : qP) (kk : Int) (vN : Option Addr) (vM : Nat) (QJ : List Nat) (jL : Option Addr) (jK : Nat) (XK : List Nat) (zS : Option Addr) (zO : Nat) (yx : List Nat) (Vf : qQ.rep w QJ [.slice vN x.qh.length vM] x.qh) (hxBags : qQ.rep w XK [.slice jL x.qx.length jK] x.qx) (Xa : qQ.rep w yx [.slice zS x.ql.length zO] x.ql) (nd : (QJ ++ XK ++ yx).Nodup) (fr : zU w (QJ ++ XK ++ yx)) (p0 : 0 ≤ kk) (p1 : kk + (cnt x.qh : Nat) + (cnt x.qx : Nat) + (cnt x.ql : Nat) ≤ 4611686018427387904) : Calls Tryz.prog 18 #[.agg #[.slice vN x.qh.length vM, .slice jL x.qx.length jK, .slice zS x.ql.length zO], .int .i64 kk] w (RetM (fun v w' => v = .int .i64 (kk + (cnt x.qh : Nat) + (cnt x.qx : Nat) + (cnt x.ql : Nat)) ∧ (isF true QJ (.slice vN x.qh.length vM) (mrk x.qh kk)).φ w' ∧ (isF true XK (.slice jL x.qx.length jK) (mrk x.qx (kk + (cnt x.qh : Nat)))).φ w' ∧ (isF true yx (.slice zS x.ql.length zO) (mrk x.ql (kk + (cnt x.qh : Nat) + (cnt x.qx : Nat)))).φ w') (QJ ++ XK ++ yx) w) := by
 refine enter (n := 18) Tryz.func18 rfl Tryz.ntmps18 (Nat.le_of_ble_eq_true rfl) ?_
 have H := St.start w
 replace H := H.add (isF true yx (.slice zS x.ql.length zO) x.ql) ⟨Xa, fun _ => fr.sub (by intro z hz; simp [hz])⟩ (Vm Xa)
 replace H := H.add (isF true XK (.slice jL x.qx.length jK) x.qx) ⟨hxBags, fun _ => fr.sub (by intro z hz; simp [hz])⟩ (Vm hxBags)
 replace H := H.add (isF true QJ (.slice vN x.qh.length vM) x.qh) ⟨Vf, fun _ => fr.sub (by intro z hz; simp [hz])⟩ (Vm Vf)
 have nhxAlive := qJ Vf
 have nhxBags := qJ hxBags
 have nhxAround := qJ Xa
 clear Vf hxBags Xa
 have C : Chg (QJ ++ XK ++ yx) w w := Chg.refl _ _
 have N : ([QJ, XK, yx] : List (List Nat)).flatten.Nodup := by simpa using nd
 refine qm (qy ?_)
 refine sw (o_box H (.agg #[.slice vN x.qh.length vM, .slice jL x.qx.length jK, .slice zS x.ql.length zO]) rfl fun b1 w2 H => ?_)
 replace H : St _ _ [.box b1 [.slice vN x.qh.length vM, .slice jL x.qx.length jK, .slice zS x.ql.length zO] 38] _ := H
 refine sp (.int .i64 0) ?_
 refine qw (t_n (qm (qy ?_)))
 refine sw (qM b1 (0) 0 Tryz.underlying38 rfl rfl Tryz.sizeOf26 rfl ?_)
 refine sw (qE (.slice vN x.qh.length vM) Tryz.isAgg26 rfl (H.cell 0 rfl rfl) ?_)
 refine sp (.int .i64 kk) ?_
 refine sw (Xo #[.slice vN x.qh.length vM, .int .i64 kk] rfl rfl Tryz.call58 (markBoolS_ok w2 x.qh kk vN vM QJ (H.get 0 rfl).1 (yz N 0 rfl) ((H.get 0 rfl).2 rfl) (by omega) (by omega)) ?_)
 rintro _ w3 ⟨rfl, m7⟩ x5
 obtain ⟨W4, C6, H⟩ := H.chgAt N 0 rfl (isF true QJ (.slice vN x.qh.length vM) (mrk x.qh kk)) rfl x5 m7
 replace C := C.trans (C6.mono (by intro z hz; have hz : z ∈ QJ := hz; simp [hz]))
 replace H : St _ _ _ [isF true QJ (.slice vN x.qh.length vM) (mrk x.qh kk), isF true XK (.slice jL x.qx.length jK) x.qx, isF true yx (.slice zS x.ql.length zO) x.ql] := H
 refine sp (.int .i64 (kk + (cnt x.qh : Nat))) ?_
 refine qw (t_n (qm (qy ?_)))
 refine sw (qM b1 (0) 1 Tryz.underlying38 rfl rfl Tryz.sizeOf27 rfl ?_)
 refine sw (qE (.slice jL x.qx.length jK) Tryz.isAgg27 rfl (H.cell 0 rfl rfl) ?_)
 refine sp (.int .i64 (kk + (cnt x.qh : Nat))) ?_
 refine sw (Xo #[.slice jL x.qx.length jK, .int .i64 (kk + (cnt x.qh : Nat))] rfl rfl Tryz.call19 (markInt64SS_ok w3 x.qx (kk + (cnt x.qh : Nat)) jL jK XK (H.get 1 rfl).1 (yz N 1 rfl) ((H.get 1 rfl).2 rfl) (by omega) (by omega)) ?_)
 rintro _ w8 ⟨rfl, m12⟩ x10
 obtain ⟨W9, C11, H⟩ := H.chgAt N 1 rfl (isF true XK (.slice jL x.qx.length jK) (mrk x.qx (kk + (cnt x.qh : Nat)))) rfl x10 m12
 replace C := C.trans (C11.mono (by intro z hz; have hz : z ∈ XK := hz; simp [hz]))
 replace H : St _ _ _ [isF true QJ (.slice vN x.qh.length vM) (mrk x.qh kk), isF true XK (.slice jL x.qx.length jK) (mrk x.qx (kk + (cnt x.qh : Nat))), isF true yx (.slice zS x.ql.length zO) x.ql] := H
 refine sp (.int .i64 (kk + (cnt x.qh : Nat) + (cnt x.qx : Nat))) ?_
 refine qw (t_n (qm (qy ?_)))
 refine sw (qM b1 (0) 2 Tryz.underlying38 rfl rfl Tryz.sizeOf22 rfl ?_)
 refine sw (qE (.slice zS x.ql.length zO) Tryz.isAgg22 rfl (H.cell 0 rfl rfl) ?_)
 refine sp (.int .i64 (kk + (cnt x.qh : Nat) + (cnt x.qx : Nat))) ?_
 refine sw (Xo #[.slice zS x.ql.length zO, .int .i64 (kk + (cnt x.qh : Nat) + (cnt x.qx : Nat))] rfl rfl Tryz.call28 (yT w8 x.ql (kk + (cnt x.qh : Nat) + (cnt x.qx : Nat)) zS zO yx (H.get 2 rfl).1 (yz N 2 rfl) ((H.get 2 rfl).2 rfl) (by omega) (by omega)) ?_)
 rintro _ w13 ⟨rfl, m17⟩ x15
 obtain ⟨W14, C16, H⟩ := H.chgAt N 2 rfl (isF true yx (.slice zS x.ql.length zO) (mrk x.ql (kk + (cnt x.qh : Nat) + (cnt x.qx : Nat)))) rfl x15 m17
 replace C := C.trans (C16.mono (by intro z hz; have hz : z ∈ yx := hz; simp [hz]))
 replace H : St _ _ _ [isF true QJ (.slice vN x.qh.length vM) (mrk x.qh kk), isF true XK (.slice jL x.qx.length jK) (mrk x.qx (kk + (cnt x.qh : Nat))), isF true yx (.slice zS x.ql.length zO) (mrk x.ql (kk + (cnt x.qh : Nat) + (cnt x.qx : Nat)))] := H
 refine sp (.int .i64 (kk + (cnt x.qh : Nat) + (cnt x.qx : Nat) + (cnt x.ql : Nat))) ?_
 refine qw (t_n (qm (qy ?_)))
 refine sps [.int .i64 (kk + (cnt x.qh : Nat) + (cnt x.qx : Nat) + (cnt x.ql : Nat)), .int .i64 (kk + (cnt x.qh : Nat) + (cnt x.qx : Nat) + (cnt x.ql : Nat))] ?_
 refine qw (t_n (xx ?_))
 simp_all
 refine ret1 (.int .i64 (kk + (cnt x.qh : Nat) + (cnt x.qx : Nat) + (cnt x.ql : Nat))) rfl rfl ⟨_, rfl, ⟨?_, H.get 0 rfl, H.get 1 rfl, H.get 2 rfl⟩, C.trans (Chg.ofExt H.base)⟩
 first | rfl | (refine congrArg (Value.int .i64) ?_; rw [XQ]; omega)

theorem heldInt64S_ok (w : World) (x : List Int) (kk : Int) (ax : Option Addr) (cx : Nat) (Fx : List Nat) (hx : qQ.rep w Fx [.slice ax x.length cx] x) (m : mkd x kk) (p0 : 0 ≤ kk) (p1 : kk + (cnt x : Nat) ≤ 4611686018427387904) : Calls Tryz.prog 59 #[.slice ax x.length cx, .int .i64 kk] w (Ret (fun v w' => v = .int .i64 (kk + (cnt x : Nat))) w) := by
 refine enter (n := 21) Tryz.func59 rfl Tryz.ntmps59 (Nat.le_of_ble_eq_true rfl) ?_
 have H := (St.start w).arg hx
 have nhx := qJ hx
 clear hx
 refine qm (qy ?_)
 refine sp (.int .i64 0) ?_
 refine qw (t_n (qm (qm (qy ?_))))
 refine sp (.int .i64 0) ?_
 refine qw (t_n (xu ?_))
 refine zG (fun m' ρ w1 => ∃ (junk : Env) (k : Nat) (r : Int), ρ = upd (upd (upd junk 0 (.slice ax x.length cx)) 1 (.int .i64 r)) 5 (.int .i64 k) ∧ (k ≤ x.length) ∧ (r = kk + (Vg x k : Nat)) ∧ m' = x.length - k ∧ St w w1 [] [isF false Fx (.slice ax x.length cx) x]) (x.length - 0) ⟨_, 0, kk, (by exact qj (qj (qj (rfl) rfl) rfl) rfl), (by omega), (by exact (Int.add_zero _).symm), rfl, H⟩ ?_
 clear H
 rintro m' ρ w2 ⟨junk, k, r, rfl, i0, i1, rfl, H⟩
 have hc := fun h => cnt_get (l := x) (k := k) h
 refine qm (qm (qy ?_))
 refine sps [.int .i64 k, .slice ax x.length cx] ?_
 refine sw (zD Tryz.underlying22 ax x.length cx rfl ?_)
 refine sp (.bool (decide ((k : Int) < x.length))) ?_
 refine qw (t_n ?_)
 refine qV (decide ((k : Int) < x.length)) rfl (fun h3 => ?_) (fun h3 => ?_)
 ·skip
  replace h3 := of_decide_eq_true h3
  have m0 := m k (by omega)
  rw [← i1] at m0
  replace m0 : x[k]! = r := m0
  refine xh (t_n (qm (xu (qm (qm (qy ?_))))))
  refine sps [.slice ax x.length cx, .int .i64 k] ?_
  obtain ⟨b4, o5, rfl⟩ := H.addr 0 rfl (by omega)
  refine sw (xJ k Tryz.underlying22 ti2 rfl rfl (by omega) (by omega) ?_)
  refine sw (qE (.int .i64 (x[k]!)) Tryz.isAgg2 rfl (H.vP 0 rfl k (by omega) (by omega)) ?_)
  refine sps [.int .i64 r, .bool ((x[k]! : Int) != r)] ?_
  refine qw (t_n ?_)
  refine qV ((x[k]! : Int) != r) rfl (fun h6 => ?_) (fun h6 => ?_)
  ·skip
   replace h6 := bne_iff_ne.1 h6
   refine qm (qy ?_)
   refine sp (.int .i64 (-1)) ?_
   refine qw (t_n (xx (t_r (b_r (t_r (t_r (b_r (t_r ?_))))))))
   refine ret1 (.int .i64 (-1)) rfl rfl ⟨_, rfl, ?_, H.base⟩
   exfalso; first | omega | (exact absurd ‹_› ‹¬ _›) | simp_all
  replace h6 := xI h6
  refine xh (t_n (qy ?_))
  refine sp (.int .i64 r) ?_
  refine sw (zJ r 1 rfl rfl (by (have := hc (by omega); have e : cnt (x[k]!) = 1 := rfl; omega)) ?_)
  refine sp (.int .i64 (r + 1)) ?_
  refine qw (b_n (t_n (qy ?_)))
  refine sp (.int .i64 k) ?_
  refine sw (zJ k 1 rfl rfl (by (have := hc (by omega); have e : cnt (x[k]!) = 1 := rfl; omega)) ?_)
  refine sp (.int .i64 (k + 1)) ?_
  refine qw ?_
  refine xF (m' := x.length - (k + 1)) (by omega) ⟨_, k + 1, r + 1, (by exact qj (qj (qj (rfl) rfl) rfl) rfl), ?_, ?_, rfl, H⟩
  · omega
  · rw [yc]; have e : cnt (x[k]!) = 1 := rfl; omega
 replace h3 := of_decide_eq_false h3
 refine zy (t_x (t_x (b_x (t_n (qm (qy ?_))))))
 refine sps [.int .i64 r, .int .i64 r] ?_
 refine qw (t_n (xx ?_))
 refine ret1 (.int .i64 r) rfl rfl ⟨_, rfl, ?_, H.base⟩
 first | rfl | (refine congrArg (Value.int .i64) ?_; obtain rfl : k = x.length := (by omega); exact i1)

theorem heldBoolS_ok (w : World) (x : List Bool) (kk : Int) (ax : Option Addr) (cx : Nat) (Fx : List Nat) (hx : qQ.rep w Fx [.slice ax x.length cx] x) (m : mkd x kk) (p0 : 0 ≤ kk) (p1 : kk + (cnt x : Nat) ≤ 4611686018427387904) : Calls Tryz.prog 68 #[.slice ax x.length cx, .int .i64 kk] w (Ret (fun v w' => v = .int .i64 (kk + (cnt x : Nat))) w) := by
 refine enter (n := 23) Tryz.func68 rfl Tryz.ntmps68 (Nat.le_of_ble_eq_true rfl) ?_
 have H := (St.start w).arg hx
 have nhx := qJ hx
 clear hx
 refine qm (qy ?_)
 refine sp (.int .i64 0) ?_
 refine qw (t_n (qm (qm (qy ?_))))
 refine sp (.int .i64 0) ?_
 refine qw (t_n (xu ?_))
 refine zG (fun m' ρ w1 => ∃ (junk : Env) (k : Nat) (r : Int), ρ = upd (upd (upd junk 0 (.slice ax x.length cx)) 1 (.int .i64 r)) 5 (.int .i64 k) ∧ (k ≤ x.length) ∧ (r = kk + (Vg x k : Nat)) ∧ m' = x.length - k ∧ St w w1 [] [isF false Fx (.slice ax x.length cx) x]) (x.length - 0) ⟨_, 0, kk, (by exact qj (qj (qj (rfl) rfl) rfl) rfl), (by omega), (by exact (Int.add_zero _).symm), rfl, H⟩ ?_
 clear H
 rintro m' ρ w2 ⟨junk, k, r, rfl, i0, i1, rfl, H⟩
 have hc := fun h => cnt_get (l := x) (k := k) h
 refine qm (qm (qy ?_))
 refine sps [.int .i64 k, .slice ax x.length cx] ?_
 refine sw (zD Tryz.underlying26 ax x.length cx rfl ?_)
 refine sp (.bool (decide ((k : Int) < x.length))) ?_
 refine qw (t_n ?_)
 refine qV (decide ((k : Int) < x.length)) rfl (fun h3 => ?_) (fun h3 => ?_)
 ·skip
  replace h3 := of_decide_eq_true h3
  have m0 := m k (by omega)
  rw [← i1] at m0
  replace m0 : x[k]! = (r % 3 == 0) := m0
  refine xh (t_n (qm (xu (qm (qm (qy ?_))))))
  refine sps [.slice ax x.length cx, .int .i64 k] ?_
  obtain ⟨b4, o5, rfl⟩ := H.addr 0 rfl (by omega)
  refine sw (xJ k Tryz.underlying26 ti4 rfl rfl (by omega) (by omega) ?_)
  refine sw (qE (.bool (x[k]!)) Tryz.isAgg4 rfl (H.Qg 0 rfl k (by omega) (by omega)) ?_)
  refine sp (.int .i64 r) ?_
  refine sw (o_rem r 3 rfl rfl (by (have := hc (by omega); have e : cnt (x[k]!) = 1 := rfl; omega)) (by omega) (by (have := hc (by omega); have e : cnt (x[k]!) = 1 := rfl; omega)) ?_)
  refine sp (.bool ((r % 3 : Int) == 0)) ?_
  refine sw (o_neB Tryz.underlying4 (x[k]!) ((r % 3 : Int) == 0) rfl rfl ?_)
  refine qw (t_n ?_)
  refine qV ((x[k]!) != ((r % 3 : Int) == 0)) rfl (fun h6 => ?_) (fun h6 => ?_)
  ·skip
   replace h6 := bne_iff_ne.1 h6
   refine qm (qy ?_)
   refine sp (.int .i64 (-1)) ?_
   refine qw (t_n (xx (t_r (b_r (t_r (t_r (b_r (t_r ?_))))))))
   refine ret1 (.int .i64 (-1)) rfl rfl ⟨_, rfl, ?_, H.base⟩
   exfalso; first | omega | (exact absurd ‹_› ‹¬ _›) | simp_all
  replace h6 := xI h6
  refine xh (t_n (qy ?_))
  refine sp (.int .i64 r) ?_
  refine sw (zJ r 1 rfl rfl (by (have := hc (by omega); have e : cnt (x[k]!) = 1 := rfl; omega)) ?_)
  refine sp (.int .i64 (r + 1)) ?_
  refine qw (b_n (t_n (qy ?_)))
  refine sp (.int .i64 k) ?_
  refine sw (zJ k 1 rfl rfl (by (have := hc (by omega); have e : cnt (x[k]!) = 1 := rfl; omega)) ?_)
  refine sp (.int .i64 (k + 1)) ?_
  refine qw ?_
  refine xF (m' := x.length - (k + 1)) (by omega) ⟨_, k + 1, r + 1, (by exact qj (qj (qj (rfl) rfl) rfl) rfl), ?_, ?_, rfl, H⟩
  · omega
  · rw [yc]; have e : cnt (x[k]!) = 1 := rfl; omega
 replace h3 := of_decide_eq_false h3
 refine zy (t_x (t_x (b_x (t_n (qm (qy ?_))))))
 refine sps [.int .i64 r, .int .i64 r] ?_
 refine qw (t_n (xx ?_))
 refine ret1 (.int .i64 r) rfl rfl ⟨_, rfl, ?_, H.base⟩
 first | rfl | (refine congrArg (Value.int .i64) ?_; obtain rfl : k = x.length := (by omega); exact i1)

theorem heldInt64SS_ok (w : World) (x : List (List Int)) (kk : Int) (ax : Option Addr) (cx : Nat) (Fx : List Nat) (hx : qQ.rep w Fx [.slice ax x.length cx] x) (m : mkd x kk) (p0 : 0 ≤ kk) (p1 : kk + (cnt x : Nat) ≤ 4611686018427387904) : Calls Tryz.prog 20 #[.slice ax x.length cx, .int .i64 kk] w (Ret (fun v w' => v = .int .i64 (kk + (cnt x : Nat))) w) := by
 refine enter (n := 21) Tryz.func20 rfl Tryz.ntmps20 (Nat.le_of_ble_eq_true rfl) ?_
 have H := (St.start w).arg hx
 have nhx := qJ hx
 clear hx
 refine qm (qy ?_)
 refine sp (.int .i64 0) ?_
 refine qw (t_n (qm (qm (qy ?_))))
 refine sp (.int .i64 0) ?_
 refine qw (t_n (xu ?_))
 refine zG (fun m' ρ w1 => ∃ (junk : Env) (k : Nat) (r : Int), ρ = upd (upd (upd junk 0 (.slice ax x.length cx)) 1 (.int .i64 r)) 5 (.int .i64 k) ∧ (k ≤ x.length) ∧ (r = kk + (Vg x k : Nat)) ∧ m' = x.length - k ∧ St w w1 [] [isF false Fx (.slice ax x.length cx) x]) (x.length - 0) ⟨_, 0, kk, (by exact qj (qj (qj (rfl) rfl) rfl) rfl), (by omega), (by exact (Int.add_zero _).symm), rfl, H⟩ ?_
 clear H
 rintro m' ρ w2 ⟨junk, k, r, rfl, i0, i1, rfl, H⟩
 have hc := fun h => cnt_get (l := x) (k := k) h
 refine qm (qm (qy ?_))
 refine sps [.int .i64 k, .slice ax x.length cx] ?_
 refine sw (zD Tryz.underlying27 ax x.length cx rfl ?_)
 refine sp (.bool (decide ((k : Int) < x.length))) ?_
 refine qw (t_n ?_)
 refine qV (decide ((k : Int) < x.length)) rfl (fun h3 => ?_) (fun h3 => ?_)
 ·skip
  replace h3 := of_decide_eq_true h3
  have m0 := m k (by omega)
  rw [← i1] at m0
  refine xh (t_n (qm (xu (qm (qy ?_)))))
  refine sps [.slice ax x.length cx, .int .i64 k] ?_
  obtain ⟨b4, o5, rfl⟩ := H.addr 0 rfl (by omega)
  obtain ⟨ae6, ce6, Fe6, H⟩ := H.jC 0 rfl k k (by omega) (by omega) (by omega)
  refine sw (xJ k Tryz.underlying27 ti22 rfl rfl (by omega) (by omega) ?_)
  refine sw (qE (.slice ae6 ((x[k]!).length) ce6) Tryz.isAgg22 rfl (H.xR 1 rfl 0 rfl) ?_)
  refine sp (.int .i64 r) ?_
  refine sw (xf #[.slice ae6 ((x[k]!).length) ce6, .int .i64 r] rfl rfl Tryz.call59 (heldInt64S_ok w2 (x[k]!) r ae6 ce6 Fe6 (H.get 0 rfl).1 (by assumption) (by (have := hc (by omega); skip; omega)) (by (have := hc (by omega); skip; omega))) ?_)
  rintro _ w7 rfl x8
  replace H := H.ext x8
  refine sp (.int .i64 (r + (cnt (x[k]!) : Nat))) ?_
  refine qw (t_n (qm (qy ?_)))
  refine sps [.int .i64 (r + (cnt (x[k]!) : Nat)), .bool (decide ((r + (cnt (x[k]!) : Nat) : Int) < 0))] ?_
  refine qw (t_n ?_)
  refine qV (decide ((r + (cnt (x[k]!) : Nat) : Int) < 0)) rfl (fun h9 => ?_) (fun h9 => ?_)
  ·skip
   replace h9 := of_decide_eq_true h9
   refine qm (qy ?_)
   refine sp (.int .i64 (-1)) ?_
   refine qw (t_n (xx (b_r (t_r (t_r (b_r (t_r ?_)))))))
   refine ret1 (.int .i64 (-1)) rfl rfl ⟨_, rfl, ?_, H.base⟩
   exfalso; first | omega | (exact absurd ‹_› ‹¬ _›) | simp_all
  replace h9 := of_decide_eq_false h9
  refine xh (b_n (t_n (qy ?_)))
  refine sp (.int .i64 k) ?_
  refine sw (zJ k 1 rfl rfl (by (have := hc (by omega); skip; omega)) ?_)
  refine sp (.int .i64 (k + 1)) ?_
  refine qw ?_
  refine xF (m' := x.length - (k + 1)) (by omega) ⟨_, k + 1, r + (cnt (x[k]!) : Nat), (by exact qj (qj (qj (rfl) rfl) rfl) rfl), ?_, ?_, rfl, H.sel _ (.refl _) _ (by simp)⟩
  · omega
  · rw [yc]; skip; omega
 replace h3 := of_decide_eq_false h3
 refine zy (t_x (t_x (b_x (t_n (qm (qy ?_))))))
 refine sps [.int .i64 r, .int .i64 r] ?_
 refine qw (t_n (xx ?_))
 refine ret1 (.int .i64 r) rfl rfl ⟨_, rfl, ?_, H.base⟩
 first | rfl | (refine congrArg (Value.int .i64) ?_; obtain rfl : k = x.length := (by omega); exact i1)

end Go.Proofs.YtkmlihdacnfhdaaGreat
