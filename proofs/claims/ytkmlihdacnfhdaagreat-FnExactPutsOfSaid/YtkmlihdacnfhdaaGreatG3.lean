/- Walks, printed by program (wip/tools/gv.py): what each function comes to, for all arguments. -/
import Derived.Test.YtkmlihdacnfhdaaGreatT1
namespace Go.Proofs.YtkmlihdacnfhdaaGreat
open Go.Proofs.YtkmlihdacnfhdaaGreat.Tot (tot)
open Go.Proofs.YtkmlihdacnfhdaaGreat.Mark (cnt mrk mkd mkd_mark cnt_mark)
open Go.RowKit
set_option linter.unusedVariables false
set_option linter.unusedSimpArgs false
set_option maxRecDepth 100000
set_option maxHeartbeats 4000000



theorem yx (w : World) (x : List Int) (kk : Int) (ax : Option Addr) (cx : Nat) (Fx : List Nat) (hx : qM.rep w Fx [.slice ax x.length cx] x) (nd : Fx.Nodup) (fr : zL w Fx) (p0 : 0 ≤ kk) (p1 : kk + (cnt x : Nat) ≤ 4611686018427387904) : Calls Tryz.prog 28 #[.slice ax x.length cx, .int .i64 kk] w (RetM (fun v w' => v = .int .i64 (kk + (cnt x : Nat)) ∧ (isF true Fx (.slice ax x.length cx) (mrk x kk)).φ w') Fx w) := by
 refine enter (n := 19) Tryz.func28 rfl Tryz.ntmps28 (Nat.le_of_ble_eq_true rfl) ?_
 have H := St.start w
 replace H := H.add (isF true Fx (.slice ax x.length cx) x) ⟨hx, fun _ => fr.sub (by intro z hz; simp [hz])⟩ (start_lt hx)
 have nhx := qJ hx
 clear hx
 have C : Chg Fx w w := Chg.refl _ _
 have N : ([Fx] : List (List Nat)).flatten.Nodup := by simpa using nd
 refine qh (qp ?_)
 refine sp (.int .i64 0) ?_
 refine qo (t_n (qh (qh (qp ?_))))
 refine sp (.int .i64 0) ?_
 refine qo (t_n (xn ?_))
 replace H : St w w [] [isF true Fx (.slice ax x.length cx) (zS x kk 0)] := by rw [markTo_zero]; exact H
 refine zC (fun m' ρ w1 => ∃ (junk : Env) (k : Nat) (r : Int) (W : World), ρ = upd (upd (upd (upd junk 0 (.slice ax x.length cx)) 1 (.int .i64 r)) 4 (.int .i64 0)) 5 (.int .i64 k) ∧ (k ≤ x.length) ∧ (r = kk + (cntTo x k : Nat)) ∧ (Chg Fx w W) ∧ m' = x.length - k ∧ St W w1 [] [isF true Fx (.slice ax x.length cx) (zS x kk k)]) (x.length - 0) ⟨_, 0, kk, w, (by exact qj (qj (qj (qj (rfl) rfl) rfl) rfl) rfl), (by omega), (by exact (Int.add_zero _).symm), (by exact C), rfl, H⟩ ?_
 clear H
 rintro m' ρ w2 ⟨junk, k, r, W, rfl, i0, i1, C, rfl, H⟩
 have hc := fun h => cnt_get (l := x) (k := k) h
 refine qh (qh (qp ?_))
 refine sps [.int .i64 k, .slice ax x.length cx] ?_
 refine sw (zK Tryz.underlying22 ax x.length cx rfl ?_)
 refine sp (.bool (decide ((k : Int) < x.length))) ?_
 refine qo (t_n ?_)
 refine qP (decide ((k : Int) < x.length)) rfl (fun h3 => ?_) (fun h3 => ?_)
 ·skip
  replace h3 := of_decide_eq_true h3
  refine xg (t_n (qh (xn (qh (qp ?_)))))
  refine sps [.slice ax x.length cx, .int .i64 k, .int .i64 r] ?_
  obtain ⟨b4, o5, rfl⟩ := H.addr 0 rfl (by rw [vk _ _ (by omega)]; omega)
  obtain ⟨xs1, xs2, G1, G2, rfl, hx, H, N⟩ := H.open_Int nd k (by rw [vk _ _ (by omega)]; omega) (markTo_get _ _ (by omega))
  refine sw (xE k Tryz.underlying22 ti2 rfl rfl (by omega) (by omega) ?_)
  refine sw (o_storeHole H N _ 0 hx (.int .i64 r) Tryz.sizeOf2 rfl rfl rfl (Nat.le_of_ble_eq_true rfl) fun w6 W7 C8 H => ?_)
  replace C := C.trans (C8.mono (hole_sub _ _ _ _))
  replace H : St _ _ _ [Xj b4 o5 xs1 [.int .i64 r] xs2 G1 G2 ((zS x kk k).take k) ((zS x kk k).drop (k + 1))] := H
  refine qo (t_n (qp ?_))
  refine sp (.int .i64 r) ?_
  refine sw (zD r 1 rfl rfl (by (have := hc (by omega); have e : cnt (x[k]!) = 1 := rfl; omega)) ?_)
  refine sp (.int .i64 (r + 1)) ?_
  refine qo (b_n (t_n (qp ?_)))
  refine sp (.int .i64 k) ?_
  refine sw (zD k 1 rfl rfl (by (have := hc (by omega); have e : cnt (x[k]!) = 1 := rfl; omega)) ?_)
  refine sp (.int .i64 (k + 1)) ?_
  refine qo ?_
  replace H := H.closeAt (y := mrk (x[k]!) r) (m := x.length) (c := cx) ⟨rfl, rfl⟩ (zL.nil _) (by intro z hz; simp at hz) (zS x kk (k + 1)) (by subst i1; exact markTo_step _ _ (by omega)) (vk _ _ (by omega)) (by rw [vk _ _ (by omega)]; exact nhx)
  refine xy (m' := x.length - (k + 1)) (by omega) ⟨_, k + 1, r + 1, W7, (by exact qj (qj (qj (qj (rfl) rfl) rfl) rfl) rfl), ?_, ?_, ?_, rfl, H⟩
  · omega
  · rw [yD]; have e : cnt (x[k]!) = 1 := rfl; omega
  · exact C
 replace h3 := of_decide_eq_false h3
 refine zx (t_x (t_x (b_x (t_n (qh (qp ?_))))))
 refine sps [.int .i64 r, .int .i64 r] ?_
 refine qo (t_n (xh ?_))
 obtain rfl : k = x.length := by omega
 refine ret1 (.int .i64 r) rfl rfl ⟨_, rfl, ⟨?_, H.get 0 rfl⟩, C.trans (Chg.ofExt H.base)⟩
 first | rfl | (refine congrArg (Value.int .i64) ?_; rw [cnt_list]; omega)

theorem markBoolS_ok (w : World) (x : List Bool) (kk : Int) (ax : Option Addr) (cx : Nat) (Fx : List Nat) (hx : qM.rep w Fx [.slice ax x.length cx] x) (nd : Fx.Nodup) (fr : zL w Fx) (p0 : 0 ≤ kk) (p1 : kk + (cnt x : Nat) ≤ 4611686018427387904) : Calls Tryz.prog 58 #[.slice ax x.length cx, .int .i64 kk] w (RetM (fun v w' => v = .int .i64 (kk + (cnt x : Nat)) ∧ (isF true Fx (.slice ax x.length cx) (mrk x kk)).φ w') Fx w) := by
 refine enter (n := 21) Tryz.func58 rfl Tryz.ntmps58 (Nat.le_of_ble_eq_true rfl) ?_
 have H := St.start w
 replace H := H.add (isF true Fx (.slice ax x.length cx) x) ⟨hx, fun _ => fr.sub (by intro z hz; simp [hz])⟩ (start_lt hx)
 have nhx := qJ hx
 clear hx
 have C : Chg Fx w w := Chg.refl _ _
 have N : ([Fx] : List (List Nat)).flatten.Nodup := by simpa using nd
 refine qh (qp ?_)
 refine sp (.int .i64 0) ?_
 refine qo (t_n (qh (qh (qp ?_))))
 refine sp (.int .i64 0) ?_
 refine qo (t_n (xn ?_))
 replace H : St w w [] [isF true Fx (.slice ax x.length cx) (zS x kk 0)] := by rw [markTo_zero]; exact H
 refine zC (fun m' ρ w1 => ∃ (junk : Env) (k : Nat) (r : Int) (W : World), ρ = upd (upd (upd (upd junk 0 (.slice ax x.length cx)) 1 (.int .i64 r)) 4 (.int .i64 0)) 5 (.int .i64 k) ∧ (k ≤ x.length) ∧ (r = kk + (cntTo x k : Nat)) ∧ (Chg Fx w W) ∧ m' = x.length - k ∧ St W w1 [] [isF true Fx (.slice ax x.length cx) (zS x kk k)]) (x.length - 0) ⟨_, 0, kk, w, (by exact qj (qj (qj (qj (rfl) rfl) rfl) rfl) rfl), (by omega), (by exact (Int.add_zero _).symm), (by exact C), rfl, H⟩ ?_
 clear H
 rintro m' ρ w2 ⟨junk, k, r, W, rfl, i0, i1, C, rfl, H⟩
 have hc := fun h => cnt_get (l := x) (k := k) h
 refine qh (qh (qp ?_))
 refine sps [.int .i64 k, .slice ax x.length cx] ?_
 refine sw (zK Tryz.underlying26 ax x.length cx rfl ?_)
 refine sp (.bool (decide ((k : Int) < x.length))) ?_
 refine qo (t_n ?_)
 refine qP (decide ((k : Int) < x.length)) rfl (fun h3 => ?_) (fun h3 => ?_)
 ·skip
  replace h3 := of_decide_eq_true h3
  refine xg (t_n (qh (xn (qh (qp ?_)))))
  refine sps [.slice ax x.length cx, .int .i64 k, .int .i64 r] ?_
  refine sw (o_rem r 3 rfl rfl (by (have := hc (by omega); have e : cnt (x[k]!) = 1 := rfl; omega)) (by omega) (by (have := hc (by omega); have e : cnt (x[k]!) = 1 := rfl; omega)) ?_)
  refine sp (.bool ((r % 3 : Int) == 0)) ?_
  obtain ⟨b4, o5, rfl⟩ := H.addr 0 rfl (by rw [vk _ _ (by omega)]; omega)
  obtain ⟨xs1, xs2, G1, G2, rfl, hx, H, N⟩ := H.open_Bool nd k (by rw [vk _ _ (by omega)]; omega) (markTo_get _ _ (by omega))
  refine sw (xE k Tryz.underlying26 ti4 rfl rfl (by omega) (by omega) ?_)
  refine sw (o_storeHole H N _ 0 hx (.bool ((r % 3 : Int) == 0)) Tryz.sizeOf4 rfl rfl rfl (Nat.le_of_ble_eq_true rfl) fun w6 W7 C8 H => ?_)
  replace C := C.trans (C8.mono (hole_sub _ _ _ _))
  replace H : St _ _ _ [Xj b4 o5 xs1 [.bool ((r % 3 : Int) == 0)] xs2 G1 G2 ((zS x kk k).take k) ((zS x kk k).drop (k + 1))] := H
  refine qo (t_n (qp ?_))
  refine sp (.int .i64 r) ?_
  refine sw (zD r 1 rfl rfl (by (have := hc (by omega); have e : cnt (x[k]!) = 1 := rfl; omega)) ?_)
  refine sp (.int .i64 (r + 1)) ?_
  refine qo (b_n (t_n (qp ?_)))
  refine sp (.int .i64 k) ?_
  refine sw (zD k 1 rfl rfl (by (have := hc (by omega); have e : cnt (x[k]!) = 1 := rfl; omega)) ?_)
  refine sp (.int .i64 (k + 1)) ?_
  refine qo ?_
  replace H := H.closeAt (y := mrk (x[k]!) r) (m := x.length) (c := cx) ⟨rfl, rfl⟩ (zL.nil _) (by intro z hz; simp at hz) (zS x kk (k + 1)) (by subst i1; exact markTo_step _ _ (by omega)) (vk _ _ (by omega)) (by rw [vk _ _ (by omega)]; exact nhx)
  refine xy (m' := x.length - (k + 1)) (by omega) ⟨_, k + 1, r + 1, W7, (by exact qj (qj (qj (qj (rfl) rfl) rfl) rfl) rfl), ?_, ?_, ?_, rfl, H⟩
  · omega
  · rw [yD]; have e : cnt (x[k]!) = 1 := rfl; omega
  · exact C
 replace h3 := of_decide_eq_false h3
 refine zx (t_x (t_x (b_x (t_n (qh (qp ?_))))))
 refine sps [.int .i64 r, .int .i64 r] ?_
 refine qo (t_n (xh ?_))
 obtain rfl : k = x.length := by omega
 refine ret1 (.int .i64 r) rfl rfl ⟨_, rfl, ⟨?_, H.get 0 rfl⟩, C.trans (Chg.ofExt H.base)⟩
 first | rfl | (refine congrArg (Value.int .i64) ?_; rw [cnt_list]; omega)

theorem markInt64SS_ok (w : World) (x : List (List Int)) (kk : Int) (ax : Option Addr) (cx : Nat) (Fx : List Nat) (hx : qM.rep w Fx [.slice ax x.length cx] x) (nd : Fx.Nodup) (fr : zL w Fx) (p0 : 0 ≤ kk) (p1 : kk + (cnt x : Nat) ≤ 4611686018427387904) : Calls Tryz.prog 19 #[.slice ax x.length cx, .int .i64 kk] w (RetM (fun v w' => v = .int .i64 (kk + (cnt x : Nat)) ∧ (isF true Fx (.slice ax x.length cx) (mrk x kk)).φ w') Fx w) := by
 refine enter (n := 19) Tryz.func19 rfl Tryz.ntmps19 (Nat.le_of_ble_eq_true rfl) ?_
 have H := St.start w
 replace H := H.add (isF true Fx (.slice ax x.length cx) x) ⟨hx, fun _ => fr.sub (by intro z hz; simp [hz])⟩ (start_lt hx)
 have nhx := qJ hx
 clear hx
 have C : Chg Fx w w := Chg.refl _ _
 have N : ([Fx] : List (List Nat)).flatten.Nodup := by simpa using nd
 refine qh (qp ?_)
 refine sp (.int .i64 0) ?_
 refine qo (t_n (qh (qh (qp ?_))))
 refine sp (.int .i64 0) ?_
 refine qo (t_n (xn ?_))
 replace H : St w w [] [isF true Fx (.slice ax x.length cx) (zS x kk 0)] := by rw [markTo_zero]; exact H
 refine zC (fun m' ρ w1 => ∃ (junk : Env) (k : Nat) (r : Int) (W : World), ρ = upd (upd (upd (upd junk 0 (.slice ax x.length cx)) 1 (.int .i64 r)) 4 (.int .i64 0)) 5 (.int .i64 k) ∧ (k ≤ x.length) ∧ (r = kk + (cntTo x k : Nat)) ∧ (Chg Fx w W) ∧ m' = x.length - k ∧ St W w1 [] [isF true Fx (.slice ax x.length cx) (zS x kk k)]) (x.length - 0) ⟨_, 0, kk, w, (by exact qj (qj (qj (qj (rfl) rfl) rfl) rfl) rfl), (by omega), (by exact (Int.add_zero _).symm), (by exact C), rfl, H⟩ ?_
 clear H
 rintro m' ρ w2 ⟨junk, k, r, W, rfl, i0, i1, C, rfl, H⟩
 have hc := fun h => cnt_get (l := x) (k := k) h
 refine qh (qh (qp ?_))
 refine sps [.int .i64 k, .slice ax x.length cx] ?_
 refine sw (zK Tryz.underlying27 ax x.length cx rfl ?_)
 refine sp (.bool (decide ((k : Int) < x.length))) ?_
 refine qo (t_n ?_)
 refine qP (decide ((k : Int) < x.length)) rfl (fun h3 => ?_) (fun h3 => ?_)
 ·skip
  replace h3 := of_decide_eq_true h3
  refine xg (t_n (qh (xn (qp ?_))))
  refine sps [.slice ax x.length cx, .int .i64 k] ?_
  obtain ⟨b4, o5, rfl⟩ := H.addr 0 rfl (by rw [vk _ _ (by omega)]; omega)
  obtain ⟨xs1, xs2, G1, G2, aq, cq, Fq, rfl, hx, H, N⟩ := H.open_List nd k (by rw [vk _ _ (by omega)]; omega) (markTo_get _ _ (by omega))
  refine sw (xE k Tryz.underlying27 ti22 rfl rfl (by omega) (by omega) ?_)
  refine sw (qC (.slice aq ((x[k]!).length) cq) Tryz.isAgg22 rfl (H.holeCell _ 0 hx rfl) ?_)
  refine sp (.int .i64 r) ?_
  refine sw (Xf #[.slice aq ((x[k]!).length) cq, .int .i64 r] rfl rfl Tryz.call28 (yx w2 (x[k]!) r aq cq Fq (H.get 1 rfl).1 (yC N 1 rfl) ((H.get 1 rfl).2 rfl) (by (have := hc (by omega); skip; omega)) (by (have := hc (by omega); skip; omega))) ?_)
  rintro _ w6 ⟨rfl, m10⟩ x8
  obtain ⟨W7, C9, H⟩ := H.chgAt N 1 rfl (isF true Fq (.slice aq ((x[k]!).length) cq) (mrk (x[k]!) r)) rfl x8 m10
  replace C := C.trans (C9.mono (by intro z hz; have hz : z ∈ Fq := hz; simp [hz]))
  replace H : St _ _ _ [Xj b4 o5 xs1 [.slice aq ((x[k]!).length) cq] xs2 G1 G2 ((zS x kk k).take k) ((zS x kk k).drop (k + 1)), isF true Fq (.slice aq ((x[k]!).length) cq) (mrk (x[k]!) r)] := H
  refine sp (.int .i64 (r + (cnt (x[k]!) : Nat))) ?_
  refine qo (b_n (t_n (qp ?_)))
  refine sp (.int .i64 k) ?_
  refine sw (zD k 1 rfl rfl (by (have := hc (by omega); skip; omega)) ?_)
  refine sp (.int .i64 (k + 1)) ?_
  refine qo ?_
  replace H := H.closeAt (y := mrk (x[k]!) r) (m := x.length) (c := cx) (H.get 1 rfl).1 ((H.get 1 rfl).2 rfl) (H.ltOwn 1 rfl) (zS x kk (k + 1)) (by subst i1; exact markTo_step _ _ (by omega)) (vk _ _ (by omega)) (by rw [vk _ _ (by omega)]; exact nhx)
  refine xy (m' := x.length - (k + 1)) (by omega) ⟨_, k + 1, r + (cnt (x[k]!) : Nat), W7, (by exact qj (qj (qj (qj (rfl) rfl) rfl) rfl) rfl), ?_, ?_, ?_, rfl, H⟩
  · omega
  · rw [yD]; skip; omega
  · exact C
 replace h3 := of_decide_eq_false h3
 refine zx (t_x (t_x (b_x (t_n (qh (qp ?_))))))
 refine sps [.int .i64 r, .int .i64 r] ?_
 refine qo (t_n (xh ?_))
 obtain rfl : k = x.length := by omega
 refine ret1 (.int .i64 r) rfl rfl ⟨_, rfl, ⟨?_, H.get 0 rfl⟩, C.trans (Chg.ofExt H.base)⟩
 first | rfl | (refine congrArg (Value.int .i64) ?_; rw [cnt_list]; omega)

theorem markIntoS_ok (w : World) (x : List IntoD) (kk : Int) (ax : Option Addr) (cx : Nat) (Fx : List Nat) (hx : qM.rep w Fx [.slice ax x.length cx] x) (nd : Fx.Nodup) (fr : zL w Fx) (p0 : 0 ≤ kk) (p1 : kk + (cnt x : Nat) ≤ 4611686018427387904) : Calls Tryz.prog 105 #[.slice ax x.length cx, .int .i64 kk] w (RetM (fun v w' => v = .int .i64 (kk + (cnt x : Nat)) ∧ (isF true Fx (.slice ax x.length cx) (mrk x kk)).φ w') Fx w) := by
 refine enter (n := 27) Tryz.func105 rfl Tryz.ntmps105 (Nat.le_of_ble_eq_true rfl) ?_
 have H := St.start w
 replace H := H.add (isF true Fx (.slice ax x.length cx) x) ⟨hx, fun _ => fr.sub (by intro z hz; simp [hz])⟩ (start_lt hx)
 have nhx := qJ hx
 clear hx
 have C : Chg Fx w w := Chg.refl _ _
 have N : ([Fx] : List (List Nat)).flatten.Nodup := by simpa using nd
 refine qh (qp ?_)
 refine sp (.int .i64 0) ?_
 refine qo (t_n (qh (qh (qp ?_))))
 refine sp (.int .i64 0) ?_
 refine qo (t_n (xn ?_))
 replace H : St w w [] [isF true Fx (.slice ax x.length cx) (zS x kk 0)] := by rw [markTo_zero]; exact H
 refine zC (fun m' ρ w1 => ∃ (junk : Env) (k : Nat) (r : Int) (W : World), ρ = upd (upd (upd (upd junk 0 (.slice ax x.length cx)) 1 (.int .i64 r)) 4 (.int .i64 0)) 5 (.int .i64 k) ∧ (k ≤ x.length) ∧ (r = kk + (cntTo x k : Nat)) ∧ (Chg Fx w W) ∧ m' = x.length - k ∧ St W w1 [] [isF true Fx (.slice ax x.length cx) (zS x kk k)]) (x.length - 0) ⟨_, 0, kk, w, (by exact qj (qj (qj (qj (rfl) rfl) rfl) rfl) rfl), (by omega), (by exact (Int.add_zero _).symm), (by exact C), rfl, H⟩ ?_
 clear H
 rintro m' ρ w2 ⟨junk, k, r, W, rfl, i0, i1, C, rfl, H⟩
 have hc := fun h => cnt_get (l := x) (k := k) h
 refine qh (qh (qp ?_))
 refine sps [.int .i64 k, .slice ax x.length cx] ?_
 refine sw (zK Tryz.underlying108 ax x.length cx rfl ?_)
 refine sp (.bool (decide ((k : Int) < x.length))) ?_
 refine qo (t_n ?_)
 refine qP (decide ((k : Int) < x.length)) rfl (fun h3 => ?_) (fun h3 => ?_)
 ·skip
  replace h3 := of_decide_eq_true h3
  refine xg (t_n (qh (xn (qh (qp ?_)))))
  refine sps [.slice ax x.length cx, .int .i64 k, .int .i64 r] ?_
  obtain ⟨b4, o5, rfl⟩ := H.addr 0 rfl (by rw [vk _ _ (by omega)]; omega)
  obtain ⟨xs1, xs2, G1, G2, aqBag, cqBag, FqBag, rfl, hx, H, N⟩ := H.open_IntoD nd k (by rw [vk _ _ (by omega)]; omega) (markTo_get _ _ (by omega))
  refine sw (xE k Tryz.underlying108 ti115 rfl rfl (by omega) (by omega) ?_)
  refine sw (qH b4 (o5 + (k : Int).toNat * 2) 0 Tryz.underlying115 rfl rfl Tryz.sizeOf2 rfl ?_)
  refine sw (o_storeHole H N _ 0 hx (.int .i64 r) Tryz.sizeOf2 rfl rfl rfl (Nat.le_of_ble_eq_true rfl) fun w6 W7 C8 H => ?_)
  replace C := C.trans (C8.mono (hole_sub _ _ _ _))
  replace H : St _ _ _ [Xj b4 o5 xs1 [.int .i64 r, .slice aqBag (((x[k]!).zF).length) cqBag] xs2 G1 G2 ((zS x kk k).take k) ((zS x kk k).drop (k + 1)), isF true FqBag (.slice aqBag (((x[k]!).zF).length) cqBag) ((x[k]!).zF)] := H
  refine qo (t_n (qh (qp ?_)))
  refine sp (.int .i64 r) ?_
  refine sw (zD r 1 rfl rfl (by (have := hc (by omega); have e := cnt_IntoD (x[k]!); omega)) ?_)
  refine sp (.int .i64 (r + 1)) ?_
  refine qo (t_n (qp ?_))
  refine sps [.slice (aa b4 o5) x.length cx, .int .i64 k] ?_
  refine sw (xE k Tryz.underlying108 ti115 rfl rfl (by omega) (by omega) ?_)
  refine sw (qH b4 (o5 + (k : Int).toNat * 2) 1 Tryz.underlying115 rfl rfl Tryz.sizeOf22 rfl ?_)
  refine sw (qC (.slice aqBag (((x[k]!).zF).length) cqBag) Tryz.isAgg22 rfl (H.holeCell _ 1 hx rfl) ?_)
  refine sp (.int .i64 (r + 1)) ?_
  refine sw (Xf #[.slice aqBag (((x[k]!).zF).length) cqBag, .int .i64 (r + 1)] rfl rfl Tryz.call28 (yx w6 ((x[k]!).zF) (r + 1) aqBag cqBag FqBag (H.get 1 rfl).1 (yC N 1 rfl) ((H.get 1 rfl).2 rfl) (by (have := hc (by omega); have e := cnt_IntoD (x[k]!); omega)) (by (have := hc (by omega); have e := cnt_IntoD (x[k]!); omega))) ?_)
  rintro _ w9 ⟨rfl, m13⟩ x11
  obtain ⟨W10, C12, H⟩ := H.chgAt N 1 rfl (isF true FqBag (.slice aqBag (((x[k]!).zF).length) cqBag) (mrk ((x[k]!).zF) (r + 1))) rfl x11 m13
  replace C := C.trans (C12.mono (by intro z hz; have hz : z ∈ FqBag := hz; simp [hz]))
  replace H : St _ _ _ [Xj b4 o5 xs1 [.int .i64 r, .slice aqBag (((x[k]!).zF).length) cqBag] xs2 G1 G2 ((zS x kk k).take k) ((zS x kk k).drop (k + 1)), isF true FqBag (.slice aqBag (((x[k]!).zF).length) cqBag) (mrk ((x[k]!).zF) (r + 1))] := H
  refine sp (.int .i64 (r + 1 + (cnt ((x[k]!).zF) : Nat))) ?_
  refine qo (b_n (t_n (qp ?_)))
  refine sp (.int .i64 k) ?_
  refine sw (zD k 1 rfl rfl (by (have := hc (by omega); have e := cnt_IntoD (x[k]!); omega)) ?_)
  refine sp (.int .i64 (k + 1)) ?_
  refine qo ?_
  replace H := H.closeAt (y := mrk (x[k]!) r) (m := x.length) (c := cx) ⟨_, _, rfl, rfl, (H.get 1 rfl).1⟩ ((H.get 1 rfl).2 rfl) (H.ltOwn 1 rfl) (zS x kk (k + 1)) (by subst i1; exact markTo_step _ _ (by omega)) (vk _ _ (by omega)) (by rw [vk _ _ (by omega)]; exact nhx)
  refine xy (m' := x.length - (k + 1)) (by omega) ⟨_, k + 1, r + 1 + (cnt ((x[k]!).zF) : Nat), W10, (by exact qj (qj (qj (qj (rfl) rfl) rfl) rfl) rfl), ?_, ?_, ?_, rfl, H⟩
  · omega
  · rw [yD]; have e := cnt_IntoD (x[k]!); omega
  · exact C
 replace h3 := of_decide_eq_false h3
 refine zx (t_x (t_x (b_x (t_n (qh (qp ?_))))))
 refine sps [.int .i64 r, .int .i64 r] ?_
 refine qo (t_n (xh ?_))
 obtain rfl : k = x.length := by omega
 refine ret1 (.int .i64 r) rfl rfl ⟨_, rfl, ⟨?_, H.get 0 rfl⟩, C.trans (Chg.ofExt H.base)⟩
 first | rfl | (refine congrArg (Value.int .i64) ?_; rw [cnt_list]; omega)

theorem markRuleS_ok (w : World) (x : List yB) (kk : Int) (ax : Option Addr) (cx : Nat) (Fx : List Nat) (hx : qM.rep w Fx [.slice ax x.length cx] x) (nd : Fx.Nodup) (fr : zL w Fx) (p0 : 0 ≤ kk) (p1 : kk + (cnt x : Nat) ≤ 4611686018427387904) : Calls Tryz.prog 57 #[.slice ax x.length cx, .int .i64 kk] w (RetM (fun v w' => v = .int .i64 (kk + (cnt x : Nat)) ∧ (isF true Fx (.slice ax x.length cx) (mrk x kk)).φ w') Fx w) := by
 refine enter (n := 78) Tryz.func57 rfl Tryz.ntmps57 (Nat.le_of_ble_eq_true rfl) ?_
 have H := St.start w
 replace H := H.add (isF true Fx (.slice ax x.length cx) x) ⟨hx, fun _ => fr.sub (by intro z hz; simp [hz])⟩ (start_lt hx)
 have nhx := qJ hx
 clear hx
 have C : Chg Fx w w := Chg.refl _ _
 have N : ([Fx] : List (List Nat)).flatten.Nodup := by simpa using nd
 refine qh (qp ?_)
 refine sp (.int .i64 0) ?_
 refine qo (t_n (qh (qh (qp ?_))))
 refine sp (.int .i64 0) ?_
 refine qo (t_n (xn ?_))
 replace H : St w w [] [isF true Fx (.slice ax x.length cx) (zS x kk 0)] := by rw [markTo_zero]; exact H
 refine zC (fun m' ρ w1 => ∃ (junk : Env) (k : Nat) (r : Int) (W : World), ρ = upd (upd (upd (upd junk 0 (.slice ax x.length cx)) 1 (.int .i64 r)) 4 (.int .i64 0)) 5 (.int .i64 k) ∧ (k ≤ x.length) ∧ (r = kk + (cntTo x k : Nat)) ∧ (Chg Fx w W) ∧ m' = x.length - k ∧ St W w1 [] [isF true Fx (.slice ax x.length cx) (zS x kk k)]) (x.length - 0) ⟨_, 0, kk, w, (by exact qj (qj (qj (qj (rfl) rfl) rfl) rfl) rfl), (by omega), (by exact (Int.add_zero _).symm), (by exact C), rfl, H⟩ ?_
 clear H
 rintro m' ρ w2 ⟨junk, k, r, W, rfl, i0, i1, C, rfl, H⟩
 have hc := fun h => cnt_get (l := x) (k := k) h
 refine qh (qh (qp ?_))
 refine sps [.int .i64 k, .slice ax x.length cx] ?_
 refine sw (zK Tryz.underlying34 ax x.length cx rfl ?_)
 refine sp (.bool (decide ((k : Int) < x.length))) ?_
 refine qo (t_n ?_)
 refine qP (decide ((k : Int) < x.length)) rfl (fun h3 => ?_) (fun h3 => ?_)
 ·skip
  replace h3 := of_decide_eq_true h3
  refine xg (t_n (qh (xn (qh (qp ?_)))))
  refine sps [.slice ax x.length cx, .int .i64 k, .int .i64 r] ?_
  obtain ⟨b4, o5, rfl⟩ := H.addr 0 rfl (by rw [vk _ _ (by omega)]; omega)
  obtain ⟨xs1, xs2, G1, G2, Q9, Q3, FqNeed, Xd, Q8, FqHave, Xa, Q4, FqLack, Xc, Q7, FqHere, aqOut, cqOut, FqOut, Xb, Q5, FqInto, rfl, hx, H, N⟩ := H.open_RuleD nd k (by rw [vk _ _ (by omega)]; omega) (markTo_get _ _ (by omega))
  refine sw (xE k Tryz.underlying34 ti110 rfl rfl (by omega) (by omega) ?_)
  refine sw (qH b4 (o5 + (k : Int).toNat * 9) 0 Tryz.underlying110 rfl rfl Tryz.sizeOf2 rfl ?_)
  refine sw (o_storeHole H N _ 0 hx (.int .i64 r) Tryz.sizeOf2 rfl rfl rfl (Nat.le_of_ble_eq_true rfl) fun w6 W7 C8 H => ?_)
  replace C := C.trans (C8.mono (hole_sub _ _ _ _))
  replace H : St _ _ _ [Xj b4 o5 xs1 [.int .i64 r, .int .i64 ((x[k]!).xM), .slice Q9 (((x[k]!).qI).length) Q3, .slice Xd (((x[k]!).qW).length) Q8, .slice Xa (((x[k]!).qX).length) Q4, .slice Xc (((x[k]!).xe).length) Q7, .slice aqOut (((x[k]!).xO).length) cqOut, .slice Xb (((x[k]!).qx).length) Q5, .bool ((x[k]!).xG)] xs2 G1 G2 ((zS x kk k).take k) ((zS x kk k).drop (k + 1)), isF true FqNeed (.slice Q9 (((x[k]!).qI).length) Q3) ((x[k]!).qI), isF true FqHave (.slice Xd (((x[k]!).qW).length) Q8) ((x[k]!).qW), isF true FqLack (.slice Xa (((x[k]!).qX).length) Q4) ((x[k]!).qX), isF true FqHere (.slice Xc (((x[k]!).xe).length) Q7) ((x[k]!).xe), isF true FqOut (.slice aqOut (((x[k]!).xO).length) cqOut) ((x[k]!).xO), isF true FqInto (.slice Xb (((x[k]!).qx).length) Q5) ((x[k]!).qx)] := H
  refine qo (t_n (qh (qp ?_)))
  refine sp (.int .i64 r) ?_
  refine sw (zD r 1 rfl rfl (by (have := hc (by omega); have e := ji (x[k]!); omega)) ?_)
  refine sp (.int .i64 (r + 1)) ?_
  refine qo (t_n (qh (qp ?_)))
  refine sps [.slice (aa b4 o5) x.length cx, .int .i64 k, .int .i64 (r + 1)] ?_
  refine sw (xE k Tryz.underlying34 ti110 rfl rfl (by omega) (by omega) ?_)
  refine sw (qH b4 (o5 + (k : Int).toNat * 9) 1 Tryz.underlying110 rfl rfl Tryz.sizeOf2 rfl ?_)
  refine sw (o_storeHole H N _ 1 hx (.int .i64 (r + 1)) Tryz.sizeOf2 rfl rfl rfl (Nat.le_of_ble_eq_true rfl) fun w9 W10 C11 H => ?_)
  replace C := C.trans (C11.mono (hole_sub _ _ _ _))
  replace H : St _ _ _ [Xj b4 o5 xs1 [.int .i64 r, .int .i64 (r + 1), .slice Q9 (((x[k]!).qI).length) Q3, .slice Xd (((x[k]!).qW).length) Q8, .slice Xa (((x[k]!).qX).length) Q4, .slice Xc (((x[k]!).xe).length) Q7, .slice aqOut (((x[k]!).xO).length) cqOut, .slice Xb (((x[k]!).qx).length) Q5, .bool ((x[k]!).xG)] xs2 G1 G2 ((zS x kk k).take k) ((zS x kk k).drop (k + 1)), isF true FqNeed (.slice Q9 (((x[k]!).qI).length) Q3) ((x[k]!).qI), isF true FqHave (.slice Xd (((x[k]!).qW).length) Q8) ((x[k]!).qW), isF true FqLack (.slice Xa (((x[k]!).qX).length) Q4) ((x[k]!).qX), isF true FqHere (.slice Xc (((x[k]!).xe).length) Q7) ((x[k]!).xe), isF true FqOut (.slice aqOut (((x[k]!).xO).length) cqOut) ((x[k]!).xO), isF true FqInto (.slice Xb (((x[k]!).qx).length) Q5) ((x[k]!).qx)] := H
  refine qo (t_n (qh (qp ?_)))
  refine sp (.int .i64 (r + 1)) ?_
  refine sw (zD (r + 1) 1 rfl rfl (by (have := hc (by omega); have e := ji (x[k]!); omega)) ?_)
  refine sp (.int .i64 ((r + 1) + 1)) ?_
  refine qo (t_n (qh (qp ?_)))
  refine sps [.slice (aa b4 o5) x.length cx, .int .i64 k] ?_
  refine sw (xE k Tryz.underlying34 ti110 rfl rfl (by omega) (by omega) ?_)
  refine sw (qH b4 (o5 + (k : Int).toNat * 9) 2 Tryz.underlying110 rfl rfl Tryz.sizeOf22 rfl ?_)
  refine sw (qC (.slice Q9 (((x[k]!).qI).length) Q3) Tryz.isAgg22 rfl (H.holeCell _ 2 hx rfl) ?_)
  refine sp (.int .i64 ((r + 1) + 1)) ?_
  refine sw (Xf #[.slice Q9 (((x[k]!).qI).length) Q3, .int .i64 ((r + 1) + 1)] rfl rfl Tryz.call28 (yx w9 ((x[k]!).qI) ((r + 1) + 1) Q9 Q3 FqNeed (H.get 1 rfl).1 (yC N 1 rfl) ((H.get 1 rfl).2 rfl) (by (have := hc (by omega); have e := ji (x[k]!); omega)) (by (have := hc (by omega); have e := ji (x[k]!); omega))) ?_)
  rintro _ w12 ⟨rfl, m16⟩ x14
  obtain ⟨W13, C15, H⟩ := H.chgAt N 1 rfl (isF true FqNeed (.slice Q9 (((x[k]!).qI).length) Q3) (mrk ((x[k]!).qI) ((r + 1) + 1))) rfl x14 m16
  replace C := C.trans (C15.mono (by intro z hz; have hz : z ∈ FqNeed := hz; simp [hz]))
  replace H : St _ _ _ [Xj b4 o5 xs1 [.int .i64 r, .int .i64 (r + 1), .slice Q9 (((x[k]!).qI).length) Q3, .slice Xd (((x[k]!).qW).length) Q8, .slice Xa (((x[k]!).qX).length) Q4, .slice Xc (((x[k]!).xe).length) Q7, .slice aqOut (((x[k]!).xO).length) cqOut, .slice Xb (((x[k]!).qx).length) Q5, .bool ((x[k]!).xG)] xs2 G1 G2 ((zS x kk k).take k) ((zS x kk k).drop (k + 1)), isF true FqNeed (.slice Q9 (((x[k]!).qI).length) Q3) (mrk ((x[k]!).qI) ((r + 1) + 1)), isF true FqHave (.slice Xd (((x[k]!).qW).length) Q8) ((x[k]!).qW), isF true FqLack (.slice Xa (((x[k]!).qX).length) Q4) ((x[k]!).qX), isF true FqHere (.slice Xc (((x[k]!).xe).length) Q7) ((x[k]!).xe), isF true FqOut (.slice aqOut (((x[k]!).xO).length) cqOut) ((x[k]!).xO), isF true FqInto (.slice Xb (((x[k]!).qx).length) Q5) ((x[k]!).qx)] := H
  refine sp (.int .i64 ((r + 1) + 1 + (cnt ((x[k]!).qI) : Nat))) ?_
  refine qo (t_n (qh (qp ?_)))
  refine sps [.slice (aa b4 o5) x.length cx, .int .i64 k] ?_
  refine sw (xE k Tryz.underlying34 ti110 rfl rfl (by omega) (by omega) ?_)
  refine sw (qH b4 (o5 + (k : Int).toNat * 9) 3 Tryz.underlying110 rfl rfl Tryz.sizeOf22 rfl ?_)
  refine sw (qC (.slice Xd (((x[k]!).qW).length) Q8) Tryz.isAgg22 rfl (H.holeCell _ 3 hx rfl) ?_)
  refine sp (.int .i64 ((r + 1) + 1 + (cnt ((x[k]!).qI) : Nat))) ?_
  refine sw (Xf #[.slice Xd (((x[k]!).qW).length) Q8, .int .i64 ((r + 1) + 1 + (cnt ((x[k]!).qI) : Nat))] rfl rfl Tryz.call28 (yx w12 ((x[k]!).qW) ((r + 1) + 1 + (cnt ((x[k]!).qI) : Nat)) Xd Q8 FqHave (H.get 2 rfl).1 (yC N 2 rfl) ((H.get 2 rfl).2 rfl) (by (have := hc (by omega); have e := ji (x[k]!); omega)) (by (have := hc (by omega); have e := ji (x[k]!); omega))) ?_)
  rintro _ w17 ⟨rfl, m21⟩ x19
  obtain ⟨W18, C20, H⟩ := H.chgAt N 2 rfl (isF true FqHave (.slice Xd (((x[k]!).qW).length) Q8) (mrk ((x[k]!).qW) ((r + 1) + 1 + (cnt ((x[k]!).qI) : Nat)))) rfl x19 m21
  replace C := C.trans (C20.mono (by intro z hz; have hz : z ∈ FqHave := hz; simp [hz]))
  replace H : St _ _ _ [Xj b4 o5 xs1 [.int .i64 r, .int .i64 (r + 1), .slice Q9 (((x[k]!).qI).length) Q3, .slice Xd (((x[k]!).qW).length) Q8, .slice Xa (((x[k]!).qX).length) Q4, .slice Xc (((x[k]!).xe).length) Q7, .slice aqOut (((x[k]!).xO).length) cqOut, .slice Xb (((x[k]!).qx).length) Q5, .bool ((x[k]!).xG)] xs2 G1 G2 ((zS x kk k).take k) ((zS x kk k).drop (k + 1)), isF true FqNeed (.slice Q9 (((x[k]!).qI).length) Q3) (mrk ((x[k]!).qI) ((r + 1) + 1)), isF true FqHave (.slice Xd (((x[k]!).qW).length) Q8) (mrk ((x[k]!).qW) ((r + 1) + 1 + (cnt ((x[k]!).qI) : Nat))), isF true FqLack (.slice Xa (((x[k]!).qX).length) Q4) ((x[k]!).qX), isF true FqHere (.slice Xc (((x[k]!).xe).length) Q7) ((x[k]!).xe), isF true FqOut (.slice aqOut (((x[k]!).xO).length) cqOut) ((x[k]!).xO), isF true FqInto (.slice Xb (((x[k]!).qx).length) Q5) ((x[k]!).qx)] := H
  refine sp (.int .i64 ((r + 1) + 1 + (cnt ((x[k]!).qI) : Nat) + (cnt ((x[k]!).qW) : Nat))) ?_
  refine qo (t_n (qh (qp ?_)))
  refine sps [.slice (aa b4 o5) x.length cx, .int .i64 k] ?_
  refine sw (xE k Tryz.underlying34 ti110 rfl rfl (by omega) (by omega) ?_)
  refine sw (qH b4 (o5 + (k : Int).toNat * 9) 4 Tryz.underlying110 rfl rfl Tryz.sizeOf22 rfl ?_)
  refine sw (qC (.slice Xa (((x[k]!).qX).length) Q4) Tryz.isAgg22 rfl (H.holeCell _ 4 hx rfl) ?_)
  refine sp (.int .i64 ((r + 1) + 1 + (cnt ((x[k]!).qI) : Nat) + (cnt ((x[k]!).qW) : Nat))) ?_
  refine sw (Xf #[.slice Xa (((x[k]!).qX).length) Q4, .int .i64 ((r + 1) + 1 + (cnt ((x[k]!).qI) : Nat) + (cnt ((x[k]!).qW) : Nat))] rfl rfl Tryz.call28 (yx w17 ((x[k]!).qX) ((r + 1) + 1 + (cnt ((x[k]!).qI) : Nat) + (cnt ((x[k]!).qW) : Nat)) Xa Q4 FqLack (H.get 3 rfl).1 (yC N 3 rfl) ((H.get 3 rfl).2 rfl) (by (have := hc (by omega); have e := ji (x[k]!); omega)) (by (have := hc (by omega); have e := ji (x[k]!); omega))) ?_)
  rintro _ w22 ⟨rfl, m26⟩ x24
  obtain ⟨W23, C25, H⟩ := H.chgAt N 3 rfl (isF true FqLack (.slice Xa (((x[k]!).qX).length) Q4) (mrk ((x[k]!).qX) ((r + 1) + 1 + (cnt ((x[k]!).qI) : Nat) + (cnt ((x[k]!).qW) : Nat)))) rfl x24 m26
  replace C := C.trans (C25.mono (by intro z hz; have hz : z ∈ FqLack := hz; simp [hz]))
  replace H : St _ _ _ [Xj b4 o5 xs1 [.int .i64 r, .int .i64 (r + 1), .slice Q9 (((x[k]!).qI).length) Q3, .slice Xd (((x[k]!).qW).length) Q8, .slice Xa (((x[k]!).qX).length) Q4, .slice Xc (((x[k]!).xe).length) Q7, .slice aqOut (((x[k]!).xO).length) cqOut, .slice Xb (((x[k]!).qx).length) Q5, .bool ((x[k]!).xG)] xs2 G1 G2 ((zS x kk k).take k) ((zS x kk k).drop (k + 1)), isF true FqNeed (.slice Q9 (((x[k]!).qI).length) Q3) (mrk ((x[k]!).qI) ((r + 1) + 1)), isF true FqHave (.slice Xd (((x[k]!).qW).length) Q8) (mrk ((x[k]!).qW) ((r + 1) + 1 + (cnt ((x[k]!).qI) : Nat))), isF true FqLack (.slice Xa (((x[k]!).qX).length) Q4) (mrk ((x[k]!).qX) ((r + 1) + 1 + (cnt ((x[k]!).qI) : Nat) + (cnt ((x[k]!).qW) : Nat))), isF true FqHere (.slice Xc (((x[k]!).xe).length) Q7) ((x[k]!).xe), isF true FqOut (.slice aqOut (((x[k]!).xO).length) cqOut) ((x[k]!).xO), isF true FqInto (.slice Xb (((x[k]!).qx).length) Q5) ((x[k]!).qx)] := H
  refine sp (.int .i64 ((r + 1) + 1 + (cnt ((x[k]!).qI) : Nat) + (cnt ((x[k]!).qW) : Nat) + (cnt ((x[k]!).qX) : Nat))) ?_
  refine qo (t_n (qh (qp ?_)))
  refine sps [.slice (aa b4 o5) x.length cx, .int .i64 k] ?_
  refine sw (xE k Tryz.underlying34 ti110 rfl rfl (by omega) (by omega) ?_)
  refine sw (qH b4 (o5 + (k : Int).toNat * 9) 5 Tryz.underlying110 rfl rfl Tryz.sizeOf22 rfl ?_)
  refine sw (qC (.slice Xc (((x[k]!).xe).length) Q7) Tryz.isAgg22 rfl (H.holeCell _ 5 hx rfl) ?_)
  refine sp (.int .i64 ((r + 1) + 1 + (cnt ((x[k]!).qI) : Nat) + (cnt ((x[k]!).qW) : Nat) + (cnt ((x[k]!).qX) : Nat))) ?_
  refine sw (Xf #[.slice Xc (((x[k]!).xe).length) Q7, .int .i64 ((r + 1) + 1 + (cnt ((x[k]!).qI) : Nat) + (cnt ((x[k]!).qW) : Nat) + (cnt ((x[k]!).qX) : Nat))] rfl rfl Tryz.call28 (yx w22 ((x[k]!).xe) ((r + 1) + 1 + (cnt ((x[k]!).qI) : Nat) + (cnt ((x[k]!).qW) : Nat) + (cnt ((x[k]!).qX) : Nat)) Xc Q7 FqHere (H.get 4 rfl).1 (yC N 4 rfl) ((H.get 4 rfl).2 rfl) (by (have := hc (by omega); have e := ji (x[k]!); omega)) (by (have := hc (by omega); have e := ji (x[k]!); omega))) ?_)
  rintro _ w27 ⟨rfl, m31⟩ x29
  obtain ⟨W28, C30, H⟩ := H.chgAt N 4 rfl (isF true FqHere (.slice Xc (((x[k]!).xe).length) Q7) (mrk ((x[k]!).xe) ((r + 1) + 1 + (cnt ((x[k]!).qI) : Nat) + (cnt ((x[k]!).qW) : Nat) + (cnt ((x[k]!).qX) : Nat)))) rfl x29 m31
  replace C := C.trans (C30.mono (by intro z hz; have hz : z ∈ FqHere := hz; simp [hz]))
  replace H : St _ _ _ [Xj b4 o5 xs1 [.int .i64 r, .int .i64 (r + 1), .slice Q9 (((x[k]!).qI).length) Q3, .slice Xd (((x[k]!).qW).length) Q8, .slice Xa (((x[k]!).qX).length) Q4, .slice Xc (((x[k]!).xe).length) Q7, .slice aqOut (((x[k]!).xO).length) cqOut, .slice Xb (((x[k]!).qx).length) Q5, .bool ((x[k]!).xG)] xs2 G1 G2 ((zS x kk k).take k) ((zS x kk k).drop (k + 1)), isF true FqNeed (.slice Q9 (((x[k]!).qI).length) Q3) (mrk ((x[k]!).qI) ((r + 1) + 1)), isF true FqHave (.slice Xd (((x[k]!).qW).length) Q8) (mrk ((x[k]!).qW) ((r + 1) + 1 + (cnt ((x[k]!).qI) : Nat))), isF true FqLack (.slice Xa (((x[k]!).qX).length) Q4) (mrk ((x[k]!).qX) ((r + 1) + 1 + (cnt ((x[k]!).qI) : Nat) + (cnt ((x[k]!).qW) : Nat))), isF true FqHere (.slice Xc (((x[k]!).xe).length) Q7) (mrk ((x[k]!).xe) ((r + 1) + 1 + (cnt ((x[k]!).qI) : Nat) + (cnt ((x[k]!).qW) : Nat) + (cnt ((x[k]!).qX) : Nat))), isF true FqOut (.slice aqOut (((x[k]!).xO).length) cqOut) ((x[k]!).xO), isF true FqInto (.slice Xb (((x[k]!).qx).length) Q5) ((x[k]!).qx)] := H
  refine sp (.int .i64 ((r + 1) + 1 + (cnt ((x[k]!).qI) : Nat) + (cnt ((x[k]!).qW) : Nat) + (cnt ((x[k]!).qX) : Nat) + (cnt ((x[k]!).xe) : Nat))) ?_
  refine qo (t_n (qh (qp ?_)))
  refine sps [.slice (aa b4 o5) x.length cx, .int .i64 k] ?_
  refine sw (xE k Tryz.underlying34 ti110 rfl rfl (by omega) (by omega) ?_)
  refine sw (qH b4 (o5 + (k : Int).toNat * 9) 6 Tryz.underlying110 rfl rfl Tryz.sizeOf22 rfl ?_)
  refine sw (qC (.slice aqOut (((x[k]!).xO).length) cqOut) Tryz.isAgg22 rfl (H.holeCell _ 6 hx rfl) ?_)
  refine sp (.int .i64 ((r + 1) + 1 + (cnt ((x[k]!).qI) : Nat) + (cnt ((x[k]!).qW) : Nat) + (cnt ((x[k]!).qX) : Nat) + (cnt ((x[k]!).xe) : Nat))) ?_
  refine sw (Xf #[.slice aqOut (((x[k]!).xO).length) cqOut, .int .i64 ((r + 1) + 1 + (cnt ((x[k]!).qI) : Nat) + (cnt ((x[k]!).qW) : Nat) + (cnt ((x[k]!).qX) : Nat) + (cnt ((x[k]!).xe) : Nat))] rfl rfl Tryz.call28 (yx w27 ((x[k]!).xO) ((r + 1) + 1 + (cnt ((x[k]!).qI) : Nat) + (cnt ((x[k]!).qW) : Nat) + (cnt ((x[k]!).qX) : Nat) + (cnt ((x[k]!).xe) : Nat)) aqOut cqOut FqOut (H.get 5 rfl).1 (yC N 5 rfl) ((H.get 5 rfl).2 rfl) (by (have := hc (by omega); have e := ji (x[k]!); omega)) (by (have := hc (by omega); have e := ji (x[k]!); omega))) ?_)
  rintro _ w32 ⟨rfl, m36⟩ x34
  obtain ⟨W33, C35, H⟩ := H.chgAt N 5 rfl (isF true FqOut (.slice aqOut (((x[k]!).xO).length) cqOut) (mrk ((x[k]!).xO) ((r + 1) + 1 + (cnt ((x[k]!).qI) : Nat) + (cnt ((x[k]!).qW) : Nat) + (cnt ((x[k]!).qX) : Nat) + (cnt ((x[k]!).xe) : Nat)))) rfl x34 m36
  replace C := C.trans (C35.mono (by intro z hz; have hz : z ∈ FqOut := hz; simp [hz]))
  replace H : St _ _ _ [Xj b4 o5 xs1 [.int .i64 r, .int .i64 (r + 1), .slice Q9 (((x[k]!).qI).length) Q3, .slice Xd (((x[k]!).qW).length) Q8, .slice Xa (((x[k]!).qX).length) Q4, .slice Xc (((x[k]!).xe).length) Q7, .slice aqOut (((x[k]!).xO).length) cqOut, .slice Xb (((x[k]!).qx).length) Q5, .bool ((x[k]!).xG)] xs2 G1 G2 ((zS x kk k).take k) ((zS x kk k).drop (k + 1)), isF true FqNeed (.slice Q9 (((x[k]!).qI).length) Q3) (mrk ((x[k]!).qI) ((r + 1) + 1)), isF true FqHave (.slice Xd (((x[k]!).qW).length) Q8) (mrk ((x[k]!).qW) ((r + 1) + 1 + (cnt ((x[k]!).qI) : Nat))), isF true FqLack (.slice Xa (((x[k]!).qX).length) Q4) (mrk ((x[k]!).qX) ((r + 1) + 1 + (cnt ((x[k]!).qI) : Nat) + (cnt ((x[k]!).qW) : Nat))), isF true FqHere (.slice Xc (((x[k]!).xe).length) Q7) (mrk ((x[k]!).xe) ((r + 1) + 1 + (cnt ((x[k]!).qI) : Nat) + (cnt ((x[k]!).qW) : Nat) + (cnt ((x[k]!).qX) : Nat))), isF true FqOut (.slice aqOut (((x[k]!).xO).length) cqOut) (mrk ((x[k]!).xO) ((r + 1) + 1 + (cnt ((x[k]!).qI) : Nat) + (cnt ((x[k]!).qW) : Nat) + (cnt ((x[k]!).qX) : Nat) + (cnt ((x[k]!).xe) : Nat))), isF true FqInto (.slice Xb (((x[k]!).qx).length) Q5) ((x[k]!).qx)] := H
  refine sp (.int .i64 ((r + 1) + 1 + (cnt ((x[k]!).qI) : Nat) + (cnt ((x[k]!).qW) : Nat) + (cnt ((x[k]!).qX) : Nat) + (cnt ((x[k]!).xe) : Nat) + (cnt ((x[k]!).xO) : Nat))) ?_
  refine qo (t_n (qh (qp ?_)))
  refine sps [.slice (aa b4 o5) x.length cx, .int .i64 k] ?_
  refine sw (xE k Tryz.underlying34 ti110 rfl rfl (by omega) (by omega) ?_)
  refine sw (qH b4 (o5 + (k : Int).toNat * 9) 7 Tryz.underlying110 rfl rfl Tryz.sizeOf108 rfl ?_)
  refine sw (qC (.slice Xb (((x[k]!).qx).length) Q5) Tryz.isAgg108 rfl (H.holeCell _ 7 hx rfl) ?_)
  refine sp (.int .i64 ((r + 1) + 1 + (cnt ((x[k]!).qI) : Nat) + (cnt ((x[k]!).qW) : Nat) + (cnt ((x[k]!).qX) : Nat) + (cnt ((x[k]!).xe) : Nat) + (cnt ((x[k]!).xO) : Nat))) ?_
  refine sw (Xf #[.slice Xb (((x[k]!).qx).length) Q5, .int .i64 ((r + 1) + 1 + (cnt ((x[k]!).qI) : Nat) + (cnt ((x[k]!).qW) : Nat) + (cnt ((x[k]!).qX) : Nat) + (cnt ((x[k]!).xe) : Nat) + (cnt ((x[k]!).xO) : Nat))] rfl rfl Tryz.call105 (markIntoS_ok w32 ((x[k]!).qx) ((r + 1) + 1 + (cnt ((x[k]!).qI) : Nat) + (cnt ((x[k]!).qW) : Nat) + (cnt ((x[k]!).qX) : Nat) + (cnt ((x[k]!).xe) : Nat) + (cnt ((x[k]!).xO) : Nat)) Xb Q5 FqInto (H.get 6 rfl).1 (yC N 6 rfl) ((H.get 6 rfl).2 rfl) (by (have := hc (by omega); have e := ji (x[k]!); omega)) (by (have := hc (by omega); have e := ji (x[k]!); omega))) ?_)
  rintro _ w37 ⟨rfl, m41⟩ x39
  obtain ⟨W38, C40, H⟩ := H.chgAt N 6 rfl (isF true FqInto (.slice Xb (((x[k]!).qx).length) Q5) (mrk ((x[k]!).qx) ((r + 1) + 1 + (cnt ((x[k]!).qI) : Nat) + (cnt ((x[k]!).qW) : Nat) + (cnt ((x[k]!).qX) : Nat) + (cnt ((x[k]!).xe) : Nat) + (cnt ((x[k]!).xO) : Nat)))) rfl x39 m41
  replace C := C.trans (C40.mono (by intro z hz; have hz : z ∈ FqInto := hz; simp [hz]))
  replace H : St _ _ _ [Xj b4 o5 xs1 [.int .i64 r, .int .i64 (r + 1), .slice Q9 (((x[k]!).qI).length) Q3, .slice Xd (((x[k]!).qW).length) Q8, .slice Xa (((x[k]!).qX).length) Q4, .slice Xc (((x[k]!).xe).length) Q7, .slice aqOut (((x[k]!).xO).length) cqOut, .slice Xb (((x[k]!).qx).length) Q5, .bool ((x[k]!).xG)] xs2 G1 G2 ((zS x kk k).take k) ((zS x kk k).drop (k + 1)), isF true FqNeed (.slice Q9 (((x[k]!).qI).length) Q3) (mrk ((x[k]!).qI) ((r + 1) + 1)), isF true FqHave (.slice Xd (((x[k]!).qW).length) Q8) (mrk ((x[k]!).qW) ((r + 1) + 1 + (cnt ((x[k]!).qI) : Nat))), isF true FqLack (.slice Xa (((x[k]!).qX).length) Q4) (mrk ((x[k]!).qX) ((r + 1) + 1 + (cnt ((x[k]!).qI) : Nat) + (cnt ((x[k]!).qW) : Nat))), isF true FqHere (.slice Xc (((x[k]!).xe).length) Q7) (mrk ((x[k]!).xe) ((r + 1) + 1 + (cnt ((x[k]!).qI) : Nat) + (cnt ((x[k]!).qW) : Nat) + (cnt ((x[k]!).qX) : Nat))), isF true FqOut (.slice aqOut (((x[k]!).xO).length) cqOut) (mrk ((x[k]!).xO) ((r + 1) + 1 + (cnt ((x[k]!).qI) : Nat) + (cnt ((x[k]!).qW) : Nat) + (cnt ((x[k]!).qX) : Nat) + (cnt ((x[k]!).xe) : Nat))), isF true FqInto (.slice Xb (((x[k]!).qx).length) Q5) (mrk ((x[k]!).qx) ((r + 1) + 1 + (cnt ((x[k]!).qI) : Nat) + (cnt ((x[k]!).qW) : Nat) + (cnt ((x[k]!).qX) : Nat) + (cnt ((x[k]!).xe) : Nat) + (cnt ((x[k]!).xO) : Nat)))] := H
  refine sp (.int .i64 ((r + 1) + 1 + (cnt ((x[k]!).qI) : Nat) + (cnt ((x[k]!).qW) : Nat) + (cnt ((x[k]!).qX) : Nat) + (cnt ((x[k]!).xe) : Nat) + (cnt ((x[k]!).xO) : Nat) + (cnt ((x[k]!).qx) : Nat))) ?_
  refine qo (t_n (qh (qp ?_)))
  refine sps [.slice (aa b4 o5) x.length cx, .int .i64 k, .int .i64 ((r + 1) + 1 + (cnt ((x[k]!).qI) : Nat) + (cnt ((x[k]!).qW) : Nat) + (cnt ((x[k]!).qX) : Nat) + (cnt ((x[k]!).xe) : Nat) + (cnt ((x[k]!).xO) : Nat) + (cnt ((x[k]!).qx) : Nat))] ?_
  refine sw (o_rem ((r + 1) + 1 + (cnt ((x[k]!).qI) : Nat) + (cnt ((x[k]!).qW) : Nat) + (cnt ((x[k]!).qX) : Nat) + (cnt ((x[k]!).xe) : Nat) + (cnt ((x[k]!).xO) : Nat) + (cnt ((x[k]!).qx) : Nat)) 3 rfl rfl (by (have := hc (by omega); have e := ji (x[k]!); omega)) (by omega) (by (have := hc (by omega); have e := ji (x[k]!); omega)) ?_)
  refine sp (.bool ((((r + 1) + 1 + (cnt ((x[k]!).qI) : Nat) + (cnt ((x[k]!).qW) : Nat) + (cnt ((x[k]!).qX) : Nat) + (cnt ((x[k]!).xe) : Nat) + (cnt ((x[k]!).xO) : Nat) + (cnt ((x[k]!).qx) : Nat)) % 3 : Int) == 0)) ?_
  refine sw (xE k Tryz.underlying34 ti110 rfl rfl (by omega) (by omega) ?_)
  refine sw (qH b4 (o5 + (k : Int).toNat * 9) 8 Tryz.underlying110 rfl rfl Tryz.sizeOf4 rfl ?_)
  refine sw (o_storeHole H N _ 8 hx (.bool ((((r + 1) + 1 + (cnt ((x[k]!).qI) : Nat) + (cnt ((x[k]!).qW) : Nat) + (cnt ((x[k]!).qX) : Nat) + (cnt ((x[k]!).xe) : Nat) + (cnt ((x[k]!).xO) : Nat) + (cnt ((x[k]!).qx) : Nat)) % 3 : Int) == 0)) Tryz.sizeOf4 rfl rfl rfl (Nat.le_of_ble_eq_true rfl) fun w42 W43 C44 H => ?_)
  replace C := C.trans (C44.mono (hole_sub _ _ _ _))
  replace H : St _ _ _ [Xj b4 o5 xs1 [.int .i64 r, .int .i64 (r + 1), .slice Q9 (((x[k]!).qI).length) Q3, .slice Xd (((x[k]!).qW).length) Q8, .slice Xa (((x[k]!).qX).length) Q4, .slice Xc (((x[k]!).xe).length) Q7, .slice aqOut (((x[k]!).xO).length) cqOut, .slice Xb (((x[k]!).qx).length) Q5, .bool ((((r + 1) + 1 + (cnt ((x[k]!).qI) : Nat) + (cnt ((x[k]!).qW) : Nat) + (cnt ((x[k]!).qX) : Nat) + (cnt ((x[k]!).xe) : Nat) + (cnt ((x[k]!).xO) : Nat) + (cnt ((x[k]!).qx) : Nat)) % 3 : Int) == 0)] xs2 G1 G2 ((zS x kk k).take k) ((zS x kk k).drop (k + 1)), isF true FqNeed (.slice Q9 (((x[k]!).qI).length) Q3) (mrk ((x[k]!).qI) ((r + 1) + 1)), isF true FqHave (.slice Xd (((x[k]!).qW).length) Q8) (mrk ((x[k]!).qW) ((r + 1) + 1 + (cnt ((x[k]!).qI) : Nat))), isF true FqLack (.slice Xa (((x[k]!).qX).length) Q4) (mrk ((x[k]!).qX) ((r + 1) + 1 + (cnt ((x[k]!).qI) : Nat) + (cnt ((x[k]!).qW) : Nat))), isF true FqHere (.slice Xc (((x[k]!).xe).length) Q7) (mrk ((x[k]!).xe) ((r + 1) + 1 + (cnt ((x[k]!).qI) : Nat) + (cnt ((x[k]!).qW) : Nat) + (cnt ((x[k]!).qX) : Nat))), isF true FqOut (.slice aqOut (((x[k]!).xO).length) cqOut) (mrk ((x[k]!).xO) ((r + 1) + 1 + (cnt ((x[k]!).qI) : Nat) + (cnt ((x[k]!).qW) : Nat) + (cnt ((x[k]!).qX) : Nat) + (cnt ((x[k]!).xe) : Nat))), isF true FqInto (.slice Xb (((x[k]!).qx).length) Q5) (mrk ((x[k]!).qx) ((r + 1) + 1 + (cnt ((x[k]!).qI) : Nat) + (cnt ((x[k]!).qW) : Nat) + (cnt ((x[k]!).qX) : Nat) + (cnt ((x[k]!).xe) : Nat) + (cnt ((x[k]!).xO) : Nat)))] := H
  refine qo (t_n (qp ?_))
  refine sp (.int .i64 ((r + 1) + 1 + (cnt ((x[k]!).qI) : Nat) + (cnt ((x[k]!).qW) : Nat) + (cnt ((x[k]!).qX) : Nat) + (cnt ((x[k]!).xe) : Nat) + (cnt ((x[k]!).xO) : Nat) + (cnt ((x[k]!).qx) : Nat))) ?_
  refine sw (zD ((r + 1) + 1 + (cnt ((x[k]!).qI) : Nat) + (cnt ((x[k]!).qW) : Nat) + (cnt ((x[k]!).qX) : Nat) + (cnt ((x[k]!).xe) : Nat) + (cnt ((x[k]!).xO) : Nat) + (cnt ((x[k]!).qx) : Nat)) 1 rfl rfl (by (have := hc (by omega); have e := ji (x[k]!); omega)) ?_)
  refine sp (.int .i64 (((r + 1) + 1 + (cnt ((x[k]!).qI) : Nat) + (cnt ((x[k]!).qW) : Nat) + (cnt ((x[k]!).qX) : Nat) + (cnt ((x[k]!).xe) : Nat) + (cnt ((x[k]!).xO) : Nat) + (cnt ((x[k]!).qx) : Nat)) + 1)) ?_
  refine qo (b_n (t_n (qp ?_)))
  refine sp (.int .i64 k) ?_
  refine sw (zD k 1 rfl rfl (by (have := hc (by omega); have e := ji (x[k]!); omega)) ?_)
  refine sp (.int .i64 (k + 1)) ?_
  refine qo ?_
  replace H := H.closeAt (y := mrk (x[k]!) r) (m := x.length) (c := cx) ⟨_, _, _, _, _, _, _, _, _, _, _, _, rfl, rfl, (H.get 1 rfl).1, (H.get 2 rfl).1, (H.get 3 rfl).1, (H.get 4 rfl).1, (H.get 5 rfl).1, (H.get 6 rfl).1⟩ (((((((H.get 1 rfl).2 rfl).app ((H.get 2 rfl).2 rfl)).app ((H.get 3 rfl).2 rfl)).app ((H.get 4 rfl).2 rfl)).app ((H.get 5 rfl).2 rfl)).app ((H.get 6 rfl).2 rfl)) (Xi (Xi (Xi (Xi (Xi (H.ltOwn 1 rfl) (H.ltOwn 2 rfl)) (H.ltOwn 3 rfl)) (H.ltOwn 4 rfl)) (H.ltOwn 5 rfl)) (H.ltOwn 6 rfl)) (zS x kk (k + 1)) (by subst i1; exact markTo_step _ _ (by omega)) (vk _ _ (by omega)) (by rw [vk _ _ (by omega)]; exact nhx)
  refine xy (m' := x.length - (k + 1)) (by omega) ⟨_, k + 1, ((r + 1) + 1 + (cnt ((x[k]!).qI) : Nat) + (cnt ((x[k]!).qW) : Nat) + (cnt ((x[k]!).qX) : Nat) + (cnt ((x[k]!).xe) : Nat) + (cnt ((x[k]!).xO) : Nat) + (cnt ((x[k]!).qx) : Nat)) + 1, W43, (by exact qj (qj (qj (qj (rfl) rfl) rfl) rfl) rfl), ?_, ?_, ?_, rfl, H⟩
  · omega
  · rw [yD]; have e := ji (x[k]!); omega
  · exact C
 replace h3 := of_decide_eq_false h3
 refine zx (t_x (t_x (b_x (t_n (qh (qp ?_))))))
 refine sps [.int .i64 r, .int .i64 r] ?_
 refine qo (t_n (xh ?_))
 obtain rfl : k = x.length := by omega
 refine ret1 (.int .i64 r) rfl rfl ⟨_, rfl, ⟨?_, H.get 0 rfl⟩, C.trans (Chg.ofExt H.base)⟩
 first | rfl | (refine congrArg (Value.int .i64) ?_; rw [cnt_list]; omega)

theorem markSystem_ok (w : World) (x : qR) (kk : Int) (zg : Option Addr) (zf : Nat) (vY : List Nat) (zX : Option Addr) (zW : Nat) (yR : List Nat) (yt : qM.rep w vY [.slice zg x.qg.length zf] x.qg) (Xg : qM.rep w yR [.slice zX x.qf.length zW] x.qf) (nd : (vY ++ yR).Nodup) (fr : zL w (vY ++ yR)) (p0 : 0 ≤ kk) (p1 : kk + (cnt x.qg : Nat) + (cnt x.qf : Nat) ≤ 4611686018427387904) : Calls Tryz.prog 17 #[.agg #[.int .i64 x.qF, .slice zg x.qg.length zf, .slice zX x.qf.length zW], .int .i64 kk] w (RetM (fun v w' => v = .int .i64 (kk + (cnt x.qg : Nat) + (cnt x.qf : Nat)) ∧ (isF true vY (.slice zg x.qg.length zf) (mrk x.qg kk)).φ w' ∧ (isF true yR (.slice zX x.qf.length zW) (mrk x.qf (kk + (cnt x.qg : Nat)))).φ w') (vY ++ yR) w) := by
 refine enter (n := 14) Tryz.func17 rfl Tryz.ntmps17 (Nat.le_of_ble_eq_true rfl) ?_
 have H := St.start w
 replace H := H.add (isF true yR (.slice zX x.qf.length zW) x.qf) ⟨Xg, fun _ => fr.sub (by intro z hz; simp [hz])⟩ (start_lt Xg)
 replace H := H.add (isF true vY (.slice zg x.qg.length zf) x.qg) ⟨yt, fun _ => fr.sub (by intro z hz; simp [hz])⟩ (start_lt yt)
 have nhxParents := qJ yt
 have nhxRules := qJ Xg
 clear yt Xg
 have C : Chg (vY ++ yR) w w := Chg.refl _ _
 have N : ([vY, yR] : List (List Nat)).flatten.Nodup := by simpa using nd
 refine qh (qp ?_)
 refine sw (o_box H (.agg #[.int .i64 x.qF, .slice zg x.qg.length zf, .slice zX x.qf.length zW]) rfl fun b1 w2 H => ?_)
 replace H : St _ _ [.box b1 [.int .i64 x.qF, .slice zg x.qg.length zf, .slice zX x.qf.length zW] 36] _ := H
 refine sp (.int .i64 0) ?_
 refine qo (t_n (qh (qp ?_)))
 refine sw (qH b1 (0) 1 Tryz.underlying36 rfl rfl Tryz.sizeOf22 rfl ?_)
 refine sw (qC (.slice zg x.qg.length zf) Tryz.isAgg22 rfl (H.cell 0 rfl rfl) ?_)
 refine sp (.int .i64 kk) ?_
 refine sw (Xf #[.slice zg x.qg.length zf, .int .i64 kk] rfl rfl Tryz.call28 (yx w2 x.qg kk zg zf vY (H.get 0 rfl).1 (yC N 0 rfl) ((H.get 0 rfl).2 rfl) (by omega) (by omega)) ?_)
 rintro _ w3 ⟨rfl, m7⟩ x5
 obtain ⟨W4, C6, H⟩ := H.chgAt N 0 rfl (isF true vY (.slice zg x.qg.length zf) (mrk x.qg kk)) rfl x5 m7
 replace C := C.trans (C6.mono (by intro z hz; have hz : z ∈ vY := hz; simp [hz]))
 replace H : St _ _ _ [isF true vY (.slice zg x.qg.length zf) (mrk x.qg kk), isF true yR (.slice zX x.qf.length zW) x.qf] := H
 refine sp (.int .i64 (kk + (cnt x.qg : Nat))) ?_
 refine qo (t_n (qh (qp ?_)))
 refine sw (qH b1 (0) 2 Tryz.underlying36 rfl rfl Tryz.sizeOf34 rfl ?_)
 refine sw (qC (.slice zX x.qf.length zW) Tryz.isAgg34 rfl (H.cell 0 rfl rfl) ?_)
 refine sp (.int .i64 (kk + (cnt x.qg : Nat))) ?_
 refine sw (Xf #[.slice zX x.qf.length zW, .int .i64 (kk + (cnt x.qg : Nat))] rfl rfl Tryz.call57 (markRuleS_ok w3 x.qf (kk + (cnt x.qg : Nat)) zX zW yR (H.get 1 rfl).1 (yC N 1 rfl) ((H.get 1 rfl).2 rfl) (by omega) (by omega)) ?_)
 rintro _ w8 ⟨rfl, m12⟩ x10
 obtain ⟨W9, C11, H⟩ := H.chgAt N 1 rfl (isF true yR (.slice zX x.qf.length zW) (mrk x.qf (kk + (cnt x.qg : Nat)))) rfl x10 m12
 replace C := C.trans (C11.mono (by intro z hz; have hz : z ∈ yR := hz; simp [hz]))
 replace H : St _ _ _ [isF true vY (.slice zg x.qg.length zf) (mrk x.qg kk), isF true yR (.slice zX x.qf.length zW) (mrk x.qf (kk + (cnt x.qg : Nat)))] := H
 refine sp (.int .i64 (kk + (cnt x.qg : Nat) + (cnt x.qf : Nat))) ?_
 refine qo (t_n (qh (qp ?_)))
 refine sps [.int .i64 (kk + (cnt x.qg : Nat) + (cnt x.qf : Nat)), .int .i64 (kk + (cnt x.qg : Nat) + (cnt x.qf : Nat))] ?_
 refine qo (t_n (xh ?_))
 simp_all
 refine ret1 (.int .i64 (kk + (cnt x.qg : Nat) + (cnt x.qf : Nat))) rfl rfl ⟨_, rfl, ⟨?_, H.get 0 rfl, H.get 1 rfl⟩, C.trans (Chg.ofExt H.base)⟩
 first | rfl | (refine congrArg (Value.int .i64) ?_; rw [cnt_list]; omega)

theorem markState_ok (w : World) (x : xF) (kk : Int) (zV : Option Addr) (zU : Nat) (yI : List Nat) (jb : Option Addr) (ja : Nat) (QJ : List Nat) (zB : Option Addr) (zA : Nat) (jr : List Nat) (Xh : qM.rep w yI [.slice zV x.qy.length zU] x.qy) (hxBags : qM.rep w QJ [.slice jb x.qG.length ja] x.qG) (Qc : qM.rep w jr [.slice zB x.qB.length zA] x.qB) (nd : (yI ++ QJ ++ jr).Nodup) (fr : zL w (yI ++ QJ ++ jr)) (p0 : 0 ≤ kk) (p1 : kk + (cnt x.qy : Nat) + (cnt x.qG : Nat) + (cnt x.qB : Nat) ≤ 4611686018427387904) : Calls Tryz.prog 18 #[.agg #[.slice zV x.qy.length zU, .slice jb x.qG.length ja, .slice zB x.qB.length zA], .int .i64 kk] w (RetM (fun v w' => v = .int .i64 (kk + (cnt x.qy : Nat) + (cnt x.qG : Nat) + (cnt x.qB : Nat)) ∧ (isF true yI (.slice zV x.qy.length zU) (mrk x.qy kk)).φ w' ∧ (isF true QJ (.slice jb x.qG.length ja) (mrk x.qG (kk + (cnt x.qy : Nat)))).φ w' ∧ (isF true jr (.slice zB x.qB.length zA) (mrk x.qB (kk + (cnt x.qy : Nat) + (cnt x.qG : Nat)))).φ w') (yI ++ QJ ++ jr) w) := by
 refine enter (n := 18) Tryz.func18 rfl Tryz.ntmps18 (Nat.le_of_ble_eq_true rfl) ?_
 have H := St.start w
 replace H := H.add (isF true jr (.slice zB x.qB.length zA) x.qB) ⟨Qc, fun _ => fr.sub (by intro z hz; simp [hz])⟩ (start_lt Qc)
 replace H := H.add (isF true QJ (.slice jb x.qG.length ja) x.qG) ⟨hxBags, fun _ => fr.sub (by intro z hz; simp [hz])⟩ (start_lt hxBags)
 replace H := H.add (isF true yI (.slice zV x.qy.length zU) x.qy) ⟨Xh, fun _ => fr.sub (by intro z hz; simp [hz])⟩ (start_lt Xh)
 have nhxAlive := qJ Xh
 have nhxBags := qJ hxBags
 have nhxAround := qJ Qc
 clear Xh hxBags Qc
 have C : Chg (yI ++ QJ ++ jr) w w := Chg.refl _ _
 have N : ([yI, QJ, jr] : List (List Nat)).flatten.Nodup := by simpa using nd
 refine qh (qp ?_)
 refine sw (o_box H (.agg #[.slice zV x.qy.length zU, .slice jb x.qG.length ja, .slice zB x.qB.length zA]) rfl fun b1 w2 H => ?_)
 replace H : St _ _ [.box b1 [.slice zV x.qy.length zU, .slice jb x.qG.length ja, .slice zB x.qB.length zA] 38] _ := H
 refine sp (.int .i64 0) ?_
 refine qo (t_n (qh (qp ?_)))
 refine sw (qH b1 (0) 0 Tryz.underlying38 rfl rfl Tryz.sizeOf26 rfl ?_)
 refine sw (qC (.slice zV x.qy.length zU) Tryz.isAgg26 rfl (H.cell 0 rfl rfl) ?_)
 refine sp (.int .i64 kk) ?_
 refine sw (Xf #[.slice zV x.qy.length zU, .int .i64 kk] rfl rfl Tryz.call58 (markBoolS_ok w2 x.qy kk zV zU yI (H.get 0 rfl).1 (yC N 0 rfl) ((H.get 0 rfl).2 rfl) (by omega) (by omega)) ?_)
 rintro _ w3 ⟨rfl, m7⟩ x5
 obtain ⟨W4, C6, H⟩ := H.chgAt N 0 rfl (isF true yI (.slice zV x.qy.length zU) (mrk x.qy kk)) rfl x5 m7
 replace C := C.trans (C6.mono (by intro z hz; have hz : z ∈ yI := hz; simp [hz]))
 replace H : St _ _ _ [isF true yI (.slice zV x.qy.length zU) (mrk x.qy kk), isF true QJ (.slice jb x.qG.length ja) x.qG, isF true jr (.slice zB x.qB.length zA) x.qB] := H
 refine sp (.int .i64 (kk + (cnt x.qy : Nat))) ?_
 refine qo (t_n (qh (qp ?_)))
 refine sw (qH b1 (0) 1 Tryz.underlying38 rfl rfl Tryz.sizeOf27 rfl ?_)
 refine sw (qC (.slice jb x.qG.length ja) Tryz.isAgg27 rfl (H.cell 0 rfl rfl) ?_)
 refine sp (.int .i64 (kk + (cnt x.qy : Nat))) ?_
 refine sw (Xf #[.slice jb x.qG.length ja, .int .i64 (kk + (cnt x.qy : Nat))] rfl rfl Tryz.call19 (markInt64SS_ok w3 x.qG (kk + (cnt x.qy : Nat)) jb ja QJ (H.get 1 rfl).1 (yC N 1 rfl) ((H.get 1 rfl).2 rfl) (by omega) (by omega)) ?_)
 rintro _ w8 ⟨rfl, m12⟩ x10
 obtain ⟨W9, C11, H⟩ := H.chgAt N 1 rfl (isF true QJ (.slice jb x.qG.length ja) (mrk x.qG (kk + (cnt x.qy : Nat)))) rfl x10 m12
 replace C := C.trans (C11.mono (by intro z hz; have hz : z ∈ QJ := hz; simp [hz]))
 replace H : St _ _ _ [isF true yI (.slice zV x.qy.length zU) (mrk x.qy kk), isF true QJ (.slice jb x.qG.length ja) (mrk x.qG (kk + (cnt x.qy : Nat))), isF true jr (.slice zB x.qB.length zA) x.qB] := H
 refine sp (.int .i64 (kk + (cnt x.qy : Nat) + (cnt x.qG : Nat))) ?_
 refine qo (t_n (qh (qp ?_)))
 refine sw (qH b1 (0) 2 Tryz.underlying38 rfl rfl Tryz.sizeOf22 rfl ?_)
 refine sw (qC (.slice zB x.qB.length zA) Tryz.isAgg22 rfl (H.cell 0 rfl rfl) ?_)
 refine sp (.int .i64 (kk + (cnt x.qy : Nat) + (cnt x.qG : Nat))) ?_
 refine sw (Xf #[.slice zB x.qB.length zA, .int .i64 (kk + (cnt x.qy : Nat) + (cnt x.qG : Nat))] rfl rfl Tryz.call28 (yx w8 x.qB (kk + (cnt x.qy : Nat) + (cnt x.qG : Nat)) zB zA jr (H.get 2 rfl).1 (yC N 2 rfl) ((H.get 2 rfl).2 rfl) (by omega) (by omega)) ?_)
 rintro _ w13 ⟨rfl, m17⟩ x15
 obtain ⟨W14, C16, H⟩ := H.chgAt N 2 rfl (isF true jr (.slice zB x.qB.length zA) (mrk x.qB (kk + (cnt x.qy : Nat) + (cnt x.qG : Nat)))) rfl x15 m17
 replace C := C.trans (C16.mono (by intro z hz; have hz : z ∈ jr := hz; simp [hz]))
 replace H : St _ _ _ [isF true yI (.slice zV x.qy.length zU) (mrk x.qy kk), isF true QJ (.slice jb x.qG.length ja) (mrk x.qG (kk + (cnt x.qy : Nat))), isF true jr (.slice zB x.qB.length zA) (mrk x.qB (kk + (cnt x.qy : Nat) + (cnt x.qG : Nat)))] := H
 refine sp (.int .i64 (kk + (cnt x.qy : Nat) + (cnt x.qG : Nat) + (cnt x.qB : Nat))) ?_
 refine qo (t_n (qh (qp ?_)))
 refine sps [.int .i64 (kk + (cnt x.qy : Nat) + (cnt x.qG : Nat) + (cnt x.qB : Nat)), .int .i64 (kk + (cnt x.qy : Nat) + (cnt x.qG : Nat) + (cnt x.qB : Nat))] ?_
 refine qo (t_n (xh ?_))
 simp_all
 refine ret1 (.int .i64 (kk + (cnt x.qy : Nat) + (cnt x.qG : Nat) + (cnt x.qB : Nat))) rfl rfl ⟨_, rfl, ⟨?_, H.get 0 rfl, H.get 1 rfl, H.get 2 rfl⟩, C.trans (Chg.ofExt H.base)⟩
 first | rfl | (refine congrArg (Value.int .i64) ?_; rw [cnt_list]; omega)

theorem heldInt64S_ok (w : World) (x : List Int) (kk : Int) (ax : Option Addr) (cx : Nat) (Fx : List Nat) (hx : qM.rep w Fx [.slice ax x.length cx] x) (m : mkd x kk) (p0 : 0 ≤ kk) (p1 : kk + (cnt x : Nat) ≤ 4611686018427387904) : Calls Tryz.prog 59 #[.slice ax x.length cx, .int .i64 kk] w (Ret (fun v w' => v = .int .i64 (kk + (cnt x : Nat))) w) := by
 refine enter (n := 21) Tryz.func59 rfl Tryz.ntmps59 (Nat.le_of_ble_eq_true rfl) ?_
 have H := (St.start w).arg hx
 have nhx := qJ hx
 clear hx
 refine qh (qp ?_)
 refine sp (.int .i64 0) ?_
 refine qo (t_n (qh (qh (qp ?_))))
 refine sp (.int .i64 0) ?_
 refine qo (t_n (xn ?_))
 refine zC (fun m' ρ w1 => ∃ (junk : Env) (k : Nat) (r : Int), ρ = upd (upd (upd junk 0 (.slice ax x.length cx)) 1 (.int .i64 r)) 5 (.int .i64 k) ∧ (k ≤ x.length) ∧ (r = kk + (cntTo x k : Nat)) ∧ m' = x.length - k ∧ St w w1 [] [isF false Fx (.slice ax x.length cx) x]) (x.length - 0) ⟨_, 0, kk, (by exact qj (qj (qj (rfl) rfl) rfl) rfl), (by omega), (by exact (Int.add_zero _).symm), rfl, H⟩ ?_
 clear H
 rintro m' ρ w2 ⟨junk, k, r, rfl, i0, i1, rfl, H⟩
 have hc := fun h => cnt_get (l := x) (k := k) h
 refine qh (qh (qp ?_))
 refine sps [.int .i64 k, .slice ax x.length cx] ?_
 refine sw (zK Tryz.underlying22 ax x.length cx rfl ?_)
 refine sp (.bool (decide ((k : Int) < x.length))) ?_
 refine qo (t_n ?_)
 refine qP (decide ((k : Int) < x.length)) rfl (fun h3 => ?_) (fun h3 => ?_)
 ·skip
  replace h3 := of_decide_eq_true h3
  have m0 := m k (by omega)
  rw [← i1] at m0
  replace m0 : x[k]! = r := m0
  refine xg (t_n (qh (xn (qh (qh (qp ?_))))))
  refine sps [.slice ax x.length cx, .int .i64 k] ?_
  obtain ⟨b4, o5, rfl⟩ := H.addr 0 rfl (by omega)
  refine sw (xE k Tryz.underlying22 ti2 rfl rfl (by omega) (by omega) ?_)
  refine sw (qC (.int .i64 (x[k]!)) Tryz.isAgg2 rfl (H.vH 0 rfl k (by omega) (by omega)) ?_)
  refine sps [.int .i64 r, .bool ((x[k]! : Int) != r)] ?_
  refine qo (t_n ?_)
  refine qP ((x[k]! : Int) != r) rfl (fun h6 => ?_) (fun h6 => ?_)
  ·skip
   replace h6 := bne_iff_ne.1 h6
   refine qh (qp ?_)
   refine sp (.int .i64 (-1)) ?_
   refine qo (t_n (xh (t_r (b_r (t_r (t_r (b_r (t_r ?_))))))))
   refine ret1 (.int .i64 (-1)) rfl rfl ⟨_, rfl, ?_, H.base⟩
   exfalso; first | omega | (exact absurd ‹_› ‹¬ _›) | simp_all
  replace h6 := xI h6
  refine xg (t_n (qp ?_))
  refine sp (.int .i64 r) ?_
  refine sw (zD r 1 rfl rfl (by (have := hc (by omega); have e : cnt (x[k]!) = 1 := rfl; omega)) ?_)
  refine sp (.int .i64 (r + 1)) ?_
  refine qo (b_n (t_n (qp ?_)))
  refine sp (.int .i64 k) ?_
  refine sw (zD k 1 rfl rfl (by (have := hc (by omega); have e : cnt (x[k]!) = 1 := rfl; omega)) ?_)
  refine sp (.int .i64 (k + 1)) ?_
  refine qo ?_
  refine xy (m' := x.length - (k + 1)) (by omega) ⟨_, k + 1, r + 1, (by exact qj (qj (qj (rfl) rfl) rfl) rfl), ?_, ?_, rfl, H⟩
  · omega
  · rw [yD]; have e : cnt (x[k]!) = 1 := rfl; omega
 replace h3 := of_decide_eq_false h3
 refine zx (t_x (t_x (b_x (t_n (qh (qp ?_))))))
 refine sps [.int .i64 r, .int .i64 r] ?_
 refine qo (t_n (xh ?_))
 refine ret1 (.int .i64 r) rfl rfl ⟨_, rfl, ?_, H.base⟩
 first | rfl | (refine congrArg (Value.int .i64) ?_; obtain rfl : k = x.length := (by omega); exact i1)

theorem heldInt64SS_ok (w : World) (x : List (List Int)) (kk : Int) (ax : Option Addr) (cx : Nat) (Fx : List Nat) (hx : qM.rep w Fx [.slice ax x.length cx] x) (m : mkd x kk) (p0 : 0 ≤ kk) (p1 : kk + (cnt x : Nat) ≤ 4611686018427387904) : Calls Tryz.prog 20 #[.slice ax x.length cx, .int .i64 kk] w (Ret (fun v w' => v = .int .i64 (kk + (cnt x : Nat))) w) := by
 refine enter (n := 21) Tryz.func20 rfl Tryz.ntmps20 (Nat.le_of_ble_eq_true rfl) ?_
 have H := (St.start w).arg hx
 have nhx := qJ hx
 clear hx
 refine qh (qp ?_)
 refine sp (.int .i64 0) ?_
 refine qo (t_n (qh (qh (qp ?_))))
 refine sp (.int .i64 0) ?_
 refine qo (t_n (xn ?_))
 refine zC (fun m' ρ w1 => ∃ (junk : Env) (k : Nat) (r : Int), ρ = upd (upd (upd junk 0 (.slice ax x.length cx)) 1 (.int .i64 r)) 5 (.int .i64 k) ∧ (k ≤ x.length) ∧ (r = kk + (cntTo x k : Nat)) ∧ m' = x.length - k ∧ St w w1 [] [isF false Fx (.slice ax x.length cx) x]) (x.length - 0) ⟨_, 0, kk, (by exact qj (qj (qj (rfl) rfl) rfl) rfl), (by omega), (by exact (Int.add_zero _).symm), rfl, H⟩ ?_
 clear H
 rintro m' ρ w2 ⟨junk, k, r, rfl, i0, i1, rfl, H⟩
 have hc := fun h => cnt_get (l := x) (k := k) h
 refine qh (qh (qp ?_))
 refine sps [.int .i64 k, .slice ax x.length cx] ?_
 refine sw (zK Tryz.underlying27 ax x.length cx rfl ?_)
 refine sp (.bool (decide ((k : Int) < x.length))) ?_
 refine qo (t_n ?_)
 refine qP (decide ((k : Int) < x.length)) rfl (fun h3 => ?_) (fun h3 => ?_)
 ·skip
  replace h3 := of_decide_eq_true h3
  have m0 := m k (by omega)
  rw [← i1] at m0
  refine xg (t_n (qh (xn (qh (qp ?_)))))
  refine sps [.slice ax x.length cx, .int .i64 k] ?_
  obtain ⟨b4, o5, rfl⟩ := H.addr 0 rfl (by omega)
  obtain ⟨ae6, ce6, Fe6, H⟩ := H.Xk 0 rfl k k (by omega) (by omega) (by omega)
  refine sw (xE k Tryz.underlying27 ti22 rfl rfl (by omega) (by omega) ?_)
  refine sw (qC (.slice ae6 ((x[k]!).length) ce6) Tryz.isAgg22 rfl (H.xU 1 rfl 0 rfl) ?_)
  refine sp (.int .i64 r) ?_
  refine sw (xm #[.slice ae6 ((x[k]!).length) ce6, .int .i64 r] rfl rfl Tryz.call59 (heldInt64S_ok w2 (x[k]!) r ae6 ce6 Fe6 (H.get 0 rfl).1 (by assumption) (by (have := hc (by omega); skip; omega)) (by (have := hc (by omega); skip; omega))) ?_)
  rintro _ w7 rfl x8
  replace H := H.ext x8
  refine sp (.int .i64 (r + (cnt (x[k]!) : Nat))) ?_
  refine qo (t_n (qh (qp ?_)))
  refine sps [.int .i64 (r + (cnt (x[k]!) : Nat)), .bool (decide ((r + (cnt (x[k]!) : Nat) : Int) < 0))] ?_
  refine qo (t_n ?_)
  refine qP (decide ((r + (cnt (x[k]!) : Nat) : Int) < 0)) rfl (fun h9 => ?_) (fun h9 => ?_)
  ·skip
   replace h9 := of_decide_eq_true h9
   refine qh (qp ?_)
   refine sp (.int .i64 (-1)) ?_
   refine qo (t_n (xh (b_r (t_r (t_r (b_r (t_r ?_)))))))
   refine ret1 (.int .i64 (-1)) rfl rfl ⟨_, rfl, ?_, H.base⟩
   exfalso; first | omega | (exact absurd ‹_› ‹¬ _›) | simp_all
  replace h9 := of_decide_eq_false h9
  refine xg (b_n (t_n (qp ?_)))
  refine sp (.int .i64 k) ?_
  refine sw (zD k 1 rfl rfl (by (have := hc (by omega); skip; omega)) ?_)
  refine sp (.int .i64 (k + 1)) ?_
  refine qo ?_
  refine xy (m' := x.length - (k + 1)) (by omega) ⟨_, k + 1, r + (cnt (x[k]!) : Nat), (by exact qj (qj (qj (rfl) rfl) rfl) rfl), ?_, ?_, rfl, H.sel _ (.refl _) _ (by simp)⟩
  · omega
  · rw [yD]; skip; omega
 replace h3 := of_decide_eq_false h3
 refine zx (t_x (t_x (b_x (t_n (qh (qp ?_))))))
 refine sps [.int .i64 r, .int .i64 r] ?_
 refine qo (t_n (xh ?_))
 refine ret1 (.int .i64 r) rfl rfl ⟨_, rfl, ?_, H.base⟩
 first | rfl | (refine congrArg (Value.int .i64) ?_; obtain rfl : k = x.length := (by omega); exact i1)

end Go.Proofs.YtkmlihdacnfhdaaGreat
