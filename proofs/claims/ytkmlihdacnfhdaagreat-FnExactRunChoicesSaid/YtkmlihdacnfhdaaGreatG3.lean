/- Walks, printed by program (wip/tools/gv.py): what each function comes to, for all arguments. -/
import Derived.Test.YtkmlihdacnfhdaaGreatT1
namespace Go.Proofs.YtkmlihdacnfhdaaGreat
open Go.Proofs.YtkmlihdacnfhdaaGreat.Tot (tot)
open Go.Proofs.YtkmlihdacnfhdaaGreat.Mark (cnt mrk mkd mkd_mark cnt_mark)
open Go.RowKit
set_option linter.unusedVariables false
set_option linter.unusedSimpArgs false
set_option maxRecDepth 100000
set_option maxHeartbeats 4000000



theorem QD (w : World) (x : List Int) (kk : Int) (ax : Option Addr) (cx : Nat) (Fx : List Nat) (hx : qV.rep w Fx [.slice ax x.length cx] x) (nd : Fx.Nodup) (fr : vG w Fx) (p0 : 0 ≤ kk) (p1 : kk + (cnt x : Nat) ≤ 4611686018427387904) : Calls Tryz.prog 28 #[.slice ax x.length cx, .int .i64 kk] w (RetM (fun v w' => v = .int .i64 (kk + (cnt x : Nat)) ∧ (isF true Fx (.slice ax x.length cx) (mrk x kk)).φ w') Fx w) := by
 refine enter (n := 19) Tryz.func28 rfl Tryz.ntmps28 (Nat.le_of_ble_eq_true rfl) ?_
 have H := St.start w
 replace H := H.add (isF true Fx (.slice ax x.length cx) x) ⟨hx, fun _ => fr.sub (by intro z hz; simp [hz])⟩ (start_lt hx)
 have nhx := qN hx
 clear hx
 have C : Chg Fx w w := Chg.refl _ _
 have N : ([Fx] : List (List Nat)).flatten.Nodup := by simpa using nd
 refine qm (qA ?_)
 refine sp (.int .i64 0) ?_
 refine qx (t_n (qm (qm (qA ?_))))
 refine sp (.int .i64 0) ?_
 refine qx (t_n (xE ?_))
 replace H : St w w [] [isF true Fx (.slice ax x.length cx) (jk x kk 0)] := by rw [markTo_zero]; exact H
 refine zU (fun m' ρ w1 => ∃ (junk : Env) (k : Nat) (r : Int) (W : World), ρ = upd (upd (upd (upd junk 0 (.slice ax x.length cx)) 1 (.int .i64 r)) 4 (.int .i64 0)) 5 (.int .i64 k) ∧ (k ≤ x.length) ∧ (r = kk + (Vr x k : Nat)) ∧ (Chg Fx w W) ∧ m' = x.length - k ∧ St W w1 [] [isF true Fx (.slice ax x.length cx) (jk x kk k)]) (x.length - 0) ⟨_, 0, kk, w, (by exact qj (qj (qj (qj (rfl) rfl) rfl) rfl) rfl), (by omega), (by exact (Int.add_zero _).symm), (by exact C), rfl, H⟩ ?_
 clear H
 rintro m' ρ w2 ⟨junk, k, r, W, rfl, i0, i1, C, rfl, H⟩
 have hc := fun h => cnt_get (l := x) (k := k) h
 refine qm (qm (qA ?_))
 refine sps [.int .i64 k, .slice ax x.length cx] ?_
 refine sw (zX Tryz.underlying22 ax x.length cx rfl ?_)
 refine sp (.bool (decide ((k : Int) < x.length))) ?_
 refine qx (t_n ?_)
 refine qW (decide ((k : Int) < x.length)) rfl (fun h3 => ?_) (fun h3 => ?_)
 ·skip
  replace h3 := of_decide_eq_true h3
  refine xk (t_n (qm (xE (qm (qA ?_)))))
  refine sps [.slice ax x.length cx, .int .i64 k, .int .i64 r] ?_
  obtain ⟨b4, o5, rfl⟩ := H.addr 0 rfl (by rw [jD _ _ (by omega)]; omega)
  obtain ⟨xs1, xs2, G1, G2, rfl, hx, H, N⟩ := H.open_Int nd k (by rw [jD _ _ (by omega)]; omega) (markTo_get _ _ (by omega))
  refine sw (xK k Tryz.underlying22 ti2 rfl rfl (by omega) (by omega) ?_)
  refine sw (o_storeHole H N _ 0 hx (.int .i64 r) Tryz.sizeOf2 rfl rfl rfl (Nat.le_of_ble_eq_true rfl) fun w6 W7 C8 H => ?_)
  replace C := C.trans (C8.mono (hole_sub _ _ _ _))
  replace H : St _ _ _ [Vf b4 o5 xs1 [.int .i64 r] xs2 G1 G2 ((jk x kk k).take k) ((jk x kk k).drop (k + 1))] := H
  refine qx (t_n (qA ?_))
  refine sp (.int .i64 r) ?_
  refine sw (zZ r 1 rfl rfl (by (have := hc (by omega); have e : cnt (x[k]!) = 1 := rfl; omega)) ?_)
  refine sp (.int .i64 (r + 1)) ?_
  refine qx (b_n (t_n (qA ?_)))
  refine sp (.int .i64 k) ?_
  refine sw (zZ k 1 rfl rfl (by (have := hc (by omega); have e : cnt (x[k]!) = 1 := rfl; omega)) ?_)
  refine sp (.int .i64 (k + 1)) ?_
  refine qx ?_
  replace H := H.closeAt (y := mrk (x[k]!) r) (m := x.length) (c := cx) ⟨rfl, rfl⟩ (vG.nil _) (by intro z hz; simp at hz) (jk x kk (k + 1)) (by subst i1; exact markTo_step _ _ (by omega)) (jD _ _ (by omega)) (by rw [jD _ _ (by omega)]; exact nhx)
  refine xH (m' := x.length - (k + 1)) (by omega) ⟨_, k + 1, r + 1, W7, (by exact qj (qj (qj (qj (rfl) rfl) rfl) rfl) rfl), ?_, ?_, ?_, rfl, H⟩
  · omega
  · rw [y9]; have e : cnt (x[k]!) = 1 := rfl; omega
  · exact C
 replace h3 := of_decide_eq_false h3
 refine zK (t_x (t_x (b_x (t_n (qm (qA ?_))))))
 refine sps [.int .i64 r, .int .i64 r] ?_
 refine qx (t_n (xC ?_))
 obtain rfl : k = x.length := by omega
 refine ret1 (.int .i64 r) rfl rfl ⟨_, rfl, ⟨?_, H.get 0 rfl⟩, C.trans (Chg.ofExt H.base)⟩
 first | rfl | (refine congrArg (Value.int .i64) ?_; rw [cnt_list]; omega)

theorem markBoolS_ok (w : World) (x : List Bool) (kk : Int) (ax : Option Addr) (cx : Nat) (Fx : List Nat) (hx : qV.rep w Fx [.slice ax x.length cx] x) (nd : Fx.Nodup) (fr : vG w Fx) (p0 : 0 ≤ kk) (p1 : kk + (cnt x : Nat) ≤ 4611686018427387904) : Calls Tryz.prog 58 #[.slice ax x.length cx, .int .i64 kk] w (RetM (fun v w' => v = .int .i64 (kk + (cnt x : Nat)) ∧ (isF true Fx (.slice ax x.length cx) (mrk x kk)).φ w') Fx w) := by
 refine enter (n := 21) Tryz.func58 rfl Tryz.ntmps58 (Nat.le_of_ble_eq_true rfl) ?_
 have H := St.start w
 replace H := H.add (isF true Fx (.slice ax x.length cx) x) ⟨hx, fun _ => fr.sub (by intro z hz; simp [hz])⟩ (start_lt hx)
 have nhx := qN hx
 clear hx
 have C : Chg Fx w w := Chg.refl _ _
 have N : ([Fx] : List (List Nat)).flatten.Nodup := by simpa using nd
 refine qm (qA ?_)
 refine sp (.int .i64 0) ?_
 refine qx (t_n (qm (qm (qA ?_))))
 refine sp (.int .i64 0) ?_
 refine qx (t_n (xE ?_))
 replace H : St w w [] [isF true Fx (.slice ax x.length cx) (jk x kk 0)] := by rw [markTo_zero]; exact H
 refine zU (fun m' ρ w1 => ∃ (junk : Env) (k : Nat) (r : Int) (W : World), ρ = upd (upd (upd (upd junk 0 (.slice ax x.length cx)) 1 (.int .i64 r)) 4 (.int .i64 0)) 5 (.int .i64 k) ∧ (k ≤ x.length) ∧ (r = kk + (Vr x k : Nat)) ∧ (Chg Fx w W) ∧ m' = x.length - k ∧ St W w1 [] [isF true Fx (.slice ax x.length cx) (jk x kk k)]) (x.length - 0) ⟨_, 0, kk, w, (by exact qj (qj (qj (qj (rfl) rfl) rfl) rfl) rfl), (by omega), (by exact (Int.add_zero _).symm), (by exact C), rfl, H⟩ ?_
 clear H
 rintro m' ρ w2 ⟨junk, k, r, W, rfl, i0, i1, C, rfl, H⟩
 have hc := fun h => cnt_get (l := x) (k := k) h
 refine qm (qm (qA ?_))
 refine sps [.int .i64 k, .slice ax x.length cx] ?_
 refine sw (zX Tryz.underlying26 ax x.length cx rfl ?_)
 refine sp (.bool (decide ((k : Int) < x.length))) ?_
 refine qx (t_n ?_)
 refine qW (decide ((k : Int) < x.length)) rfl (fun h3 => ?_) (fun h3 => ?_)
 ·skip
  replace h3 := of_decide_eq_true h3
  refine xk (t_n (qm (xE (qm (qA ?_)))))
  refine sps [.slice ax x.length cx, .int .i64 k, .int .i64 r] ?_
  refine sw (o_rem r 3 rfl rfl (by (have := hc (by omega); have e : cnt (x[k]!) = 1 := rfl; omega)) (by omega) (by (have := hc (by omega); have e : cnt (x[k]!) = 1 := rfl; omega)) ?_)
  refine sp (.bool ((r % 3 : Int) == 0)) ?_
  obtain ⟨b4, o5, rfl⟩ := H.addr 0 rfl (by rw [jD _ _ (by omega)]; omega)
  obtain ⟨xs1, xs2, G1, G2, rfl, hx, H, N⟩ := H.open_Bool nd k (by rw [jD _ _ (by omega)]; omega) (markTo_get _ _ (by omega))
  refine sw (xK k Tryz.underlying26 ti4 rfl rfl (by omega) (by omega) ?_)
  refine sw (o_storeHole H N _ 0 hx (.bool ((r % 3 : Int) == 0)) Tryz.sizeOf4 rfl rfl rfl (Nat.le_of_ble_eq_true rfl) fun w6 W7 C8 H => ?_)
  replace C := C.trans (C8.mono (hole_sub _ _ _ _))
  replace H : St _ _ _ [Vf b4 o5 xs1 [.bool ((r % 3 : Int) == 0)] xs2 G1 G2 ((jk x kk k).take k) ((jk x kk k).drop (k + 1))] := H
  refine qx (t_n (qA ?_))
  refine sp (.int .i64 r) ?_
  refine sw (zZ r 1 rfl rfl (by (have := hc (by omega); have e : cnt (x[k]!) = 1 := rfl; omega)) ?_)
  refine sp (.int .i64 (r + 1)) ?_
  refine qx (b_n (t_n (qA ?_)))
  refine sp (.int .i64 k) ?_
  refine sw (zZ k 1 rfl rfl (by (have := hc (by omega); have e : cnt (x[k]!) = 1 := rfl; omega)) ?_)
  refine sp (.int .i64 (k + 1)) ?_
  refine qx ?_
  replace H := H.closeAt (y := mrk (x[k]!) r) (m := x.length) (c := cx) ⟨rfl, rfl⟩ (vG.nil _) (by intro z hz; simp at hz) (jk x kk (k + 1)) (by subst i1; exact markTo_step _ _ (by omega)) (jD _ _ (by omega)) (by rw [jD _ _ (by omega)]; exact nhx)
  refine xH (m' := x.length - (k + 1)) (by omega) ⟨_, k + 1, r + 1, W7, (by exact qj (qj (qj (qj (rfl) rfl) rfl) rfl) rfl), ?_, ?_, ?_, rfl, H⟩
  · omega
  · rw [y9]; have e : cnt (x[k]!) = 1 := rfl; omega
  · exact C
 replace h3 := of_decide_eq_false h3
 refine zK (t_x (t_x (b_x (t_n (qm (qA ?_))))))
 refine sps [.int .i64 r, .int .i64 r] ?_
 refine qx (t_n (xC ?_))
 obtain rfl : k = x.length := by omega
 refine ret1 (.int .i64 r) rfl rfl ⟨_, rfl, ⟨?_, H.get 0 rfl⟩, C.trans (Chg.ofExt H.base)⟩
 first | rfl | (refine congrArg (Value.int .i64) ?_; rw [cnt_list]; omega)

theorem markInt64SS_ok (w : World) (x : List (List Int)) (kk : Int) (ax : Option Addr) (cx : Nat) (Fx : List Nat) (hx : qV.rep w Fx [.slice ax x.length cx] x) (nd : Fx.Nodup) (fr : vG w Fx) (p0 : 0 ≤ kk) (p1 : kk + (cnt x : Nat) ≤ 4611686018427387904) : Calls Tryz.prog 19 #[.slice ax x.length cx, .int .i64 kk] w (RetM (fun v w' => v = .int .i64 (kk + (cnt x : Nat)) ∧ (isF true Fx (.slice ax x.length cx) (mrk x kk)).φ w') Fx w) := by
 refine enter (n := 19) Tryz.func19 rfl Tryz.ntmps19 (Nat.le_of_ble_eq_true rfl) ?_
 have H := St.start w
 replace H := H.add (isF true Fx (.slice ax x.length cx) x) ⟨hx, fun _ => fr.sub (by intro z hz; simp [hz])⟩ (start_lt hx)
 have nhx := qN hx
 clear hx
 have C : Chg Fx w w := Chg.refl _ _
 have N : ([Fx] : List (List Nat)).flatten.Nodup := by simpa using nd
 refine qm (qA ?_)
 refine sp (.int .i64 0) ?_
 refine qx (t_n (qm (qm (qA ?_))))
 refine sp (.int .i64 0) ?_
 refine qx (t_n (xE ?_))
 replace H : St w w [] [isF true Fx (.slice ax x.length cx) (jk x kk 0)] := by rw [markTo_zero]; exact H
 refine zU (fun m' ρ w1 => ∃ (junk : Env) (k : Nat) (r : Int) (W : World), ρ = upd (upd (upd (upd junk 0 (.slice ax x.length cx)) 1 (.int .i64 r)) 4 (.int .i64 0)) 5 (.int .i64 k) ∧ (k ≤ x.length) ∧ (r = kk + (Vr x k : Nat)) ∧ (Chg Fx w W) ∧ m' = x.length - k ∧ St W w1 [] [isF true Fx (.slice ax x.length cx) (jk x kk k)]) (x.length - 0) ⟨_, 0, kk, w, (by exact qj (qj (qj (qj (rfl) rfl) rfl) rfl) rfl), (by omega), (by exact (Int.add_zero _).symm), (by exact C), rfl, H⟩ ?_
 clear H
 rintro m' ρ w2 ⟨junk, k, r, W, rfl, i0, i1, C, rfl, H⟩
 have hc := fun h => cnt_get (l := x) (k := k) h
 refine qm (qm (qA ?_))
 refine sps [.int .i64 k, .slice ax x.length cx] ?_
 refine sw (zX Tryz.underlying27 ax x.length cx rfl ?_)
 refine sp (.bool (decide ((k : Int) < x.length))) ?_
 refine qx (t_n ?_)
 refine qW (decide ((k : Int) < x.length)) rfl (fun h3 => ?_) (fun h3 => ?_)
 ·skip
  replace h3 := of_decide_eq_true h3
  refine xk (t_n (qm (xE (qA ?_))))
  refine sps [.slice ax x.length cx, .int .i64 k] ?_
  obtain ⟨b4, o5, rfl⟩ := H.addr 0 rfl (by rw [jD _ _ (by omega)]; omega)
  obtain ⟨xs1, xs2, G1, G2, aq, cq, Fq, rfl, hx, H, N⟩ := H.open_List nd k (by rw [jD _ _ (by omega)]; omega) (markTo_get _ _ (by omega))
  refine sw (xK k Tryz.underlying27 ti22 rfl rfl (by omega) (by omega) ?_)
  refine sw (qE (.slice aq ((x[k]!).length) cq) Tryz.isAgg22 rfl (H.holeCell _ 0 hx rfl) ?_)
  refine sp (.int .i64 r) ?_
  refine sw (XH #[.slice aq ((x[k]!).length) cq, .int .i64 r] rfl rfl Tryz.call28 (QD w2 (x[k]!) r aq cq Fq (H.get 1 rfl).1 (QJ N 1 rfl) ((H.get 1 rfl).2 rfl) (by (have := hc (by omega); skip; omega)) (by (have := hc (by omega); skip; omega))) ?_)
  rintro _ w6 ⟨rfl, m10⟩ x8
  obtain ⟨W7, C9, H⟩ := H.chgAt N 1 rfl (isF true Fq (.slice aq ((x[k]!).length) cq) (mrk (x[k]!) r)) rfl x8 m10
  replace C := C.trans (C9.mono (by intro z hz; have hz : z ∈ Fq := hz; simp [hz]))
  replace H : St _ _ _ [Vf b4 o5 xs1 [.slice aq ((x[k]!).length) cq] xs2 G1 G2 ((jk x kk k).take k) ((jk x kk k).drop (k + 1)), isF true Fq (.slice aq ((x[k]!).length) cq) (mrk (x[k]!) r)] := H
  refine sp (.int .i64 (r + (cnt (x[k]!) : Nat))) ?_
  refine qx (b_n (t_n (qA ?_)))
  refine sp (.int .i64 k) ?_
  refine sw (zZ k 1 rfl rfl (by (have := hc (by omega); skip; omega)) ?_)
  refine sp (.int .i64 (k + 1)) ?_
  refine qx ?_
  replace H := H.closeAt (y := mrk (x[k]!) r) (m := x.length) (c := cx) (H.get 1 rfl).1 ((H.get 1 rfl).2 rfl) (H.ltOwn 1 rfl) (jk x kk (k + 1)) (by subst i1; exact markTo_step _ _ (by omega)) (jD _ _ (by omega)) (by rw [jD _ _ (by omega)]; exact nhx)
  refine xH (m' := x.length - (k + 1)) (by omega) ⟨_, k + 1, r + (cnt (x[k]!) : Nat), W7, (by exact qj (qj (qj (qj (rfl) rfl) rfl) rfl) rfl), ?_, ?_, ?_, rfl, H⟩
  · omega
  · rw [y9]; skip; omega
  · exact C
 replace h3 := of_decide_eq_false h3
 refine zK (t_x (t_x (b_x (t_n (qm (qA ?_))))))
 refine sps [.int .i64 r, .int .i64 r] ?_
 refine qx (t_n (xC ?_))
 obtain rfl : k = x.length := by omega
 refine ret1 (.int .i64 r) rfl rfl ⟨_, rfl, ⟨?_, H.get 0 rfl⟩, C.trans (Chg.ofExt H.base)⟩
 first | rfl | (refine congrArg (Value.int .i64) ?_; rw [cnt_list]; omega)

theorem markIntoS_ok (w : World) (x : List IntoD) (kk : Int) (ax : Option Addr) (cx : Nat) (Fx : List Nat) (hx : qV.rep w Fx [.slice ax x.length cx] x) (nd : Fx.Nodup) (fr : vG w Fx) (p0 : 0 ≤ kk) (p1 : kk + (cnt x : Nat) ≤ 4611686018427387904) : Calls Tryz.prog 105 #[.slice ax x.length cx, .int .i64 kk] w (RetM (fun v w' => v = .int .i64 (kk + (cnt x : Nat)) ∧ (isF true Fx (.slice ax x.length cx) (mrk x kk)).φ w') Fx w) := by
 refine enter (n := 27) Tryz.func105 rfl Tryz.ntmps105 (Nat.le_of_ble_eq_true rfl) ?_
 have H := St.start w
 replace H := H.add (isF true Fx (.slice ax x.length cx) x) ⟨hx, fun _ => fr.sub (by intro z hz; simp [hz])⟩ (start_lt hx)
 have nhx := qN hx
 clear hx
 have C : Chg Fx w w := Chg.refl _ _
 have N : ([Fx] : List (List Nat)).flatten.Nodup := by simpa using nd
 refine qm (qA ?_)
 refine sp (.int .i64 0) ?_
 refine qx (t_n (qm (qm (qA ?_))))
 refine sp (.int .i64 0) ?_
 refine qx (t_n (xE ?_))
 replace H : St w w [] [isF true Fx (.slice ax x.length cx) (jk x kk 0)] := by rw [markTo_zero]; exact H
 refine zU (fun m' ρ w1 => ∃ (junk : Env) (k : Nat) (r : Int) (W : World), ρ = upd (upd (upd (upd junk 0 (.slice ax x.length cx)) 1 (.int .i64 r)) 4 (.int .i64 0)) 5 (.int .i64 k) ∧ (k ≤ x.length) ∧ (r = kk + (Vr x k : Nat)) ∧ (Chg Fx w W) ∧ m' = x.length - k ∧ St W w1 [] [isF true Fx (.slice ax x.length cx) (jk x kk k)]) (x.length - 0) ⟨_, 0, kk, w, (by exact qj (qj (qj (qj (rfl) rfl) rfl) rfl) rfl), (by omega), (by exact (Int.add_zero _).symm), (by exact C), rfl, H⟩ ?_
 clear H
 rintro m' ρ w2 ⟨junk, k, r, W, rfl, i0, i1, C, rfl, H⟩
 have hc := fun h => cnt_get (l := x) (k := k) h
 refine qm (qm (qA ?_))
 refine sps [.int .i64 k, .slice ax x.length cx] ?_
 refine sw (zX Tryz.underlying108 ax x.length cx rfl ?_)
 refine sp (.bool (decide ((k : Int) < x.length))) ?_
 refine qx (t_n ?_)
 refine qW (decide ((k : Int) < x.length)) rfl (fun h3 => ?_) (fun h3 => ?_)
 ·skip
  replace h3 := of_decide_eq_true h3
  refine xk (t_n (qm (xE (qm (qA ?_)))))
  refine sps [.slice ax x.length cx, .int .i64 k, .int .i64 r] ?_
  obtain ⟨b4, o5, rfl⟩ := H.addr 0 rfl (by rw [jD _ _ (by omega)]; omega)
  obtain ⟨xs1, xs2, G1, G2, aqBag, cqBag, FqBag, rfl, hx, H, N⟩ := H.open_IntoD nd k (by rw [jD _ _ (by omega)]; omega) (markTo_get _ _ (by omega))
  refine sw (xK k Tryz.underlying108 ti115 rfl rfl (by omega) (by omega) ?_)
  refine sw (qP b4 (o5 + (k : Int).toNat * 2) 0 Tryz.underlying115 rfl rfl Tryz.sizeOf2 rfl ?_)
  refine sw (o_storeHole H N _ 0 hx (.int .i64 r) Tryz.sizeOf2 rfl rfl rfl (Nat.le_of_ble_eq_true rfl) fun w6 W7 C8 H => ?_)
  replace C := C.trans (C8.mono (hole_sub _ _ _ _))
  replace H : St _ _ _ [Vf b4 o5 xs1 [.int .i64 r, .slice aqBag (((x[k]!).vH).length) cqBag] xs2 G1 G2 ((jk x kk k).take k) ((jk x kk k).drop (k + 1)), isF true FqBag (.slice aqBag (((x[k]!).vH).length) cqBag) ((x[k]!).vH)] := H
  refine qx (t_n (qm (qA ?_)))
  refine sp (.int .i64 r) ?_
  refine sw (zZ r 1 rfl rfl (by (have := hc (by omega); have e := cnt_IntoD (x[k]!); omega)) ?_)
  refine sp (.int .i64 (r + 1)) ?_
  refine qx (t_n (qA ?_))
  refine sps [.slice (aa b4 o5) x.length cx, .int .i64 k] ?_
  refine sw (xK k Tryz.underlying108 ti115 rfl rfl (by omega) (by omega) ?_)
  refine sw (qP b4 (o5 + (k : Int).toNat * 2) 1 Tryz.underlying115 rfl rfl Tryz.sizeOf22 rfl ?_)
  refine sw (qE (.slice aqBag (((x[k]!).vH).length) cqBag) Tryz.isAgg22 rfl (H.holeCell _ 1 hx rfl) ?_)
  refine sp (.int .i64 (r + 1)) ?_
  refine sw (XH #[.slice aqBag (((x[k]!).vH).length) cqBag, .int .i64 (r + 1)] rfl rfl Tryz.call28 (QD w6 ((x[k]!).vH) (r + 1) aqBag cqBag FqBag (H.get 1 rfl).1 (QJ N 1 rfl) ((H.get 1 rfl).2 rfl) (by (have := hc (by omega); have e := cnt_IntoD (x[k]!); omega)) (by (have := hc (by omega); have e := cnt_IntoD (x[k]!); omega))) ?_)
  rintro _ w9 ⟨rfl, m13⟩ x11
  obtain ⟨W10, C12, H⟩ := H.chgAt N 1 rfl (isF true FqBag (.slice aqBag (((x[k]!).vH).length) cqBag) (mrk ((x[k]!).vH) (r + 1))) rfl x11 m13
  replace C := C.trans (C12.mono (by intro z hz; have hz : z ∈ FqBag := hz; simp [hz]))
  replace H : St _ _ _ [Vf b4 o5 xs1 [.int .i64 r, .slice aqBag (((x[k]!).vH).length) cqBag] xs2 G1 G2 ((jk x kk k).take k) ((jk x kk k).drop (k + 1)), isF true FqBag (.slice aqBag (((x[k]!).vH).length) cqBag) (mrk ((x[k]!).vH) (r + 1))] := H
  refine sp (.int .i64 (r + 1 + (cnt ((x[k]!).vH) : Nat))) ?_
  refine qx (b_n (t_n (qA ?_)))
  refine sp (.int .i64 k) ?_
  refine sw (zZ k 1 rfl rfl (by (have := hc (by omega); have e := cnt_IntoD (x[k]!); omega)) ?_)
  refine sp (.int .i64 (k + 1)) ?_
  refine qx ?_
  replace H := H.closeAt (y := mrk (x[k]!) r) (m := x.length) (c := cx) ⟨_, _, rfl, rfl, (H.get 1 rfl).1⟩ ((H.get 1 rfl).2 rfl) (H.ltOwn 1 rfl) (jk x kk (k + 1)) (by subst i1; exact markTo_step _ _ (by omega)) (jD _ _ (by omega)) (by rw [jD _ _ (by omega)]; exact nhx)
  refine xH (m' := x.length - (k + 1)) (by omega) ⟨_, k + 1, r + 1 + (cnt ((x[k]!).vH) : Nat), W10, (by exact qj (qj (qj (qj (rfl) rfl) rfl) rfl) rfl), ?_, ?_, ?_, rfl, H⟩
  · omega
  · rw [y9]; have e := cnt_IntoD (x[k]!); omega
  · exact C
 replace h3 := of_decide_eq_false h3
 refine zK (t_x (t_x (b_x (t_n (qm (qA ?_))))))
 refine sps [.int .i64 r, .int .i64 r] ?_
 refine qx (t_n (xC ?_))
 obtain rfl : k = x.length := by omega
 refine ret1 (.int .i64 r) rfl rfl ⟨_, rfl, ⟨?_, H.get 0 rfl⟩, C.trans (Chg.ofExt H.base)⟩
 first | rfl | (refine congrArg (Value.int .i64) ?_; rw [cnt_list]; omega)

theorem markRuleS_ok (w : World) (x : List QG) (kk : Int) (ax : Option Addr) (cx : Nat) (Fx : List Nat) (hx : qV.rep w Fx [.slice ax x.length cx] x) (nd : Fx.Nodup) (fr : vG w Fx) (p0 : 0 ≤ kk) (p1 : kk + (cnt x : Nat) ≤ 4611686018427387904) : Calls Tryz.prog 57 #[.slice ax x.length cx, .int .i64 kk] w (RetM (fun v w' => v = .int .i64 (kk + (cnt x : Nat)) ∧ (isF true Fx (.slice ax x.length cx) (mrk x kk)).φ w') Fx w) := by
 refine enter (n := 78) Tryz.func57 rfl Tryz.ntmps57 (Nat.le_of_ble_eq_true rfl) ?_
 have H := St.start w
 replace H := H.add (isF true Fx (.slice ax x.length cx) x) ⟨hx, fun _ => fr.sub (by intro z hz; simp [hz])⟩ (start_lt hx)
 have nhx := qN hx
 clear hx
 have C : Chg Fx w w := Chg.refl _ _
 have N : ([Fx] : List (List Nat)).flatten.Nodup := by simpa using nd
 refine qm (qA ?_)
 refine sp (.int .i64 0) ?_
 refine qx (t_n (qm (qm (qA ?_))))
 refine sp (.int .i64 0) ?_
 refine qx (t_n (xE ?_))
 replace H : St w w [] [isF true Fx (.slice ax x.length cx) (jk x kk 0)] := by rw [markTo_zero]; exact H
 refine zU (fun m' ρ w1 => ∃ (junk : Env) (k : Nat) (r : Int) (W : World), ρ = upd (upd (upd (upd junk 0 (.slice ax x.length cx)) 1 (.int .i64 r)) 4 (.int .i64 0)) 5 (.int .i64 k) ∧ (k ≤ x.length) ∧ (r = kk + (Vr x k : Nat)) ∧ (Chg Fx w W) ∧ m' = x.length - k ∧ St W w1 [] [isF true Fx (.slice ax x.length cx) (jk x kk k)]) (x.length - 0) ⟨_, 0, kk, w, (by exact qj (qj (qj (qj (rfl) rfl) rfl) rfl) rfl), (by omega), (by exact (Int.add_zero _).symm), (by exact C), rfl, H⟩ ?_
 clear H
 rintro m' ρ w2 ⟨junk, k, r, W, rfl, i0, i1, C, rfl, H⟩
 have hc := fun h => cnt_get (l := x) (k := k) h
 refine qm (qm (qA ?_))
 refine sps [.int .i64 k, .slice ax x.length cx] ?_
 refine sw (zX Tryz.underlying34 ax x.length cx rfl ?_)
 refine sp (.bool (decide ((k : Int) < x.length))) ?_
 refine qx (t_n ?_)
 refine qW (decide ((k : Int) < x.length)) rfl (fun h3 => ?_) (fun h3 => ?_)
 ·skip
  replace h3 := of_decide_eq_true h3
  refine xk (t_n (qm (xE (qm (qA ?_)))))
  refine sps [.slice ax x.length cx, .int .i64 k, .int .i64 r] ?_
  obtain ⟨b4, o5, rfl⟩ := H.addr 0 rfl (by rw [jD _ _ (by omega)]; omega)
  obtain ⟨xs1, xs2, G1, G2, X5, XY, FqNeed, X9, X4, FqHave, X6, XZ, FqLack, X8, X3, FqHere, aqOut, cqOut, FqOut, X7, X0, FqInto, rfl, hx, H, N⟩ := H.open_RuleD nd k (by rw [jD _ _ (by omega)]; omega) (markTo_get _ _ (by omega))
  refine sw (xK k Tryz.underlying34 ti110 rfl rfl (by omega) (by omega) ?_)
  refine sw (qP b4 (o5 + (k : Int).toNat * 9) 0 Tryz.underlying110 rfl rfl Tryz.sizeOf2 rfl ?_)
  refine sw (o_storeHole H N _ 0 hx (.int .i64 r) Tryz.sizeOf2 rfl rfl rfl (Nat.le_of_ble_eq_true rfl) fun w6 W7 C8 H => ?_)
  replace C := C.trans (C8.mono (hole_sub _ _ _ _))
  replace H : St _ _ _ [Vf b4 o5 xs1 [.int .i64 r, .int .i64 ((x[k]!).zh), .slice X5 (((x[k]!).qR).length) XY, .slice X9 (((x[k]!).xh).length) X4, .slice X6 (((x[k]!).xm).length) XZ, .slice X8 (((x[k]!).xB).length) X3, .slice aqOut (((x[k]!).zk).length) cqOut, .slice X7 (((x[k]!).qC).length) X0, .bool ((x[k]!).xQ)] xs2 G1 G2 ((jk x kk k).take k) ((jk x kk k).drop (k + 1)), isF true FqNeed (.slice X5 (((x[k]!).qR).length) XY) ((x[k]!).qR), isF true FqHave (.slice X9 (((x[k]!).xh).length) X4) ((x[k]!).xh), isF true FqLack (.slice X6 (((x[k]!).xm).length) XZ) ((x[k]!).xm), isF true FqHere (.slice X8 (((x[k]!).xB).length) X3) ((x[k]!).xB), isF true FqOut (.slice aqOut (((x[k]!).zk).length) cqOut) ((x[k]!).zk), isF true FqInto (.slice X7 (((x[k]!).qC).length) X0) ((x[k]!).qC)] := H
  refine qx (t_n (qm (qA ?_)))
  refine sp (.int .i64 r) ?_
  refine sw (zZ r 1 rfl rfl (by (have := hc (by omega); have e := yO (x[k]!); omega)) ?_)
  refine sp (.int .i64 (r + 1)) ?_
  refine qx (t_n (qm (qA ?_)))
  refine sps [.slice (aa b4 o5) x.length cx, .int .i64 k, .int .i64 (r + 1)] ?_
  refine sw (xK k Tryz.underlying34 ti110 rfl rfl (by omega) (by omega) ?_)
  refine sw (qP b4 (o5 + (k : Int).toNat * 9) 1 Tryz.underlying110 rfl rfl Tryz.sizeOf2 rfl ?_)
  refine sw (o_storeHole H N _ 1 hx (.int .i64 (r + 1)) Tryz.sizeOf2 rfl rfl rfl (Nat.le_of_ble_eq_true rfl) fun w9 W10 C11 H => ?_)
  replace C := C.trans (C11.mono (hole_sub _ _ _ _))
  replace H : St _ _ _ [Vf b4 o5 xs1 [.int .i64 r, .int .i64 (r + 1), .slice X5 (((x[k]!).qR).length) XY, .slice X9 (((x[k]!).xh).length) X4, .slice X6 (((x[k]!).xm).length) XZ, .slice X8 (((x[k]!).xB).length) X3, .slice aqOut (((x[k]!).zk).length) cqOut, .slice X7 (((x[k]!).qC).length) X0, .bool ((x[k]!).xQ)] xs2 G1 G2 ((jk x kk k).take k) ((jk x kk k).drop (k + 1)), isF true FqNeed (.slice X5 (((x[k]!).qR).length) XY) ((x[k]!).qR), isF true FqHave (.slice X9 (((x[k]!).xh).length) X4) ((x[k]!).xh), isF true FqLack (.slice X6 (((x[k]!).xm).length) XZ) ((x[k]!).xm), isF true FqHere (.slice X8 (((x[k]!).xB).length) X3) ((x[k]!).xB), isF true FqOut (.slice aqOut (((x[k]!).zk).length) cqOut) ((x[k]!).zk), isF true FqInto (.slice X7 (((x[k]!).qC).length) X0) ((x[k]!).qC)] := H
  refine qx (t_n (qm (qA ?_)))
  refine sp (.int .i64 (r + 1)) ?_
  refine sw (zZ (r + 1) 1 rfl rfl (by (have := hc (by omega); have e := yO (x[k]!); omega)) ?_)
  refine sp (.int .i64 ((r + 1) + 1)) ?_
  refine qx (t_n (qm (qA ?_)))
  refine sps [.slice (aa b4 o5) x.length cx, .int .i64 k] ?_
  refine sw (xK k Tryz.underlying34 ti110 rfl rfl (by omega) (by omega) ?_)
  refine sw (qP b4 (o5 + (k : Int).toNat * 9) 2 Tryz.underlying110 rfl rfl Tryz.sizeOf22 rfl ?_)
  refine sw (qE (.slice X5 (((x[k]!).qR).length) XY) Tryz.isAgg22 rfl (H.holeCell _ 2 hx rfl) ?_)
  refine sp (.int .i64 ((r + 1) + 1)) ?_
  refine sw (XH #[.slice X5 (((x[k]!).qR).length) XY, .int .i64 ((r + 1) + 1)] rfl rfl Tryz.call28 (QD w9 ((x[k]!).qR) ((r + 1) + 1) X5 XY FqNeed (H.get 1 rfl).1 (QJ N 1 rfl) ((H.get 1 rfl).2 rfl) (by (have := hc (by omega); have e := yO (x[k]!); omega)) (by (have := hc (by omega); have e := yO (x[k]!); omega))) ?_)
  rintro _ w12 ⟨rfl, m16⟩ x14
  obtain ⟨W13, C15, H⟩ := H.chgAt N 1 rfl (isF true FqNeed (.slice X5 (((x[k]!).qR).length) XY) (mrk ((x[k]!).qR) ((r + 1) + 1))) rfl x14 m16
  replace C := C.trans (C15.mono (by intro z hz; have hz : z ∈ FqNeed := hz; simp [hz]))
  replace H : St _ _ _ [Vf b4 o5 xs1 [.int .i64 r, .int .i64 (r + 1), .slice X5 (((x[k]!).qR).length) XY, .slice X9 (((x[k]!).xh).length) X4, .slice X6 (((x[k]!).xm).length) XZ, .slice X8 (((x[k]!).xB).length) X3, .slice aqOut (((x[k]!).zk).length) cqOut, .slice X7 (((x[k]!).qC).length) X0, .bool ((x[k]!).xQ)] xs2 G1 G2 ((jk x kk k).take k) ((jk x kk k).drop (k + 1)), isF true FqNeed (.slice X5 (((x[k]!).qR).length) XY) (mrk ((x[k]!).qR) ((r + 1) + 1)), isF true FqHave (.slice X9 (((x[k]!).xh).length) X4) ((x[k]!).xh), isF true FqLack (.slice X6 (((x[k]!).xm).length) XZ) ((x[k]!).xm), isF true FqHere (.slice X8 (((x[k]!).xB).length) X3) ((x[k]!).xB), isF true FqOut (.slice aqOut (((x[k]!).zk).length) cqOut) ((x[k]!).zk), isF true FqInto (.slice X7 (((x[k]!).qC).length) X0) ((x[k]!).qC)] := H
  refine sp (.int .i64 ((r + 1) + 1 + (cnt ((x[k]!).qR) : Nat))) ?_
  refine qx (t_n (qm (qA ?_)))
  refine sps [.slice (aa b4 o5) x.length cx, .int .i64 k] ?_
  refine sw (xK k Tryz.underlying34 ti110 rfl rfl (by omega) (by omega) ?_)
  refine sw (qP b4 (o5 + (k : Int).toNat * 9) 3 Tryz.underlying110 rfl rfl Tryz.sizeOf22 rfl ?_)
  refine sw (qE (.slice X9 (((x[k]!).xh).length) X4) Tryz.isAgg22 rfl (H.holeCell _ 3 hx rfl) ?_)
  refine sp (.int .i64 ((r + 1) + 1 + (cnt ((x[k]!).qR) : Nat))) ?_
  refine sw (XH #[.slice X9 (((x[k]!).xh).length) X4, .int .i64 ((r + 1) + 1 + (cnt ((x[k]!).qR) : Nat))] rfl rfl Tryz.call28 (QD w12 ((x[k]!).xh) ((r + 1) + 1 + (cnt ((x[k]!).qR) : Nat)) X9 X4 FqHave (H.get 2 rfl).1 (QJ N 2 rfl) ((H.get 2 rfl).2 rfl) (by (have := hc (by omega); have e := yO (x[k]!); omega)) (by (have := hc (by omega); have e := yO (x[k]!); omega))) ?_)
  rintro _ w17 ⟨rfl, m21⟩ x19
  obtain ⟨W18, C20, H⟩ := H.chgAt N 2 rfl (isF true FqHave (.slice X9 (((x[k]!).xh).length) X4) (mrk ((x[k]!).xh) ((r + 1) + 1 + (cnt ((x[k]!).qR) : Nat)))) rfl x19 m21
  replace C := C.trans (C20.mono (by intro z hz; have hz : z ∈ FqHave := hz; simp [hz]))
  replace H : St _ _ _ [Vf b4 o5 xs1 [.int .i64 r, .int .i64 (r + 1), .slice X5 (((x[k]!).qR).length) XY, .slice X9 (((x[k]!).xh).length) X4, .slice X6 (((x[k]!).xm).length) XZ, .slice X8 (((x[k]!).xB).length) X3, .slice aqOut (((x[k]!).zk).length) cqOut, .slice X7 (((x[k]!).qC).length) X0, .bool ((x[k]!).xQ)] xs2 G1 G2 ((jk x kk k).take k) ((jk x kk k).drop (k + 1)), isF true FqNeed (.slice X5 (((x[k]!).qR).length) XY) (mrk ((x[k]!).qR) ((r + 1) + 1)), isF true FqHave (.slice X9 (((x[k]!).xh).length) X4) (mrk ((x[k]!).xh) ((r + 1) + 1 + (cnt ((x[k]!).qR) : Nat))), isF true FqLack (.slice X6 (((x[k]!).xm).length) XZ) ((x[k]!).xm), isF true FqHere (.slice X8 (((x[k]!).xB).length) X3) ((x[k]!).xB), isF true FqOut (.slice aqOut (((x[k]!).zk).length) cqOut) ((x[k]!).zk), isF true FqInto (.slice X7 (((x[k]!).qC).length) X0) ((x[k]!).qC)] := H
  refine sp (.int .i64 ((r + 1) + 1 + (cnt ((x[k]!).qR) : Nat) + (cnt ((x[k]!).xh) : Nat))) ?_
  refine qx (t_n (qm (qA ?_)))
  refine sps [.slice (aa b4 o5) x.length cx, .int .i64 k] ?_
  refine sw (xK k Tryz.underlying34 ti110 rfl rfl (by omega) (by omega) ?_)
  refine sw (qP b4 (o5 + (k : Int).toNat * 9) 4 Tryz.underlying110 rfl rfl Tryz.sizeOf22 rfl ?_)
  refine sw (qE (.slice X6 (((x[k]!).xm).length) XZ) Tryz.isAgg22 rfl (H.holeCell _ 4 hx rfl) ?_)
  refine sp (.int .i64 ((r + 1) + 1 + (cnt ((x[k]!).qR) : Nat) + (cnt ((x[k]!).xh) : Nat))) ?_
  refine sw (XH #[.slice X6 (((x[k]!).xm).length) XZ, .int .i64 ((r + 1) + 1 + (cnt ((x[k]!).qR) : Nat) + (cnt ((x[k]!).xh) : Nat))] rfl rfl Tryz.call28 (QD w17 ((x[k]!).xm) ((r + 1) + 1 + (cnt ((x[k]!).qR) : Nat) + (cnt ((x[k]!).xh) : Nat)) X6 XZ FqLack (H.get 3 rfl).1 (QJ N 3 rfl) ((H.get 3 rfl).2 rfl) (by (have := hc (by omega); have e := yO (x[k]!); omega)) (by (have := hc (by omega); have e := yO (x[k]!); omega))) ?_)
  rintro _ w22 ⟨rfl, m26⟩ x24
  obtain ⟨W23, C25, H⟩ := H.chgAt N 3 rfl (isF true FqLack (.slice X6 (((x[k]!).xm).length) XZ) (mrk ((x[k]!).xm) ((r + 1) + 1 + (cnt ((x[k]!).qR) : Nat) + (cnt ((x[k]!).xh) : Nat)))) rfl x24 m26
  replace C := C.trans (C25.mono (by intro z hz; have hz : z ∈ FqLack := hz; simp [hz]))
  replace H : St _ _ _ [Vf b4 o5 xs1 [.int .i64 r, .int .i64 (r + 1), .slice X5 (((x[k]!).qR).length) XY, .slice X9 (((x[k]!).xh).length) X4, .slice X6 (((x[k]!).xm).length) XZ, .slice X8 (((x[k]!).xB).length) X3, .slice aqOut (((x[k]!).zk).length) cqOut, .slice X7 (((x[k]!).qC).length) X0, .bool ((x[k]!).xQ)] xs2 G1 G2 ((jk x kk k).take k) ((jk x kk k).drop (k + 1)), isF true FqNeed (.slice X5 (((x[k]!).qR).length) XY) (mrk ((x[k]!).qR) ((r + 1) + 1)), isF true FqHave (.slice X9 (((x[k]!).xh).length) X4) (mrk ((x[k]!).xh) ((r + 1) + 1 + (cnt ((x[k]!).qR) : Nat))), isF true FqLack (.slice X6 (((x[k]!).xm).length) XZ) (mrk ((x[k]!).xm) ((r + 1) + 1 + (cnt ((x[k]!).qR) : Nat) + (cnt ((x[k]!).xh) : Nat))), isF true FqHere (.slice X8 (((x[k]!).xB).length) X3) ((x[k]!).xB), isF true FqOut (.slice aqOut (((x[k]!).zk).length) cqOut) ((x[k]!).zk), isF true FqInto (.slice X7 (((x[k]!).qC).length) X0) ((x[k]!).qC)] := H
  refine sp (.int .i64 ((r + 1) + 1 + (cnt ((x[k]!).qR) : Nat) + (cnt ((x[k]!).xh) : Nat) + (cnt ((x[k]!).xm) : Nat))) ?_
  refine qx (t_n (qm (qA ?_)))
  refine sps [.slice (aa b4 o5) x.length cx, .int .i64 k] ?_
  refine sw (xK k Tryz.underlying34 ti110 rfl rfl (by omega) (by omega) ?_)
  refine sw (qP b4 (o5 + (k : Int).toNat * 9) 5 Tryz.underlying110 rfl rfl Tryz.sizeOf22 rfl ?_)
  refine sw (qE (.slice X8 (((x[k]!).xB).length) X3) Tryz.isAgg22 rfl (H.holeCell _ 5 hx rfl) ?_)
  refine sp (.int .i64 ((r + 1) + 1 + (cnt ((x[k]!).qR) : Nat) + (cnt ((x[k]!).xh) : Nat) + (cnt ((x[k]!).xm) : Nat))) ?_
  refine sw (XH #[.slice X8 (((x[k]!).xB).length) X3, .int .i64 ((r + 1) + 1 + (cnt ((x[k]!).qR) : Nat) + (cnt ((x[k]!).xh) : Nat) + (cnt ((x[k]!).xm) : Nat))] rfl rfl Tryz.call28 (QD w22 ((x[k]!).xB) ((r + 1) + 1 + (cnt ((x[k]!).qR) : Nat) + (cnt ((x[k]!).xh) : Nat) + (cnt ((x[k]!).xm) : Nat)) X8 X3 FqHere (H.get 4 rfl).1 (QJ N 4 rfl) ((H.get 4 rfl).2 rfl) (by (have := hc (by omega); have e := yO (x[k]!); omega)) (by (have := hc (by omega); have e := yO (x[k]!); omega))) ?_)
  rintro _ w27 ⟨rfl, m31⟩ x29
  obtain ⟨W28, C30, H⟩ := H.chgAt N 4 rfl (isF true FqHere (.slice X8 (((x[k]!).xB).length) X3) (mrk ((x[k]!).xB) ((r + 1) + 1 + (cnt ((x[k]!).qR) : Nat) + (cnt ((x[k]!).xh) : Nat) + (cnt ((x[k]!).xm) : Nat)))) rfl x29 m31
  replace C := C.trans (C30.mono (by intro z hz; have hz : z ∈ FqHere := hz; simp [hz]))
  replace H : St _ _ _ [Vf b4 o5 xs1 [.int .i64 r, .int .i64 (r + 1), .slice X5 (((x[k]!).qR).length) XY, .slice X9 (((x[k]!).xh).length) X4, .slice X6 (((x[k]!).xm).length) XZ, .slice X8 (((x[k]!).xB).length) X3, .slice aqOut (((x[k]!).zk).length) cqOut, .slice X7 (((x[k]!).qC).length) X0, .bool ((x[k]!).xQ)] xs2 G1 G2 ((jk x kk k).take k) ((jk x kk k).drop (k + 1)), isF true FqNeed (.slice X5 (((x[k]!).qR).length) XY) (mrk ((x[k]!).qR) ((r + 1) + 1)), isF true FqHave (.slice X9 (((x[k]!).xh).length) X4) (mrk ((x[k]!).xh) ((r + 1) + 1 + (cnt ((x[k]!).qR) : Nat))), isF true FqLack (.slice X6 (((x[k]!).xm).length) XZ) (mrk ((x[k]!).xm) ((r + 1) + 1 + (cnt ((x[k]!).qR) : Nat) + (cnt ((x[k]!).xh) : Nat))), isF true FqHere (.slice X8 (((x[k]!).xB).length) X3) (mrk ((x[k]!).xB) ((r + 1) + 1 + (cnt ((x[k]!).qR) : Nat) + (cnt ((x[k]!).xh) : Nat) + (cnt ((x[k]!).xm) : Nat))), isF true FqOut (.slice aqOut (((x[k]!).zk).length) cqOut) ((x[k]!).zk), isF true FqInto (.slice X7 (((x[k]!).qC).length) X0) ((x[k]!).qC)] := H
  refine sp (.int .i64 ((r + 1) + 1 + (cnt ((x[k]!).qR) : Nat) + (cnt ((x[k]!).xh) : Nat) + (cnt ((x[k]!).xm) : Nat) + (cnt ((x[k]!).xB) : Nat))) ?_
  refine qx (t_n (qm (qA ?_)))
  refine sps [.slice (aa b4 o5) x.length cx, .int .i64 k] ?_
  refine sw (xK k Tryz.underlying34 ti110 rfl rfl (by omega) (by omega) ?_)
  refine sw (qP b4 (o5 + (k : Int).toNat * 9) 6 Tryz.underlying110 rfl rfl Tryz.sizeOf22 rfl ?_)
  refine sw (qE (.slice aqOut (((x[k]!).zk).length) cqOut) Tryz.isAgg22 rfl (H.holeCell _ 6 hx rfl) ?_)
  refine sp (.int .i64 ((r + 1) + 1 + (cnt ((x[k]!).qR) : Nat) + (cnt ((x[k]!).xh) : Nat) + (cnt ((x[k]!).xm) : Nat) + (cnt ((x[k]!).xB) : Nat))) ?_
  refine sw (XH #[.slice aqOut (((x[k]!).zk).length) cqOut, .int .i64 ((r + 1) + 1 + (cnt ((x[k]!).qR) : Nat) + (cnt ((x[k]!).xh) : Nat) + (cnt ((x[k]!).xm) : Nat) + (cnt ((x[k]!).xB) : Nat))] rfl rfl Tryz.call28 (QD w27 ((x[k]!).zk) ((r + 1) + 1 + (cnt ((x[k]!).qR) : Nat) + (cnt ((x[k]!).xh) : Nat) + (cnt ((x[k]!).xm) : Nat) + (cnt ((x[k]!).xB) : Nat)) aqOut cqOut FqOut (H.get 5 rfl).1 (QJ N 5 rfl) ((H.get 5 rfl).2 rfl) (by (have := hc (by omega); have e := yO (x[k]!); omega)) (by (have := hc (by omega); have e := yO (x[k]!); omega))) ?_)
  rintro _ w32 ⟨rfl, m36⟩ x34
  obtain ⟨W33, C35, H⟩ := H.chgAt N 5 rfl (isF true FqOut (.slice aqOut (((x[k]!).zk).length) cqOut) (mrk ((x[k]!).zk) ((r + 1) + 1 + (cnt ((x[k]!).qR) : Nat) + (cnt ((x[k]!).xh) : Nat) + (cnt ((x[k]!).xm) : Nat) + (cnt ((x[k]!).xB) : Nat)))) rfl x34 m36
  replace C := C.trans (C35.mono (by intro z hz; have hz : z ∈ FqOut := hz; simp [hz]))
  replace H : St _ _ _ [Vf b4 o5 xs1 [.int .i64 r, .int .i64 (r + 1), .slice X5 (((x[k]!).qR).length) XY, .slice X9 (((x[k]!).xh).length) X4, .slice X6 (((x[k]!).xm).length) XZ, .slice X8 (((x[k]!).xB).length) X3, .slice aqOut (((x[k]!).zk).length) cqOut, .slice X7 (((x[k]!).qC).length) X0, .bool ((x[k]!).xQ)] xs2 G1 G2 ((jk x kk k).take k) ((jk x kk k).drop (k + 1)), isF true FqNeed (.slice X5 (((x[k]!).qR).length) XY) (mrk ((x[k]!).qR) ((r + 1) + 1)), isF true FqHave (.slice X9 (((x[k]!).xh).length) X4) (mrk ((x[k]!).xh) ((r + 1) + 1 + (cnt ((x[k]!).qR) : Nat))), isF true FqLack (.slice X6 (((x[k]!).xm).length) XZ) (mrk ((x[k]!).xm) ((r + 1) + 1 + (cnt ((x[k]!).qR) : Nat) + (cnt ((x[k]!).xh) : Nat))), isF true FqHere (.slice X8 (((x[k]!).xB).length) X3) (mrk ((x[k]!).xB) ((r + 1) + 1 + (cnt ((x[k]!).qR) : Nat) + (cnt ((x[k]!).xh) : Nat) + (cnt ((x[k]!).xm) : Nat))), isF true FqOut (.slice aqOut (((x[k]!).zk).length) cqOut) (mrk ((x[k]!).zk) ((r + 1) + 1 + (cnt ((x[k]!).qR) : Nat) + (cnt ((x[k]!).xh) : Nat) + (cnt ((x[k]!).xm) : Nat) + (cnt ((x[k]!).xB) : Nat))), isF true FqInto (.slice X7 (((x[k]!).qC).length) X0) ((x[k]!).qC)] := H
  refine sp (.int .i64 ((r + 1) + 1 + (cnt ((x[k]!).qR) : Nat) + (cnt ((x[k]!).xh) : Nat) + (cnt ((x[k]!).xm) : Nat) + (cnt ((x[k]!).xB) : Nat) + (cnt ((x[k]!).zk) : Nat))) ?_
  refine qx (t_n (qm (qA ?_)))
  refine sps [.slice (aa b4 o5) x.length cx, .int .i64 k] ?_
  refine sw (xK k Tryz.underlying34 ti110 rfl rfl (by omega) (by omega) ?_)
  refine sw (qP b4 (o5 + (k : Int).toNat * 9) 7 Tryz.underlying110 rfl rfl Tryz.sizeOf108 rfl ?_)
  refine sw (qE (.slice X7 (((x[k]!).qC).length) X0) Tryz.isAgg108 rfl (H.holeCell _ 7 hx rfl) ?_)
  refine sp (.int .i64 ((r + 1) + 1 + (cnt ((x[k]!).qR) : Nat) + (cnt ((x[k]!).xh) : Nat) + (cnt ((x[k]!).xm) : Nat) + (cnt ((x[k]!).xB) : Nat) + (cnt ((x[k]!).zk) : Nat))) ?_
  refine sw (XH #[.slice X7 (((x[k]!).qC).length) X0, .int .i64 ((r + 1) + 1 + (cnt ((x[k]!).qR) : Nat) + (cnt ((x[k]!).xh) : Nat) + (cnt ((x[k]!).xm) : Nat) + (cnt ((x[k]!).xB) : Nat) + (cnt ((x[k]!).zk) : Nat))] rfl rfl Tryz.call105 (markIntoS_ok w32 ((x[k]!).qC) ((r + 1) + 1 + (cnt ((x[k]!).qR) : Nat) + (cnt ((x[k]!).xh) : Nat) + (cnt ((x[k]!).xm) : Nat) + (cnt ((x[k]!).xB) : Nat) + (cnt ((x[k]!).zk) : Nat)) X7 X0 FqInto (H.get 6 rfl).1 (QJ N 6 rfl) ((H.get 6 rfl).2 rfl) (by (have := hc (by omega); have e := yO (x[k]!); omega)) (by (have := hc (by omega); have e := yO (x[k]!); omega))) ?_)
  rintro _ w37 ⟨rfl, m41⟩ x39
  obtain ⟨W38, C40, H⟩ := H.chgAt N 6 rfl (isF true FqInto (.slice X7 (((x[k]!).qC).length) X0) (mrk ((x[k]!).qC) ((r + 1) + 1 + (cnt ((x[k]!).qR) : Nat) + (cnt ((x[k]!).xh) : Nat) + (cnt ((x[k]!).xm) : Nat) + (cnt ((x[k]!).xB) : Nat) + (cnt ((x[k]!).zk) : Nat)))) rfl x39 m41
  replace C := C.trans (C40.mono (by intro z hz; have hz : z ∈ FqInto := hz; simp [hz]))
  replace H : St _ _ _ [Vf b4 o5 xs1 [.int .i64 r, .int .i64 (r + 1), .slice X5 (((x[k]!).qR).length) XY, .slice X9 (((x[k]!).xh).length) X4, .slice X6 (((x[k]!).xm).length) XZ, .slice X8 (((x[k]!).xB).length) X3, .slice aqOut (((x[k]!).zk).length) cqOut, .slice X7 (((x[k]!).qC).length) X0, .bool ((x[k]!).xQ)] xs2 G1 G2 ((jk x kk k).take k) ((jk x kk k).drop (k + 1)), isF true FqNeed (.slice X5 (((x[k]!).qR).length) XY) (mrk ((x[k]!).qR) ((r + 1) + 1)), isF true FqHave (.slice X9 (((x[k]!).xh).length) X4) (mrk ((x[k]!).xh) ((r + 1) + 1 + (cnt ((x[k]!).qR) : Nat))), isF true FqLack (.slice X6 (((x[k]!).xm).length) XZ) (mrk ((x[k]!).xm) ((r + 1) + 1 + (cnt ((x[k]!).qR) : Nat) + (cnt ((x[k]!).xh) : Nat))), isF true FqHere (.slice X8 (((x[k]!).xB).length) X3) (mrk ((x[k]!).xB) ((r + 1) + 1 + (cnt ((x[k]!).qR) : Nat) + (cnt ((x[k]!).xh) : Nat) + (cnt ((x[k]!).xm) : Nat))), isF true FqOut (.slice aqOut (((x[k]!).zk).length) cqOut) (mrk ((x[k]!).zk) ((r + 1) + 1 + (cnt ((x[k]!).qR) : Nat) + (cnt ((x[k]!).xh) : Nat) + (cnt ((x[k]!).xm) : Nat) + (cnt ((x[k]!).xB) : Nat))), isF true FqInto (.slice X7 (((x[k]!).qC).length) X0) (mrk ((x[k]!).qC) ((r + 1) + 1 + (cnt ((x[k]!).qR) : Nat) + (cnt ((x[k]!).xh) : Nat) + (cnt ((x[k]!).xm) : Nat) + (cnt ((x[k]!).xB) : Nat) + (cnt ((x[k]!).zk) : Nat)))] := H
  refine sp (.int .i64 ((r + 1) + 1 + (cnt ((x[k]!).qR) : Nat) + (cnt ((x[k]!).xh) : Nat) + (cnt ((x[k]!).xm) : Nat) + (cnt ((x[k]!).xB) : Nat) + (cnt ((x[k]!).zk) : Nat) + (cnt ((x[k]!).qC) : Nat))) ?_
  refine qx (t_n (qm (qA ?_)))
  refine sps [.slice (aa b4 o5) x.length cx, .int .i64 k, .int .i64 ((r + 1) + 1 + (cnt ((x[k]!).qR) : Nat) + (cnt ((x[k]!).xh) : Nat) + (cnt ((x[k]!).xm) : Nat) + (cnt ((x[k]!).xB) : Nat) + (cnt ((x[k]!).zk) : Nat) + (cnt ((x[k]!).qC) : Nat))] ?_
  refine sw (o_rem ((r + 1) + 1 + (cnt ((x[k]!).qR) : Nat) + (cnt ((x[k]!).xh) : Nat) + (cnt ((x[k]!).xm) : Nat) + (cnt ((x[k]!).xB) : Nat) + (cnt ((x[k]!).zk) : Nat) + (cnt ((x[k]!).qC) : Nat)) 3 rfl rfl (by (have := hc (by omega); have e := yO (x[k]!); omega)) (by omega) (by (have := hc (by omega); have e := yO (x[k]!); omega)) ?_)
  refine sp (.bool ((((r + 1) + 1 + (cnt ((x[k]!).qR) : Nat) + (cnt ((x[k]!).xh) : Nat) + (cnt ((x[k]!).xm) : Nat) + (cnt ((x[k]!).xB) : Nat) + (cnt ((x[k]!).zk) : Nat) + (cnt ((x[k]!).qC) : Nat)) % 3 : Int) == 0)) ?_
  refine sw (xK k Tryz.underlying34 ti110 rfl rfl (by omega) (by omega) ?_)
  refine sw (qP b4 (o5 + (k : Int).toNat * 9) 8 Tryz.underlying110 rfl rfl Tryz.sizeOf4 rfl ?_)
  refine sw (o_storeHole H N _ 8 hx (.bool ((((r + 1) + 1 + (cnt ((x[k]!).qR) : Nat) + (cnt ((x[k]!).xh) : Nat) + (cnt ((x[k]!).xm) : Nat) + (cnt ((x[k]!).xB) : Nat) + (cnt ((x[k]!).zk) : Nat) + (cnt ((x[k]!).qC) : Nat)) % 3 : Int) == 0)) Tryz.sizeOf4 rfl rfl rfl (Nat.le_of_ble_eq_true rfl) fun w42 W43 C44 H => ?_)
  replace C := C.trans (C44.mono (hole_sub _ _ _ _))
  replace H : St _ _ _ [Vf b4 o5 xs1 [.int .i64 r, .int .i64 (r + 1), .slice X5 (((x[k]!).qR).length) XY, .slice X9 (((x[k]!).xh).length) X4, .slice X6 (((x[k]!).xm).length) XZ, .slice X8 (((x[k]!).xB).length) X3, .slice aqOut (((x[k]!).zk).length) cqOut, .slice X7 (((x[k]!).qC).length) X0, .bool ((((r + 1) + 1 + (cnt ((x[k]!).qR) : Nat) + (cnt ((x[k]!).xh) : Nat) + (cnt ((x[k]!).xm) : Nat) + (cnt ((x[k]!).xB) : Nat) + (cnt ((x[k]!).zk) : Nat) + (cnt ((x[k]!).qC) : Nat)) % 3 : Int) == 0)] xs2 G1 G2 ((jk x kk k).take k) ((jk x kk k).drop (k + 1)), isF true FqNeed (.slice X5 (((x[k]!).qR).length) XY) (mrk ((x[k]!).qR) ((r + 1) + 1)), isF true FqHave (.slice X9 (((x[k]!).xh).length) X4) (mrk ((x[k]!).xh) ((r + 1) + 1 + (cnt ((x[k]!).qR) : Nat))), isF true FqLack (.slice X6 (((x[k]!).xm).length) XZ) (mrk ((x[k]!).xm) ((r + 1) + 1 + (cnt ((x[k]!).qR) : Nat) + (cnt ((x[k]!).xh) : Nat))), isF true FqHere (.slice X8 (((x[k]!).xB).length) X3) (mrk ((x[k]!).xB) ((r + 1) + 1 + (cnt ((x[k]!).qR) : Nat) + (cnt ((x[k]!).xh) : Nat) + (cnt ((x[k]!).xm) : Nat))), isF true FqOut (.slice aqOut (((x[k]!).zk).length) cqOut) (mrk ((x[k]!).zk) ((r + 1) + 1 + (cnt ((x[k]!).qR) : Nat) + (cnt ((x[k]!).xh) : Nat) + (cnt ((x[k]!).xm) : Nat) + (cnt ((x[k]!).xB) : Nat))), isF true FqInto (.slice X7 (((x[k]!).qC).length) X0) (mrk ((x[k]!).qC) ((r + 1) + 1 + (cnt ((x[k]!).qR) : Nat) + (cnt ((x[k]!).xh) : Nat) + (cnt ((x[k]!).xm) : Nat) + (cnt ((x[k]!).xB) : Nat) + (cnt ((x[k]!).zk) : Nat)))] := H
  refine qx (t_n (qA ?_))
  refine sp (.int .i64 ((r + 1) + 1 + (cnt ((x[k]!).qR) : Nat) + (cnt ((x[k]!).xh) : Nat) + (cnt ((x[k]!).xm) : Nat) + (cnt ((x[k]!).xB) : Nat) + (cnt ((x[k]!).zk) : Nat) + (cnt ((x[k]!).qC) : Nat))) ?_
  refine sw (zZ ((r + 1) + 1 + (cnt ((x[k]!).qR) : Nat) + (cnt ((x[k]!).xh) : Nat) + (cnt ((x[k]!).xm) : Nat) + (cnt ((x[k]!).xB) : Nat) + (cnt ((x[k]!).zk) : Nat) + (cnt ((x[k]!).qC) : Nat)) 1 rfl rfl (by (have := hc (by omega); have e := yO (x[k]!); omega)) ?_)
  refine sp (.int .i64 (((r + 1) + 1 + (cnt ((x[k]!).qR) : Nat) + (cnt ((x[k]!).xh) : Nat) + (cnt ((x[k]!).xm) : Nat) + (cnt ((x[k]!).xB) : Nat) + (cnt ((x[k]!).zk) : Nat) + (cnt ((x[k]!).qC) : Nat)) + 1)) ?_
  refine qx (b_n (t_n (qA ?_)))
  refine sp (.int .i64 k) ?_
  refine sw (zZ k 1 rfl rfl (by (have := hc (by omega); have e := yO (x[k]!); omega)) ?_)
  refine sp (.int .i64 (k + 1)) ?_
  refine qx ?_
  replace H := H.closeAt (y := mrk (x[k]!) r) (m := x.length) (c := cx) ⟨_, _, _, _, _, _, _, _, _, _, _, _, rfl, rfl, (H.get 1 rfl).1, (H.get 2 rfl).1, (H.get 3 rfl).1, (H.get 4 rfl).1, (H.get 5 rfl).1, (H.get 6 rfl).1⟩ (((((((H.get 1 rfl).2 rfl).app ((H.get 2 rfl).2 rfl)).app ((H.get 3 rfl).2 rfl)).app ((H.get 4 rfl).2 rfl)).app ((H.get 5 rfl).2 rfl)).app ((H.get 6 rfl).2 rfl)) (Vd (Vd (Vd (Vd (Vd (H.ltOwn 1 rfl) (H.ltOwn 2 rfl)) (H.ltOwn 3 rfl)) (H.ltOwn 4 rfl)) (H.ltOwn 5 rfl)) (H.ltOwn 6 rfl)) (jk x kk (k + 1)) (by subst i1; exact markTo_step _ _ (by omega)) (jD _ _ (by omega)) (by rw [jD _ _ (by omega)]; exact nhx)
  refine xH (m' := x.length - (k + 1)) (by omega) ⟨_, k + 1, ((r + 1) + 1 + (cnt ((x[k]!).qR) : Nat) + (cnt ((x[k]!).xh) : Nat) + (cnt ((x[k]!).xm) : Nat) + (cnt ((x[k]!).xB) : Nat) + (cnt ((x[k]!).zk) : Nat) + (cnt ((x[k]!).qC) : Nat)) + 1, W43, (by exact qj (qj (qj (qj (rfl) rfl) rfl) rfl) rfl), ?_, ?_, ?_, rfl, H⟩
  · omega
  · rw [y9]; have e := yO (x[k]!); omega
  · exact C
 replace h3 := of_decide_eq_false h3
 refine zK (t_x (t_x (b_x (t_n (qm (qA ?_))))))
 refine sps [.int .i64 r, .int .i64 r] ?_
 refine qx (t_n (xC ?_))
 obtain rfl : k = x.length := by omega
 refine ret1 (.int .i64 r) rfl rfl ⟨_, rfl, ⟨?_, H.get 0 rfl⟩, C.trans (Chg.ofExt H.base)⟩
 first | rfl | (refine congrArg (Value.int .i64) ?_; rw [cnt_list]; omega)

theorem markSystem_ok (w : World) (x : qX) (kk : Int) (zI : Option Addr) (zH : Nat) (yu : List Nat) (jA : Option Addr) (jy : Nat) (QV : List Nat) (Qz : qV.rep w yu [.slice zI x.qf.length zH] x.qf) (Vb : qV.rep w QV [.slice jA x.qg.length jy] x.qg) (nd : (yu ++ QV).Nodup) (fr : vG w (yu ++ QV)) (p0 : 0 ≤ kk) (p1 : kk + (cnt x.qf : Nat) + (cnt x.qg : Nat) ≤ 4611686018427387904) : Calls Tryz.prog 17 #[.agg #[.int .i64 x.qJ, .slice zI x.qf.length zH, .slice jA x.qg.length jy], .int .i64 kk] w (RetM (fun v w' => v = .int .i64 (kk + (cnt x.qf : Nat) + (cnt x.qg : Nat)) ∧ (isF true yu (.slice zI x.qf.length zH) (mrk x.qf kk)).φ w' ∧ (isF true QV (.slice jA x.qg.length jy) (mrk x.qg (kk + (cnt x.qf : Nat)))).φ w') (yu ++ QV) w) := by
 refine enter (n := 14) Tryz.func17 rfl Tryz.ntmps17 (Nat.le_of_ble_eq_true rfl) ?_
 have H := St.start w
 replace H := H.add (isF true QV (.slice jA x.qg.length jy) x.qg) ⟨Vb, fun _ => fr.sub (by intro z hz; simp [hz])⟩ (start_lt Vb)
 replace H := H.add (isF true yu (.slice zI x.qf.length zH) x.qf) ⟨Qz, fun _ => fr.sub (by intro z hz; simp [hz])⟩ (start_lt Qz)
 have nhxParents := qN Qz
 have nhxRules := qN Vb
 clear Qz Vb
 have C : Chg (yu ++ QV) w w := Chg.refl _ _
 have N : ([yu, QV] : List (List Nat)).flatten.Nodup := by simpa using nd
 refine qm (qA ?_)
 refine sw (o_box H (.agg #[.int .i64 x.qJ, .slice zI x.qf.length zH, .slice jA x.qg.length jy]) rfl fun b1 w2 H => ?_)
 replace H : St _ _ [.box b1 [.int .i64 x.qJ, .slice zI x.qf.length zH, .slice jA x.qg.length jy] 36] _ := H
 refine sp (.int .i64 0) ?_
 refine qx (t_n (qm (qA ?_)))
 refine sw (qP b1 (0) 1 Tryz.underlying36 rfl rfl Tryz.sizeOf22 rfl ?_)
 refine sw (qE (.slice zI x.qf.length zH) Tryz.isAgg22 rfl (H.cell 0 rfl rfl) ?_)
 refine sp (.int .i64 kk) ?_
 refine sw (XH #[.slice zI x.qf.length zH, .int .i64 kk] rfl rfl Tryz.call28 (QD w2 x.qf kk zI zH yu (H.get 0 rfl).1 (QJ N 0 rfl) ((H.get 0 rfl).2 rfl) (by omega) (by omega)) ?_)
 rintro _ w3 ⟨rfl, m7⟩ x5
 obtain ⟨W4, C6, H⟩ := H.chgAt N 0 rfl (isF true yu (.slice zI x.qf.length zH) (mrk x.qf kk)) rfl x5 m7
 replace C := C.trans (C6.mono (by intro z hz; have hz : z ∈ yu := hz; simp [hz]))
 replace H : St _ _ _ [isF true yu (.slice zI x.qf.length zH) (mrk x.qf kk), isF true QV (.slice jA x.qg.length jy) x.qg] := H
 refine sp (.int .i64 (kk + (cnt x.qf : Nat))) ?_
 refine qx (t_n (qm (qA ?_)))
 refine sw (qP b1 (0) 2 Tryz.underlying36 rfl rfl Tryz.sizeOf34 rfl ?_)
 refine sw (qE (.slice jA x.qg.length jy) Tryz.isAgg34 rfl (H.cell 0 rfl rfl) ?_)
 refine sp (.int .i64 (kk + (cnt x.qf : Nat))) ?_
 refine sw (XH #[.slice jA x.qg.length jy, .int .i64 (kk + (cnt x.qf : Nat))] rfl rfl Tryz.call57 (markRuleS_ok w3 x.qg (kk + (cnt x.qf : Nat)) jA jy QV (H.get 1 rfl).1 (QJ N 1 rfl) ((H.get 1 rfl).2 rfl) (by omega) (by omega)) ?_)
 rintro _ w8 ⟨rfl, m12⟩ x10
 obtain ⟨W9, C11, H⟩ := H.chgAt N 1 rfl (isF true QV (.slice jA x.qg.length jy) (mrk x.qg (kk + (cnt x.qf : Nat)))) rfl x10 m12
 replace C := C.trans (C11.mono (by intro z hz; have hz : z ∈ QV := hz; simp [hz]))
 replace H : St _ _ _ [isF true yu (.slice zI x.qf.length zH) (mrk x.qf kk), isF true QV (.slice jA x.qg.length jy) (mrk x.qg (kk + (cnt x.qf : Nat)))] := H
 refine sp (.int .i64 (kk + (cnt x.qf : Nat) + (cnt x.qg : Nat))) ?_
 refine qx (t_n (qm (qA ?_)))
 refine sps [.int .i64 (kk + (cnt x.qf : Nat) + (cnt x.qg : Nat)), .int .i64 (kk + (cnt x.qf : Nat) + (cnt x.qg : Nat))] ?_
 refine qx (t_n (xC ?_))
 simp_all
 refine ret1 (.int .i64 (kk + (cnt x.qf : Nat) + (cnt x.qg : Nat))) rfl rfl ⟨_, rfl, ⟨?_, H.get 0 rfl, H.get 1 rfl⟩, C.trans (Chg.ofExt H.base)⟩
 first | rfl | (refine congrArg (Value.int .i64) ?_; rw [cnt_list]; omega)

theorem markState_ok (w : World) (x : qU) (kk : Int) (vJ : Option Addr) (vI : Nat) (Qs : List Nat) (jM : Option Addr) (jL : Nat) (Xj : List Nat) (zG : Option Addr) (zF : Nat) (yz : List Nat) (Xd : qV.rep w Qs [.slice vJ x.qh.length vI] x.qh) (Vz : qV.rep w Xj [.slice jM x.qp.length jL] x.qp) (Qu : qV.rep w yz [.slice zG x.ql.length zF] x.ql) (nd : (Qs ++ Xj ++ yz).Nodup) (fr : vG w (Qs ++ Xj ++ yz)) (p0 : 0 ≤ kk) (p1 : kk + (cnt x.qh : Nat) + (cnt x.qp : Nat) + (cnt x.ql : Nat) ≤ 4611686018427387904) : Calls Tryz.prog 18 #[.agg #[.slice vJ x.qh.length vI, .slice jM x.qp.length jL, .slice zG x.ql.length zF], .int .i64 kk] w (RetM (fun v w' => v = .int .i64 (kk + (cnt x.qh : Nat) + (cnt x.qp : Nat) + (cnt x.ql : Nat)) ∧ (isF true Qs (.slice vJ x.qh.length vI) (mrk x.qh kk)).φ w' ∧ (isF true Xj (.slice jM x.qp.length jL) (mrk x.qp (kk + (cnt x.qh : Nat)))).φ w' ∧ (isF true yz (.slice zG x.ql.length zF) (mrk x.ql (kk + (cnt x.qh : Nat) + (cnt x.qp : Nat)))).φ w') (Qs ++ Xj ++ yz) w) := by
 refine enter (n := 18) Tryz.func18 rfl Tryz.ntmps18 (Nat.le_of_ble_eq_true rfl) ?_
 have H := St.start w
 replace H := H.add (isF true yz (.slice zG x.ql.length zF) x.ql) ⟨Qu, fun _ => fr.sub (by intro z hz; simp [hz])⟩ (start_lt Qu)
 replace H := H.add (isF true Xj (.slice jM x.qp.length jL) x.qp) ⟨Vz, fun _ => fr.sub (by intro z hz; simp [hz])⟩ (start_lt Vz)
 replace H := H.add (isF true Qs (.slice vJ x.qh.length vI) x.qh) ⟨Xd, fun _ => fr.sub (by intro z hz; simp [hz])⟩ (start_lt Xd)
 have nhxAlive := qN Xd
 have nhxBags := qN Vz
 have nhxAround := qN Qu
 clear Xd Vz Qu
 have C : Chg (Qs ++ Xj ++ yz) w w := Chg.refl _ _
 have N : ([Qs, Xj, yz] : List (List Nat)).flatten.Nodup := by simpa using nd
 refine qm (qA ?_)
 refine sw (o_box H (.agg #[.slice vJ x.qh.length vI, .slice jM x.qp.length jL, .slice zG x.ql.length zF]) rfl fun b1 w2 H => ?_)
 replace H : St _ _ [.box b1 [.slice vJ x.qh.length vI, .slice jM x.qp.length jL, .slice zG x.ql.length zF] 38] _ := H
 refine sp (.int .i64 0) ?_
 refine qx (t_n (qm (qA ?_)))
 refine sw (qP b1 (0) 0 Tryz.underlying38 rfl rfl Tryz.sizeOf26 rfl ?_)
 refine sw (qE (.slice vJ x.qh.length vI) Tryz.isAgg26 rfl (H.cell 0 rfl rfl) ?_)
 refine sp (.int .i64 kk) ?_
 refine sw (XH #[.slice vJ x.qh.length vI, .int .i64 kk] rfl rfl Tryz.call58 (markBoolS_ok w2 x.qh kk vJ vI Qs (H.get 0 rfl).1 (QJ N 0 rfl) ((H.get 0 rfl).2 rfl) (by omega) (by omega)) ?_)
 rintro _ w3 ⟨rfl, m7⟩ x5
 obtain ⟨W4, C6, H⟩ := H.chgAt N 0 rfl (isF true Qs (.slice vJ x.qh.length vI) (mrk x.qh kk)) rfl x5 m7
 replace C := C.trans (C6.mono (by intro z hz; have hz : z ∈ Qs := hz; simp [hz]))
 replace H : St _ _ _ [isF true Qs (.slice vJ x.qh.length vI) (mrk x.qh kk), isF true Xj (.slice jM x.qp.length jL) x.qp, isF true yz (.slice zG x.ql.length zF) x.ql] := H
 refine sp (.int .i64 (kk + (cnt x.qh : Nat))) ?_
 refine qx (t_n (qm (qA ?_)))
 refine sw (qP b1 (0) 1 Tryz.underlying38 rfl rfl Tryz.sizeOf27 rfl ?_)
 refine sw (qE (.slice jM x.qp.length jL) Tryz.isAgg27 rfl (H.cell 0 rfl rfl) ?_)
 refine sp (.int .i64 (kk + (cnt x.qh : Nat))) ?_
 refine sw (XH #[.slice jM x.qp.length jL, .int .i64 (kk + (cnt x.qh : Nat))] rfl rfl Tryz.call19 (markInt64SS_ok w3 x.qp (kk + (cnt x.qh : Nat)) jM jL Xj (H.get 1 rfl).1 (QJ N 1 rfl) ((H.get 1 rfl).2 rfl) (by omega) (by omega)) ?_)
 rintro _ w8 ⟨rfl, m12⟩ x10
 obtain ⟨W9, C11, H⟩ := H.chgAt N 1 rfl (isF true Xj (.slice jM x.qp.length jL) (mrk x.qp (kk + (cnt x.qh : Nat)))) rfl x10 m12
 replace C := C.trans (C11.mono (by intro z hz; have hz : z ∈ Xj := hz; simp [hz]))
 replace H : St _ _ _ [isF true Qs (.slice vJ x.qh.length vI) (mrk x.qh kk), isF true Xj (.slice jM x.qp.length jL) (mrk x.qp (kk + (cnt x.qh : Nat))), isF true yz (.slice zG x.ql.length zF) x.ql] := H
 refine sp (.int .i64 (kk + (cnt x.qh : Nat) + (cnt x.qp : Nat))) ?_
 refine qx (t_n (qm (qA ?_)))
 refine sw (qP b1 (0) 2 Tryz.underlying38 rfl rfl Tryz.sizeOf22 rfl ?_)
 refine sw (qE (.slice zG x.ql.length zF) Tryz.isAgg22 rfl (H.cell 0 rfl rfl) ?_)
 refine sp (.int .i64 (kk + (cnt x.qh : Nat) + (cnt x.qp : Nat))) ?_
 refine sw (XH #[.slice zG x.ql.length zF, .int .i64 (kk + (cnt x.qh : Nat) + (cnt x.qp : Nat))] rfl rfl Tryz.call28 (QD w8 x.ql (kk + (cnt x.qh : Nat) + (cnt x.qp : Nat)) zG zF yz (H.get 2 rfl).1 (QJ N 2 rfl) ((H.get 2 rfl).2 rfl) (by omega) (by omega)) ?_)
 rintro _ w13 ⟨rfl, m17⟩ x15
 obtain ⟨W14, C16, H⟩ := H.chgAt N 2 rfl (isF true yz (.slice zG x.ql.length zF) (mrk x.ql (kk + (cnt x.qh : Nat) + (cnt x.qp : Nat)))) rfl x15 m17
 replace C := C.trans (C16.mono (by intro z hz; have hz : z ∈ yz := hz; simp [hz]))
 replace H : St _ _ _ [isF true Qs (.slice vJ x.qh.length vI) (mrk x.qh kk), isF true Xj (.slice jM x.qp.length jL) (mrk x.qp (kk + (cnt x.qh : Nat))), isF true yz (.slice zG x.ql.length zF) (mrk x.ql (kk + (cnt x.qh : Nat) + (cnt x.qp : Nat)))] := H
 refine sp (.int .i64 (kk + (cnt x.qh : Nat) + (cnt x.qp : Nat) + (cnt x.ql : Nat))) ?_
 refine qx (t_n (qm (qA ?_)))
 refine sps [.int .i64 (kk + (cnt x.qh : Nat) + (cnt x.qp : Nat) + (cnt x.ql : Nat)), .int .i64 (kk + (cnt x.qh : Nat) + (cnt x.qp : Nat) + (cnt x.ql : Nat))] ?_
 refine qx (t_n (xC ?_))
 simp_all
 refine ret1 (.int .i64 (kk + (cnt x.qh : Nat) + (cnt x.qp : Nat) + (cnt x.ql : Nat))) rfl rfl ⟨_, rfl, ⟨?_, H.get 0 rfl, H.get 1 rfl, H.get 2 rfl⟩, C.trans (Chg.ofExt H.base)⟩
 first | rfl | (refine congrArg (Value.int .i64) ?_; rw [cnt_list]; omega)

theorem heldInt64S_ok (w : World) (x : List Int) (kk : Int) (ax : Option Addr) (cx : Nat) (Fx : List Nat) (hx : qV.rep w Fx [.slice ax x.length cx] x) (m : mkd x kk) (p0 : 0 ≤ kk) (p1 : kk + (cnt x : Nat) ≤ 4611686018427387904) : Calls Tryz.prog 59 #[.slice ax x.length cx, .int .i64 kk] w (Ret (fun v w' => v = .int .i64 (kk + (cnt x : Nat))) w) := by
 refine enter (n := 21) Tryz.func59 rfl Tryz.ntmps59 (Nat.le_of_ble_eq_true rfl) ?_
 have H := (St.start w).arg hx
 have nhx := qN hx
 clear hx
 refine qm (qA ?_)
 refine sp (.int .i64 0) ?_
 refine qx (t_n (qm (qm (qA ?_))))
 refine sp (.int .i64 0) ?_
 refine qx (t_n (xE ?_))
 refine zU (fun m' ρ w1 => ∃ (junk : Env) (k : Nat) (r : Int), ρ = upd (upd (upd junk 0 (.slice ax x.length cx)) 1 (.int .i64 r)) 5 (.int .i64 k) ∧ (k ≤ x.length) ∧ (r = kk + (Vr x k : Nat)) ∧ m' = x.length - k ∧ St w w1 [] [isF false Fx (.slice ax x.length cx) x]) (x.length - 0) ⟨_, 0, kk, (by exact qj (qj (qj (rfl) rfl) rfl) rfl), (by omega), (by exact (Int.add_zero _).symm), rfl, H⟩ ?_
 clear H
 rintro m' ρ w2 ⟨junk, k, r, rfl, i0, i1, rfl, H⟩
 have hc := fun h => cnt_get (l := x) (k := k) h
 refine qm (qm (qA ?_))
 refine sps [.int .i64 k, .slice ax x.length cx] ?_
 refine sw (zX Tryz.underlying22 ax x.length cx rfl ?_)
 refine sp (.bool (decide ((k : Int) < x.length))) ?_
 refine qx (t_n ?_)
 refine qW (decide ((k : Int) < x.length)) rfl (fun h3 => ?_) (fun h3 => ?_)
 ·skip
  replace h3 := of_decide_eq_true h3
  have m0 := m k (by omega)
  rw [← i1] at m0
  replace m0 : x[k]! = r := m0
  refine xk (t_n (qm (xE (qm (qm (qA ?_))))))
  refine sps [.slice ax x.length cx, .int .i64 k] ?_
  obtain ⟨b4, o5, rfl⟩ := H.addr 0 rfl (by omega)
  refine sw (xK k Tryz.underlying22 ti2 rfl rfl (by omega) (by omega) ?_)
  refine sw (qE (.int .i64 (x[k]!)) Tryz.isAgg2 rfl (H.jq 0 rfl k (by omega) (by omega)) ?_)
  refine sps [.int .i64 r, .bool ((x[k]! : Int) != r)] ?_
  refine qx (t_n ?_)
  refine qW ((x[k]! : Int) != r) rfl (fun h6 => ?_) (fun h6 => ?_)
  ·skip
   replace h6 := bne_iff_ne.1 h6
   refine qm (qA ?_)
   refine sp (.int .i64 (-1)) ?_
   refine qx (t_n (xC (t_r (b_r (t_r (t_r (b_r (t_r ?_))))))))
   refine ret1 (.int .i64 (-1)) rfl rfl ⟨_, rfl, ?_, H.base⟩
   exfalso; first | omega | (exact absurd ‹_› ‹¬ _›) | simp_all
  replace h6 := xR h6
  refine xk (t_n (qA ?_))
  refine sp (.int .i64 r) ?_
  refine sw (zZ r 1 rfl rfl (by (have := hc (by omega); have e : cnt (x[k]!) = 1 := rfl; omega)) ?_)
  refine sp (.int .i64 (r + 1)) ?_
  refine qx (b_n (t_n (qA ?_)))
  refine sp (.int .i64 k) ?_
  refine sw (zZ k 1 rfl rfl (by (have := hc (by omega); have e : cnt (x[k]!) = 1 := rfl; omega)) ?_)
  refine sp (.int .i64 (k + 1)) ?_
  refine qx ?_
  refine xH (m' := x.length - (k + 1)) (by omega) ⟨_, k + 1, r + 1, (by exact qj (qj (qj (rfl) rfl) rfl) rfl), ?_, ?_, rfl, H⟩
  · omega
  · rw [y9]; have e : cnt (x[k]!) = 1 := rfl; omega
 replace h3 := of_decide_eq_false h3
 refine zK (t_x (t_x (b_x (t_n (qm (qA ?_))))))
 refine sps [.int .i64 r, .int .i64 r] ?_
 refine qx (t_n (xC ?_))
 refine ret1 (.int .i64 r) rfl rfl ⟨_, rfl, ?_, H.base⟩
 first | rfl | (refine congrArg (Value.int .i64) ?_; obtain rfl : k = x.length := (by omega); exact i1)

theorem heldBoolS_ok (w : World) (x : List Bool) (kk : Int) (ax : Option Addr) (cx : Nat) (Fx : List Nat) (hx : qV.rep w Fx [.slice ax x.length cx] x) (m : mkd x kk) (p0 : 0 ≤ kk) (p1 : kk + (cnt x : Nat) ≤ 4611686018427387904) : Calls Tryz.prog 68 #[.slice ax x.length cx, .int .i64 kk] w (Ret (fun v w' => v = .int .i64 (kk + (cnt x : Nat))) w) := by
 refine enter (n := 23) Tryz.func68 rfl Tryz.ntmps68 (Nat.le_of_ble_eq_true rfl) ?_
 have H := (St.start w).arg hx
 have nhx := qN hx
 clear hx
 refine qm (qA ?_)
 refine sp (.int .i64 0) ?_
 refine qx (t_n (qm (qm (qA ?_))))
 refine sp (.int .i64 0) ?_
 refine qx (t_n (xE ?_))
 refine zU (fun m' ρ w1 => ∃ (junk : Env) (k : Nat) (r : Int), ρ = upd (upd (upd junk 0 (.slice ax x.length cx)) 1 (.int .i64 r)) 5 (.int .i64 k) ∧ (k ≤ x.length) ∧ (r = kk + (Vr x k : Nat)) ∧ m' = x.length - k ∧ St w w1 [] [isF false Fx (.slice ax x.length cx) x]) (x.length - 0) ⟨_, 0, kk, (by exact qj (qj (qj (rfl) rfl) rfl) rfl), (by omega), (by exact (Int.add_zero _).symm), rfl, H⟩ ?_
 clear H
 rintro m' ρ w2 ⟨junk, k, r, rfl, i0, i1, rfl, H⟩
 have hc := fun h => cnt_get (l := x) (k := k) h
 refine qm (qm (qA ?_))
 refine sps [.int .i64 k, .slice ax x.length cx] ?_
 refine sw (zX Tryz.underlying26 ax x.length cx rfl ?_)
 refine sp (.bool (decide ((k : Int) < x.length))) ?_
 refine qx (t_n ?_)
 refine qW (decide ((k : Int) < x.length)) rfl (fun h3 => ?_) (fun h3 => ?_)
 ·skip
  replace h3 := of_decide_eq_true h3
  have m0 := m k (by omega)
  rw [← i1] at m0
  replace m0 : x[k]! = (r % 3 == 0) := m0
  refine xk (t_n (qm (xE (qm (qm (qA ?_))))))
  refine sps [.slice ax x.length cx, .int .i64 k] ?_
  obtain ⟨b4, o5, rfl⟩ := H.addr 0 rfl (by omega)
  refine sw (xK k Tryz.underlying26 ti4 rfl rfl (by omega) (by omega) ?_)
  refine sw (qE (.bool (x[k]!)) Tryz.isAgg4 rfl (H.Q7 0 rfl k (by omega) (by omega)) ?_)
  refine sp (.int .i64 r) ?_
  refine sw (o_rem r 3 rfl rfl (by (have := hc (by omega); have e : cnt (x[k]!) = 1 := rfl; omega)) (by omega) (by (have := hc (by omega); have e : cnt (x[k]!) = 1 := rfl; omega)) ?_)
  refine sp (.bool ((r % 3 : Int) == 0)) ?_
  refine sw (o_neB Tryz.underlying4 (x[k]!) ((r % 3 : Int) == 0) rfl rfl ?_)
  refine qx (t_n ?_)
  refine qW ((x[k]!) != ((r % 3 : Int) == 0)) rfl (fun h6 => ?_) (fun h6 => ?_)
  ·skip
   replace h6 := bne_iff_ne.1 h6
   refine qm (qA ?_)
   refine sp (.int .i64 (-1)) ?_
   refine qx (t_n (xC (t_r (b_r (t_r (t_r (b_r (t_r ?_))))))))
   refine ret1 (.int .i64 (-1)) rfl rfl ⟨_, rfl, ?_, H.base⟩
   exfalso; first | omega | (exact absurd ‹_› ‹¬ _›) | simp_all
  replace h6 := xR h6
  refine xk (t_n (qA ?_))
  refine sp (.int .i64 r) ?_
  refine sw (zZ r 1 rfl rfl (by (have := hc (by omega); have e : cnt (x[k]!) = 1 := rfl; omega)) ?_)
  refine sp (.int .i64 (r + 1)) ?_
  refine qx (b_n (t_n (qA ?_)))
  refine sp (.int .i64 k) ?_
  refine sw (zZ k 1 rfl rfl (by (have := hc (by omega); have e : cnt (x[k]!) = 1 := rfl; omega)) ?_)
  refine sp (.int .i64 (k + 1)) ?_
  refine qx ?_
  refine xH (m' := x.length - (k + 1)) (by omega) ⟨_, k + 1, r + 1, (by exact qj (qj (qj (rfl) rfl) rfl) rfl), ?_, ?_, rfl, H⟩
  · omega
  · rw [y9]; have e : cnt (x[k]!) = 1 := rfl; omega
 replace h3 := of_decide_eq_false h3
 refine zK (t_x (t_x (b_x (t_n (qm (qA ?_))))))
 refine sps [.int .i64 r, .int .i64 r] ?_
 refine qx (t_n (xC ?_))
 refine ret1 (.int .i64 r) rfl rfl ⟨_, rfl, ?_, H.base⟩
 first | rfl | (refine congrArg (Value.int .i64) ?_; obtain rfl : k = x.length := (by omega); exact i1)

theorem heldInt64SS_ok (w : World) (x : List (List Int)) (kk : Int) (ax : Option Addr) (cx : Nat) (Fx : List Nat) (hx : qV.rep w Fx [.slice ax x.length cx] x) (m : mkd x kk) (p0 : 0 ≤ kk) (p1 : kk + (cnt x : Nat) ≤ 4611686018427387904) : Calls Tryz.prog 20 #[.slice ax x.length cx, .int .i64 kk] w (Ret (fun v w' => v = .int .i64 (kk + (cnt x : Nat))) w) := by
 refine enter (n := 21) Tryz.func20 rfl Tryz.ntmps20 (Nat.le_of_ble_eq_true rfl) ?_
 have H := (St.start w).arg hx
 have nhx := qN hx
 clear hx
 refine qm (qA ?_)
 refine sp (.int .i64 0) ?_
 refine qx (t_n (qm (qm (qA ?_))))
 refine sp (.int .i64 0) ?_
 refine qx (t_n (xE ?_))
 refine zU (fun m' ρ w1 => ∃ (junk : Env) (k : Nat) (r : Int), ρ = upd (upd (upd junk 0 (.slice ax x.length cx)) 1 (.int .i64 r)) 5 (.int .i64 k) ∧ (k ≤ x.length) ∧ (r = kk + (Vr x k : Nat)) ∧ m' = x.length - k ∧ St w w1 [] [isF false Fx (.slice ax x.length cx) x]) (x.length - 0) ⟨_, 0, kk, (by exact qj (qj (qj (rfl) rfl) rfl) rfl), (by omega), (by exact (Int.add_zero _).symm), rfl, H⟩ ?_
 clear H
 rintro m' ρ w2 ⟨junk, k, r, rfl, i0, i1, rfl, H⟩
 have hc := fun h => cnt_get (l := x) (k := k) h
 refine qm (qm (qA ?_))
 refine sps [.int .i64 k, .slice ax x.length cx] ?_
 refine sw (zX Tryz.underlying27 ax x.length cx rfl ?_)
 refine sp (.bool (decide ((k : Int) < x.length))) ?_
 refine qx (t_n ?_)
 refine qW (decide ((k : Int) < x.length)) rfl (fun h3 => ?_) (fun h3 => ?_)
 ·skip
  replace h3 := of_decide_eq_true h3
  have m0 := m k (by omega)
  rw [← i1] at m0
  refine xk (t_n (qm (xE (qm (qA ?_)))))
  refine sps [.slice ax x.length cx, .int .i64 k] ?_
  obtain ⟨b4, o5, rfl⟩ := H.addr 0 rfl (by omega)
  obtain ⟨ae6, ce6, Fe6, H⟩ := H.yH 0 rfl k k (by omega) (by omega) (by omega)
  refine sw (xK k Tryz.underlying27 ti22 rfl rfl (by omega) (by omega) ?_)
  refine sw (qE (.slice ae6 ((x[k]!).length) ce6) Tryz.isAgg22 rfl (H.xY 1 rfl 0 rfl) ?_)
  refine sp (.int .i64 r) ?_
  refine sw (qZ #[.slice ae6 ((x[k]!).length) ce6, .int .i64 r] rfl rfl Tryz.call59 (heldInt64S_ok w2 (x[k]!) r ae6 ce6 Fe6 (H.get 0 rfl).1 (by assumption) (by (have := hc (by omega); skip; omega)) (by (have := hc (by omega); skip; omega))) ?_)
  rintro _ w7 rfl x8
  replace H := H.ext x8
  refine sp (.int .i64 (r + (cnt (x[k]!) : Nat))) ?_
  refine qx (t_n (qm (qA ?_)))
  refine sps [.int .i64 (r + (cnt (x[k]!) : Nat)), .bool (decide ((r + (cnt (x[k]!) : Nat) : Int) < 0))] ?_
  refine qx (t_n ?_)
  refine qW (decide ((r + (cnt (x[k]!) : Nat) : Int) < 0)) rfl (fun h9 => ?_) (fun h9 => ?_)
  ·skip
   replace h9 := of_decide_eq_true h9
   refine qm (qA ?_)
   refine sp (.int .i64 (-1)) ?_
   refine qx (t_n (xC (b_r (t_r (t_r (b_r (t_r ?_)))))))
   refine ret1 (.int .i64 (-1)) rfl rfl ⟨_, rfl, ?_, H.base⟩
   exfalso; first | omega | (exact absurd ‹_› ‹¬ _›) | simp_all
  replace h9 := of_decide_eq_false h9
  refine xk (b_n (t_n (qA ?_)))
  refine sp (.int .i64 k) ?_
  refine sw (zZ k 1 rfl rfl (by (have := hc (by omega); skip; omega)) ?_)
  refine sp (.int .i64 (k + 1)) ?_
  refine qx ?_
  refine xH (m' := x.length - (k + 1)) (by omega) ⟨_, k + 1, r + (cnt (x[k]!) : Nat), (by exact qj (qj (qj (rfl) rfl) rfl) rfl), ?_, ?_, rfl, H.sel _ (.refl _) _ (by simp)⟩
  · omega
  · rw [y9]; skip; omega
 replace h3 := of_decide_eq_false h3
 refine zK (t_x (t_x (b_x (t_n (qm (qA ?_))))))
 refine sps [.int .i64 r, .int .i64 r] ?_
 refine qx (t_n (xC ?_))
 refine ret1 (.int .i64 r) rfl rfl ⟨_, rfl, ?_, H.base⟩
 first | rfl | (refine congrArg (Value.int .i64) ?_; obtain rfl : k = x.length := (by omega); exact i1)

theorem heldState_ok (w : World) (x : qU) (kk : Int) (vJ : Option Addr) (vI : Nat) (Qs : List Nat) (jM : Option Addr) (jL : Nat) (Xj : List Nat) (zG : Option Addr) (zF : Nat) (yz : List Nat) (Xd : qV.rep w Qs [.slice vJ x.qh.length vI] x.qh) (Vz : qV.rep w Xj [.slice jM x.qp.length jL] x.qp) (Qu : qV.rep w yz [.slice zG x.ql.length zF] x.ql) (m0 : mkd x.qh (kk)) (m1 : mkd x.qp (kk + (cnt x.qh : Nat))) (m2 : mkd x.ql (kk + (cnt x.qh : Nat) + (cnt x.qp : Nat))) (p0 : 0 ≤ kk) (p1 : kk + (cnt x.qh : Nat) + (cnt x.qp : Nat) + (cnt x.ql : Nat) ≤ 4611686018427387904) : Calls Tryz.prog 23 #[.agg #[.slice vJ x.qh.length vI, .slice jM x.qp.length jL, .slice zG x.ql.length zF], .int .i64 kk] w (Ret (fun v w' => v = .int .i64 (kk + (cnt x.qh : Nat) + (cnt x.qp : Nat) + (cnt x.ql : Nat))) w) := by
 refine enter (n := 24) Tryz.func23 rfl Tryz.ntmps23 (Nat.le_of_ble_eq_true rfl) ?_
 have H := (((St.start w).arg Qu).arg Vz).arg Xd
 have nhxAlive := qN Xd
 have nhxBags := qN Vz
 have nhxAround := qN Qu
 clear Xd Vz Qu
 refine qm (qA ?_)
 refine sw (o_box H (.agg #[.slice vJ x.qh.length vI, .slice jM x.qp.length jL, .slice zG x.ql.length zF]) rfl fun b1 w2 H => ?_)
 replace H : St _ _ [.box b1 [.slice vJ x.qh.length vI, .slice jM x.qp.length jL, .slice zG x.ql.length zF] 38] _ := H
 refine sp (.int .i64 0) ?_
 refine qx (t_n (qm (qA ?_)))
 refine sw (qP b1 (0) 0 Tryz.underlying38 rfl rfl Tryz.sizeOf26 rfl ?_)
 refine sw (qE (.slice vJ x.qh.length vI) Tryz.isAgg26 rfl (H.cell 0 rfl rfl) ?_)
 refine sp (.int .i64 kk) ?_
 refine sw (qZ #[.slice vJ x.qh.length vI, .int .i64 kk] rfl rfl Tryz.call68 (heldBoolS_ok w2 x.qh kk vJ vI Qs (H.get 0 rfl).1 (by assumption) (by omega) (by omega)) ?_)
 rintro _ w3 rfl x4
 replace H := H.ext x4
 refine sp (.int .i64 (kk + (cnt x.qh : Nat))) ?_
 refine qx (t_n (qm (qm (qA ?_))))
 refine sps [.int .i64 (kk + (cnt x.qh : Nat)), .bool (decide ((kk + (cnt x.qh : Nat) : Int) < 0))] ?_
 refine qx (t_n ?_)
 refine qW (decide ((kk + (cnt x.qh : Nat) : Int) < 0)) rfl (fun h5 => ?_) (fun h5 => ?_)
 ·skip
  replace h5 := of_decide_eq_true h5
  refine qm (qA ?_)
  refine sp (.int .i64 (-1)) ?_
  refine qx (t_n (xC (t_r ?_)))
  refine ret1 (.int .i64 (-1)) rfl rfl ⟨_, rfl, ?_, H.base⟩
  exfalso; omega
 replace h5 := of_decide_eq_false h5
 refine xk (t_n (qm (qA ?_)))
 refine sw (qP b1 (0) 1 Tryz.underlying38 rfl rfl Tryz.sizeOf27 rfl ?_)
 refine sw (qE (.slice jM x.qp.length jL) Tryz.isAgg27 rfl (H.cell 0 rfl rfl) ?_)
 refine sp (.int .i64 (kk + (cnt x.qh : Nat))) ?_
 refine sw (qZ #[.slice jM x.qp.length jL, .int .i64 (kk + (cnt x.qh : Nat))] rfl rfl Tryz.call20 (heldInt64SS_ok w3 x.qp (kk + (cnt x.qh : Nat)) jM jL Xj (H.get 1 rfl).1 (by assumption) (by omega) (by omega)) ?_)
 rintro _ w6 rfl x7
 replace H := H.ext x7
 refine sp (.int .i64 ((kk + (cnt x.qh : Nat)) + (cnt x.qp : Nat))) ?_
 refine qx (t_n (qm (qm (qA ?_))))
 refine sps [.int .i64 ((kk + (cnt x.qh : Nat)) + (cnt x.qp : Nat)), .bool (decide (((kk + (cnt x.qh : Nat)) + (cnt x.qp : Nat) : Int) < 0))] ?_
 refine qx (t_n ?_)
 refine qW (decide (((kk + (cnt x.qh : Nat)) + (cnt x.qp : Nat) : Int) < 0)) rfl (fun h8 => ?_) (fun h8 => ?_)
 ·skip
  replace h8 := of_decide_eq_true h8
  refine qm (qA ?_)
  refine sp (.int .i64 (-1)) ?_
  refine qx (t_n (xC (t_r ?_)))
  refine ret1 (.int .i64 (-1)) rfl rfl ⟨_, rfl, ?_, H.base⟩
  exfalso; omega
 replace h8 := of_decide_eq_false h8
 refine xk (t_n (qm (qA ?_)))
 refine sw (qP b1 (0) 2 Tryz.underlying38 rfl rfl Tryz.sizeOf22 rfl ?_)
 refine sw (qE (.slice zG x.ql.length zF) Tryz.isAgg22 rfl (H.cell 0 rfl rfl) ?_)
 refine sp (.int .i64 ((kk + (cnt x.qh : Nat)) + (cnt x.qp : Nat))) ?_
 refine sw (qZ #[.slice zG x.ql.length zF, .int .i64 ((kk + (cnt x.qh : Nat)) + (cnt x.qp : Nat))] rfl rfl Tryz.call59 (heldInt64S_ok w6 x.ql ((kk + (cnt x.qh : Nat)) + (cnt x.qp : Nat)) zG zF yz (H.get 2 rfl).1 (by assumption) (by omega) (by omega)) ?_)
 rintro _ w9 rfl x10
 replace H := H.ext x10
 refine sp (.int .i64 (((kk + (cnt x.qh : Nat)) + (cnt x.qp : Nat)) + (cnt x.ql : Nat))) ?_
 refine qx (t_n (qm (qm (qA ?_))))
 refine sps [.int .i64 (((kk + (cnt x.qh : Nat)) + (cnt x.qp : Nat)) + (cnt x.ql : Nat)), .bool (decide ((((kk + (cnt x.qh : Nat)) + (cnt x.qp : Nat)) + (cnt x.ql : Nat) : Int) < 0))] ?_
 refine qx (t_n ?_)
 refine qW (decide ((((kk + (cnt x.qh : Nat)) + (cnt x.qp : Nat)) + (cnt x.ql : Nat) : Int) < 0)) rfl (fun h11 => ?_) (fun h11 => ?_)
 ·skip
  replace h11 := of_decide_eq_true h11
  refine qm (qA ?_)
  refine sp (.int .i64 (-1)) ?_
  refine qx (t_n (xC (t_r ?_)))
  refine ret1 (.int .i64 (-1)) rfl rfl ⟨_, rfl, ?_, H.base⟩
  exfalso; omega
 replace h11 := of_decide_eq_false h11
 refine xk (t_n (qm (qA ?_)))
 refine sps [.int .i64 (((kk + (cnt x.qh : Nat)) + (cnt x.qp : Nat)) + (cnt x.ql : Nat)), .int .i64 (((kk + (cnt x.qh : Nat)) + (cnt x.qp : Nat)) + (cnt x.ql : Nat))] ?_
 refine qx (t_n (xC ?_))
 refine ret1 (.int .i64 (((kk + (cnt x.qh : Nat)) + (cnt x.qp : Nat)) + (cnt x.ql : Nat))) rfl rfl ⟨_, rfl, ?_, H.base⟩
 rfl

end Go.Proofs.YtkmlihdacnfhdaaGreat
