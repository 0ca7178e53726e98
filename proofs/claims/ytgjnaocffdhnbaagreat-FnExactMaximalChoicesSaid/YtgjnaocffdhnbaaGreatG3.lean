/- Walks, printed by program (wip/tools/gv.py): what each function comes to, for all arguments. -/
import Derived.Test.YtgjnaocffdhnbaaGreatT1
import Derived.Test.YtgjnaocffdhnbaaGreatI
import Derived.Test.YtgjnaocffdhnbaaGreatTI
namespace Go.Proofs.YtgjnaocffdhnbaaGreat
set_option linter.unusedVariables false
set_option linter.unusedSimpArgs false
open Go.Proofs.YtgjnaocffdhnbaaGreat.Tot (tot)
open Go.Proofs.YtgjnaocffdhnbaaGreat.Mark (cnt mrk mkd mkd_mark cnt_mark)
open Go.RowKit
set_option linter.unusedVariables false
set_option linter.unusedSimpArgs false
set_option maxRecDepth 100000
set_option maxHeartbeats 4000000

instance iC71_G3 : Qn Tryz.prog 71 := ⟨Tryz.call71⟩


theorem jY (w : World) (x : List Int) (kk : Int) (ax : Option Addr) (cx : Nat) (Fx : List Nat) (hx : qE.rep w Fx [.slice ax x.length cx] x) (nd : Fx.Nodup) (fr : zl w Fx) (p0 : 0 ≤ kk) (p1 : kk + (cnt x : Nat) ≤ 4611686018427387904) : Calls Tryz.prog 68 #[.slice ax x.length cx, .int .i64 kk] w (RetM (fun v w' => v = .int .i64 (kk + (cnt x : Nat)) ∧ (isF true Fx (.slice ax x.length cx) (mrk x kk)).φ w') Fx w) := by
 refine en Tryz.func68 Tryz.ntmps68 ?_
 have H := St.start w
 replace H := H.add (isF true Fx (.slice ax x.length cx) x) ⟨hx, fun _ => fr.sub (by intro z hz; simp [hz])⟩ (start_lt hx)
 have nhx := qA hx
 clear hx
 have C : Chg Fx w w := Chg.refl _ _
 have N : ([Fx] : List (List Nat)).flatten.Nodup := by simpa using nd
 refine qi (ql ?_)
 refine sp (.int .i64 0) ?_
 refine qj (t_n (qi (qi (ql ?_))))
 refine sp (.int .i64 0) ?_
 refine qj (t_n (qW ?_))
 replace H : St w w [] [isF true Fx (.slice ax x.length cx) (zD x kk 0)] := by rw [markTo_zero]; exact H
 refine zf (fun m' ρ w1 => ∃ (junk : Env) (k : Nat) (r : Int) (W : World), ρ = upd (upd (upd (upd junk 0 (.slice ax x.length cx)) 1 (.int .i64 r)) 4 (.int .i64 0)) 5 (.int .i64 k) ∧ (k ≤ x.length) ∧ (r = kk + (cntTo x k : Nat)) ∧ (Chg Fx w W) ∧ m' = x.length - k ∧ St W w1 [] [isF true Fx (.slice ax x.length cx) (zD x kk k)]) (x.length - 0) ⟨_, 0, kk, w, (by exact qg (qg (qg (qg (rfl) rfl) rfl) rfl) rfl), (by omega), (by exact (Int.add_zero _).symm), (by exact C), rfl, H⟩ ?_
 clear H
 rintro m' ρ w2 ⟨junk, k, r, W, rfl, i0, i1, C, rfl, H⟩
 have hc := fun h => cnt_get (l := x) (k := k) h
 refine qi (qi (ql ?_))
 refine sps [.int .i64 k, .slice ax x.length cx] ?_
 refine oN rfl ?_
 refine sp (.bool (decide ((k : Int) < x.length))) ?_
 refine qj (t_n ?_)
 refine qC (decide ((k : Int) < x.length)) rfl (fun h3 => ?_) (fun h3 => ?_)
 ·skip
  replace h3 := of_decide_eq_true h3
  refine qM (t_n (qi (qW (qi (ql ?_)))))
  refine sps [.slice ax x.length cx, .int .i64 k, .int .i64 r] ?_
  obtain ⟨b4, o5, rfl⟩ := H.addr 0 rfl (by rw [zN _ _ (by omega)]; omega)
  obtain ⟨xs1, xs2, G1, G2, rfl, hx, H, N⟩ := H.open_Int nd k (by rw [zN _ _ (by omega)]; omega) (markTo_get _ _ (by omega))
  refine oI rfl rfl ?_
  refine sw (o_storeHole H N _ 0 hx (.int .i64 r) Tryz.sizeOf2 rfl rfl rfl (Nat.le_of_ble_eq_true rfl) fun w6 W7 C8 H => ?_)
  replace C := C.trans (C8.mono (hole_sub _ _ _ _))
  replace H : St _ _ _ [Q9 b4 o5 xs1 [.int .i64 r] xs2 G1 G2 ((zD x kk k).take k) ((zD x kk k).drop (k + 1))] := H
  refine qj (t_n (ql ?_))
  refine sp (.int .i64 r) ?_
  refine sw (zk r 1 rfl rfl (by (have := hc (by omega); have e : cnt (x[k]!) = 1 := rfl; omega)) ?_)
  refine sp (.int .i64 (r + 1)) ?_
  refine qj (b_n (t_n (ql ?_)))
  refine sp (.int .i64 k) ?_
  refine sw (zk k 1 rfl rfl (by (have := hc (by omega); have e : cnt (x[k]!) = 1 := rfl; omega)) ?_)
  refine sp (.int .i64 (k + 1)) ?_
  refine qj ?_
  replace H := H.closeAt (y := mrk (x[k]!) r) (m := x.length) (c := cx) ⟨rfl, rfl⟩ (zl.nil _) (by intro z hz; simp at hz) (zD x kk (k + 1)) (by subst i1; exact markTo_step _ _ (by omega)) (zN _ _ (by omega)) (by rw [zN _ _ (by omega)]; exact nhx)
  refine xk (m' := x.length - (k + 1)) (by omega) ⟨_, k + 1, r + 1, W7, (by exact qg (qg (qg (qg (rfl) rfl) rfl) rfl) rfl), ?_, ?_, ?_, rfl, H⟩
  · omega
  · rw [yj]; have e : cnt (x[k]!) = 1 := rfl; omega
  · exact C
 replace h3 := of_decide_eq_false h3
 refine xQ (t_x (t_x (b_x (t_n (qi (ql ?_))))))
 refine sps [.int .i64 r, .int .i64 r] ?_
 refine qj (t_n (qV ?_))
 obtain rfl : k = x.length := by omega
 refine ret1 (.int .i64 r) rfl rfl ⟨_, rfl, ⟨?_, H.get 0 rfl⟩, C.trans (Chg.ofExt H.base)⟩
 first | rfl | (refine congrArg (Value.int .i64) ?_; rw [cnt_list]; omega)

theorem markBoolS_ok (w : World) (x : List Bool) (kk : Int) (ax : Option Addr) (cx : Nat) (Fx : List Nat) (hx : qE.rep w Fx [.slice ax x.length cx] x) (nd : Fx.Nodup) (fr : zl w Fx) (p0 : 0 ≤ kk) (p1 : kk + (cnt x : Nat) ≤ 4611686018427387904) : Calls Tryz.prog 70 #[.slice ax x.length cx, .int .i64 kk] w (RetM (fun v w' => v = .int .i64 (kk + (cnt x : Nat)) ∧ (isF true Fx (.slice ax x.length cx) (mrk x kk)).φ w') Fx w) := by
 refine en Tryz.func70 Tryz.ntmps70 ?_
 have H := St.start w
 replace H := H.add (isF true Fx (.slice ax x.length cx) x) ⟨hx, fun _ => fr.sub (by intro z hz; simp [hz])⟩ (start_lt hx)
 have nhx := qA hx
 clear hx
 have C : Chg Fx w w := Chg.refl _ _
 have N : ([Fx] : List (List Nat)).flatten.Nodup := by simpa using nd
 refine qi (ql ?_)
 refine sp (.int .i64 0) ?_
 refine qj (t_n (qi (qi (ql ?_))))
 refine sp (.int .i64 0) ?_
 refine qj (t_n (qW ?_))
 replace H : St w w [] [isF true Fx (.slice ax x.length cx) (zD x kk 0)] := by rw [markTo_zero]; exact H
 refine zf (fun m' ρ w1 => ∃ (junk : Env) (k : Nat) (r : Int) (W : World), ρ = upd (upd (upd (upd junk 0 (.slice ax x.length cx)) 1 (.int .i64 r)) 4 (.int .i64 0)) 5 (.int .i64 k) ∧ (k ≤ x.length) ∧ (r = kk + (cntTo x k : Nat)) ∧ (Chg Fx w W) ∧ m' = x.length - k ∧ St W w1 [] [isF true Fx (.slice ax x.length cx) (zD x kk k)]) (x.length - 0) ⟨_, 0, kk, w, (by exact qg (qg (qg (qg (rfl) rfl) rfl) rfl) rfl), (by omega), (by exact (Int.add_zero _).symm), (by exact C), rfl, H⟩ ?_
 clear H
 rintro m' ρ w2 ⟨junk, k, r, W, rfl, i0, i1, C, rfl, H⟩
 have hc := fun h => cnt_get (l := x) (k := k) h
 refine qi (qi (ql ?_))
 refine sps [.int .i64 k, .slice ax x.length cx] ?_
 refine oN rfl ?_
 refine sp (.bool (decide ((k : Int) < x.length))) ?_
 refine qj (t_n ?_)
 refine qC (decide ((k : Int) < x.length)) rfl (fun h3 => ?_) (fun h3 => ?_)
 ·skip
  replace h3 := of_decide_eq_true h3
  refine qM (t_n (qi (qW (qi (ql ?_)))))
  refine sps [.slice ax x.length cx, .int .i64 k, .int .i64 r] ?_
  refine sw (o_rem r 3 rfl rfl (by (have := hc (by omega); have e : cnt (x[k]!) = 1 := rfl; omega)) (by omega) (by (have := hc (by omega); have e : cnt (x[k]!) = 1 := rfl; omega)) ?_)
  refine sp (.bool ((r % 3 : Int) == 0)) ?_
  obtain ⟨b4, o5, rfl⟩ := H.addr 0 rfl (by rw [zN _ _ (by omega)]; omega)
  obtain ⟨xs1, xs2, G1, G2, rfl, hx, H, N⟩ := H.open_Bool nd k (by rw [zN _ _ (by omega)]; omega) (markTo_get _ _ (by omega))
  refine oI rfl rfl ?_
  refine sw (o_storeHole H N _ 0 hx (.bool ((r % 3 : Int) == 0)) Tryz.sizeOf4 rfl rfl rfl (Nat.le_of_ble_eq_true rfl) fun w6 W7 C8 H => ?_)
  replace C := C.trans (C8.mono (hole_sub _ _ _ _))
  replace H : St _ _ _ [Q9 b4 o5 xs1 [.bool ((r % 3 : Int) == 0)] xs2 G1 G2 ((zD x kk k).take k) ((zD x kk k).drop (k + 1))] := H
  refine qj (t_n (ql ?_))
  refine sp (.int .i64 r) ?_
  refine sw (zk r 1 rfl rfl (by (have := hc (by omega); have e : cnt (x[k]!) = 1 := rfl; omega)) ?_)
  refine sp (.int .i64 (r + 1)) ?_
  refine qj (b_n (t_n (ql ?_)))
  refine sp (.int .i64 k) ?_
  refine sw (zk k 1 rfl rfl (by (have := hc (by omega); have e : cnt (x[k]!) = 1 := rfl; omega)) ?_)
  refine sp (.int .i64 (k + 1)) ?_
  refine qj ?_
  replace H := H.closeAt (y := mrk (x[k]!) r) (m := x.length) (c := cx) ⟨rfl, rfl⟩ (zl.nil _) (by intro z hz; simp at hz) (zD x kk (k + 1)) (by subst i1; exact markTo_step _ _ (by omega)) (zN _ _ (by omega)) (by rw [zN _ _ (by omega)]; exact nhx)
  refine xk (m' := x.length - (k + 1)) (by omega) ⟨_, k + 1, r + 1, W7, (by exact qg (qg (qg (qg (rfl) rfl) rfl) rfl) rfl), ?_, ?_, ?_, rfl, H⟩
  · omega
  · rw [yj]; have e : cnt (x[k]!) = 1 := rfl; omega
  · exact C
 replace h3 := of_decide_eq_false h3
 refine xQ (t_x (t_x (b_x (t_n (qi (ql ?_))))))
 refine sps [.int .i64 r, .int .i64 r] ?_
 refine qj (t_n (qV ?_))
 obtain rfl : k = x.length := by omega
 refine ret1 (.int .i64 r) rfl rfl ⟨_, rfl, ⟨?_, H.get 0 rfl⟩, C.trans (Chg.ofExt H.base)⟩
 first | rfl | (refine congrArg (Value.int .i64) ?_; rw [cnt_list]; omega)

theorem markInt64SS_ok (w : World) (x : List (List Int)) (kk : Int) (ax : Option Addr) (cx : Nat) (Fx : List Nat) (hx : qE.rep w Fx [.slice ax x.length cx] x) (nd : Fx.Nodup) (fr : zl w Fx) (p0 : 0 ≤ kk) (p1 : kk + (cnt x : Nat) ≤ 4611686018427387904) : Calls Tryz.prog 25 #[.slice ax x.length cx, .int .i64 kk] w (RetM (fun v w' => v = .int .i64 (kk + (cnt x : Nat)) ∧ (isF true Fx (.slice ax x.length cx) (mrk x kk)).φ w') Fx w) := by
 refine en Tryz.func25 Tryz.ntmps25 ?_
 have H := St.start w
 replace H := H.add (isF true Fx (.slice ax x.length cx) x) ⟨hx, fun _ => fr.sub (by intro z hz; simp [hz])⟩ (start_lt hx)
 have nhx := qA hx
 clear hx
 have C : Chg Fx w w := Chg.refl _ _
 have N : ([Fx] : List (List Nat)).flatten.Nodup := by simpa using nd
 refine qi (ql ?_)
 refine sp (.int .i64 0) ?_
 refine qj (t_n (qi (qi (ql ?_))))
 refine sp (.int .i64 0) ?_
 refine qj (t_n (qW ?_))
 replace H : St w w [] [isF true Fx (.slice ax x.length cx) (zD x kk 0)] := by rw [markTo_zero]; exact H
 refine zf (fun m' ρ w1 => ∃ (junk : Env) (k : Nat) (r : Int) (W : World), ρ = upd (upd (upd (upd junk 0 (.slice ax x.length cx)) 1 (.int .i64 r)) 4 (.int .i64 0)) 5 (.int .i64 k) ∧ (k ≤ x.length) ∧ (r = kk + (cntTo x k : Nat)) ∧ (Chg Fx w W) ∧ m' = x.length - k ∧ St W w1 [] [isF true Fx (.slice ax x.length cx) (zD x kk k)]) (x.length - 0) ⟨_, 0, kk, w, (by exact qg (qg (qg (qg (rfl) rfl) rfl) rfl) rfl), (by omega), (by exact (Int.add_zero _).symm), (by exact C), rfl, H⟩ ?_
 clear H
 rintro m' ρ w2 ⟨junk, k, r, W, rfl, i0, i1, C, rfl, H⟩
 have hc := fun h => cnt_get (l := x) (k := k) h
 refine qi (qi (ql ?_))
 refine sps [.int .i64 k, .slice ax x.length cx] ?_
 refine oN rfl ?_
 refine sp (.bool (decide ((k : Int) < x.length))) ?_
 refine qj (t_n ?_)
 refine qC (decide ((k : Int) < x.length)) rfl (fun h3 => ?_) (fun h3 => ?_)
 ·skip
  replace h3 := of_decide_eq_true h3
  refine qM (t_n (qi (qW (ql ?_))))
  refine sps [.slice ax x.length cx, .int .i64 k] ?_
  obtain ⟨b4, o5, rfl⟩ := H.addr 0 rfl (by rw [zN _ _ (by omega)]; omega)
  obtain ⟨xs1, xs2, G1, G2, aq, cq, Fq, rfl, hx, H, N⟩ := H.open_List nd k (by rw [zN _ _ (by omega)]; omega) (markTo_get _ _ (by omega))
  refine oI rfl rfl ?_
  refine oL rfl (H.holeCell _ 0 hx rfl) ?_
  refine sp (.int .i64 r) ?_
  refine sw (QX #[.slice aq ((x[k]!).length) cq, .int .i64 r] rfl rfl Tryz.call68 (jY w2 (x[k]!) r aq cq Fq (H.get 1 rfl).1 (yh N 1 rfl) ((H.get 1 rfl).2 rfl) (by (have := hc (by omega); skip; omega)) (by (have := hc (by omega); skip; omega))) ?_)
  rintro _ w6 ⟨rfl, m10⟩ x8
  obtain ⟨W7, C9, H⟩ := H.chgAt N 1 rfl (isF true Fq (.slice aq ((x[k]!).length) cq) (mrk (x[k]!) r)) rfl x8 m10
  replace C := C.trans (C9.mono (by intro z hz; have hz : z ∈ Fq := hz; simp [hz]))
  replace H : St _ _ _ [Q9 b4 o5 xs1 [.slice aq ((x[k]!).length) cq] xs2 G1 G2 ((zD x kk k).take k) ((zD x kk k).drop (k + 1)), isF true Fq (.slice aq ((x[k]!).length) cq) (mrk (x[k]!) r)] := H
  refine sp (.int .i64 (r + (cnt (x[k]!) : Nat))) ?_
  refine qj (b_n (t_n (ql ?_)))
  refine sp (.int .i64 k) ?_
  refine sw (zk k 1 rfl rfl (by (have := hc (by omega); skip; omega)) ?_)
  refine sp (.int .i64 (k + 1)) ?_
  refine qj ?_
  replace H := H.closeAt (y := mrk (x[k]!) r) (m := x.length) (c := cx) (H.get 1 rfl).1 ((H.get 1 rfl).2 rfl) (H.ltOwn 1 rfl) (zD x kk (k + 1)) (by subst i1; exact markTo_step _ _ (by omega)) (zN _ _ (by omega)) (by rw [zN _ _ (by omega)]; exact nhx)
  refine xk (m' := x.length - (k + 1)) (by omega) ⟨_, k + 1, r + (cnt (x[k]!) : Nat), W7, (by exact qg (qg (qg (qg (rfl) rfl) rfl) rfl) rfl), ?_, ?_, ?_, rfl, H⟩
  · omega
  · rw [yj]; skip; omega
  · exact C
 replace h3 := of_decide_eq_false h3
 refine xQ (t_x (t_x (b_x (t_n (qi (ql ?_))))))
 refine sps [.int .i64 r, .int .i64 r] ?_
 refine qj (t_n (qV ?_))
 obtain rfl : k = x.length := by omega
 refine ret1 (.int .i64 r) rfl rfl ⟨_, rfl, ⟨?_, H.get 0 rfl⟩, C.trans (Chg.ofExt H.base)⟩
 first | rfl | (refine congrArg (Value.int .i64) ?_; rw [cnt_list]; omega)

theorem markIntoS_ok (w : World) (x : List IntoD) (kk : Int) (ax : Option Addr) (cx : Nat) (Fx : List Nat) (hx : qE.rep w Fx [.slice ax x.length cx] x) (nd : Fx.Nodup) (fr : zl w Fx) (p0 : 0 ≤ kk) (p1 : kk + (cnt x : Nat) ≤ 4611686018427387904) : Calls Tryz.prog 110 #[.slice ax x.length cx, .int .i64 kk] w (RetM (fun v w' => v = .int .i64 (kk + (cnt x : Nat)) ∧ (isF true Fx (.slice ax x.length cx) (mrk x kk)).φ w') Fx w) := by
 refine en Tryz.func110 Tryz.ntmps110 ?_
 have H := St.start w
 replace H := H.add (isF true Fx (.slice ax x.length cx) x) ⟨hx, fun _ => fr.sub (by intro z hz; simp [hz])⟩ (start_lt hx)
 have nhx := qA hx
 clear hx
 have C : Chg Fx w w := Chg.refl _ _
 have N : ([Fx] : List (List Nat)).flatten.Nodup := by simpa using nd
 refine qi (ql ?_)
 refine sp (.int .i64 0) ?_
 refine qj (t_n (qi (qi (ql ?_))))
 refine sp (.int .i64 0) ?_
 refine qj (t_n (qW ?_))
 replace H : St w w [] [isF true Fx (.slice ax x.length cx) (zD x kk 0)] := by rw [markTo_zero]; exact H
 refine zf (fun m' ρ w1 => ∃ (junk : Env) (k : Nat) (r : Int) (W : World), ρ = upd (upd (upd (upd junk 0 (.slice ax x.length cx)) 1 (.int .i64 r)) 4 (.int .i64 0)) 5 (.int .i64 k) ∧ (k ≤ x.length) ∧ (r = kk + (cntTo x k : Nat)) ∧ (Chg Fx w W) ∧ m' = x.length - k ∧ St W w1 [] [isF true Fx (.slice ax x.length cx) (zD x kk k)]) (x.length - 0) ⟨_, 0, kk, w, (by exact qg (qg (qg (qg (rfl) rfl) rfl) rfl) rfl), (by omega), (by exact (Int.add_zero _).symm), (by exact C), rfl, H⟩ ?_
 clear H
 rintro m' ρ w2 ⟨junk, k, r, W, rfl, i0, i1, C, rfl, H⟩
 have hc := fun h => cnt_get (l := x) (k := k) h
 refine qi (qi (ql ?_))
 refine sps [.int .i64 k, .slice ax x.length cx] ?_
 refine oN rfl ?_
 refine sp (.bool (decide ((k : Int) < x.length))) ?_
 refine qj (t_n ?_)
 refine qC (decide ((k : Int) < x.length)) rfl (fun h3 => ?_) (fun h3 => ?_)
 ·skip
  replace h3 := of_decide_eq_true h3
  refine qM (t_n (qi (qW (qi (ql ?_)))))
  refine sps [.slice ax x.length cx, .int .i64 k, .int .i64 r] ?_
  obtain ⟨b4, o5, rfl⟩ := H.addr 0 rfl (by rw [zN _ _ (by omega)]; omega)
  obtain ⟨xs1, xs2, G1, G2, aqBag, cqBag, FqBag, rfl, hx, H, N⟩ := H.open_IntoD nd k (by rw [zN _ _ (by omega)]; omega) (markTo_get _ _ (by omega))
  refine oI rfl rfl ?_
  refine oF rfl ?_
  refine sw (o_storeHole H N _ 0 hx (.int .i64 r) Tryz.sizeOf2 rfl rfl rfl (Nat.le_of_ble_eq_true rfl) fun w6 W7 C8 H => ?_)
  replace C := C.trans (C8.mono (hole_sub _ _ _ _))
  replace H : St _ _ _ [Q9 b4 o5 xs1 [.int .i64 r, .slice aqBag (((x[k]!).zZ).length) cqBag] xs2 G1 G2 ((zD x kk k).take k) ((zD x kk k).drop (k + 1)), isF true FqBag (.slice aqBag (((x[k]!).zZ).length) cqBag) ((x[k]!).zZ)] := H
  refine qj (t_n (qi (ql ?_)))
  refine sp (.int .i64 r) ?_
  refine sw (zk r 1 rfl rfl (by (have := hc (by omega); have e := cnt_IntoD (x[k]!); omega)) ?_)
  refine sp (.int .i64 (r + 1)) ?_
  refine qj (t_n (ql ?_))
  refine sps [.slice (aa b4 o5) x.length cx, .int .i64 k] ?_
  refine oI rfl rfl ?_
  refine oF rfl ?_
  refine oL rfl (H.holeCell _ 1 hx rfl) ?_
  refine sp (.int .i64 (r + 1)) ?_
  refine sw (QX #[.slice aqBag (((x[k]!).zZ).length) cqBag, .int .i64 (r + 1)] rfl rfl Tryz.call68 (jY w6 ((x[k]!).zZ) (r + 1) aqBag cqBag FqBag (H.get 1 rfl).1 (yh N 1 rfl) ((H.get 1 rfl).2 rfl) (by (have := hc (by omega); have e := cnt_IntoD (x[k]!); omega)) (by (have := hc (by omega); have e := cnt_IntoD (x[k]!); omega))) ?_)
  rintro _ w9 ⟨rfl, m13⟩ x11
  obtain ⟨W10, C12, H⟩ := H.chgAt N 1 rfl (isF true FqBag (.slice aqBag (((x[k]!).zZ).length) cqBag) (mrk ((x[k]!).zZ) (r + 1))) rfl x11 m13
  replace C := C.trans (C12.mono (by intro z hz; have hz : z ∈ FqBag := hz; simp [hz]))
  replace H : St _ _ _ [Q9 b4 o5 xs1 [.int .i64 r, .slice aqBag (((x[k]!).zZ).length) cqBag] xs2 G1 G2 ((zD x kk k).take k) ((zD x kk k).drop (k + 1)), isF true FqBag (.slice aqBag (((x[k]!).zZ).length) cqBag) (mrk ((x[k]!).zZ) (r + 1))] := H
  refine sp (.int .i64 (r + 1 + (cnt ((x[k]!).zZ) : Nat))) ?_
  refine qj (b_n (t_n (ql ?_)))
  refine sp (.int .i64 k) ?_
  refine sw (zk k 1 rfl rfl (by (have := hc (by omega); have e := cnt_IntoD (x[k]!); omega)) ?_)
  refine sp (.int .i64 (k + 1)) ?_
  refine qj ?_
  replace H := H.closeAt (y := mrk (x[k]!) r) (m := x.length) (c := cx) ⟨_, _, rfl, rfl, (H.get 1 rfl).1⟩ ((H.get 1 rfl).2 rfl) (H.ltOwn 1 rfl) (zD x kk (k + 1)) (by subst i1; exact markTo_step _ _ (by omega)) (zN _ _ (by omega)) (by rw [zN _ _ (by omega)]; exact nhx)
  refine xk (m' := x.length - (k + 1)) (by omega) ⟨_, k + 1, r + 1 + (cnt ((x[k]!).zZ) : Nat), W10, (by exact qg (qg (qg (qg (rfl) rfl) rfl) rfl) rfl), ?_, ?_, ?_, rfl, H⟩
  · omega
  · rw [yj]; have e := cnt_IntoD (x[k]!); omega
  · exact C
 replace h3 := of_decide_eq_false h3
 refine xQ (t_x (t_x (b_x (t_n (qi (ql ?_))))))
 refine sps [.int .i64 r, .int .i64 r] ?_
 refine qj (t_n (qV ?_))
 obtain rfl : k = x.length := by omega
 refine ret1 (.int .i64 r) rfl rfl ⟨_, rfl, ⟨?_, H.get 0 rfl⟩, C.trans (Chg.ofExt H.base)⟩
 first | rfl | (refine congrArg (Value.int .i64) ?_; rw [cnt_list]; omega)

theorem markRuleS_ok (w : World) (x : List Qm) (kk : Int) (ax : Option Addr) (cx : Nat) (Fx : List Nat) (hx : qE.rep w Fx [.slice ax x.length cx] x) (nd : Fx.Nodup) (fr : zl w Fx) (p0 : 0 ≤ kk) (p1 : kk + (cnt x : Nat) ≤ 4611686018427387904) : Calls Tryz.prog 69 #[.slice ax x.length cx, .int .i64 kk] w (RetM (fun v w' => v = .int .i64 (kk + (cnt x : Nat)) ∧ (isF true Fx (.slice ax x.length cx) (mrk x kk)).φ w') Fx w) := by
 refine en Tryz.func69 Tryz.ntmps69 ?_
 have H := St.start w
 replace H := H.add (isF true Fx (.slice ax x.length cx) x) ⟨hx, fun _ => fr.sub (by intro z hz; simp [hz])⟩ (start_lt hx)
 have nhx := qA hx
 clear hx
 have C : Chg Fx w w := Chg.refl _ _
 have N : ([Fx] : List (List Nat)).flatten.Nodup := by simpa using nd
 refine qi (ql ?_)
 refine sp (.int .i64 0) ?_
 refine qj (t_n (qi (qi (ql ?_))))
 refine sp (.int .i64 0) ?_
 refine qj (t_n (qW ?_))
 replace H : St w w [] [isF true Fx (.slice ax x.length cx) (zD x kk 0)] := by rw [markTo_zero]; exact H
 refine zf (fun m' ρ w1 => ∃ (junk : Env) (k : Nat) (r : Int) (W : World), ρ = upd (upd (upd (upd junk 0 (.slice ax x.length cx)) 1 (.int .i64 r)) 4 (.int .i64 0)) 5 (.int .i64 k) ∧ (k ≤ x.length) ∧ (r = kk + (cntTo x k : Nat)) ∧ (Chg Fx w W) ∧ m' = x.length - k ∧ St W w1 [] [isF true Fx (.slice ax x.length cx) (zD x kk k)]) (x.length - 0) ⟨_, 0, kk, w, (by exact qg (qg (qg (qg (rfl) rfl) rfl) rfl) rfl), (by omega), (by exact (Int.add_zero _).symm), (by exact C), rfl, H⟩ ?_
 clear H
 rintro m' ρ w2 ⟨junk, k, r, W, rfl, i0, i1, C, rfl, H⟩
 have hc := fun h => cnt_get (l := x) (k := k) h
 refine qi (qi (ql ?_))
 refine sps [.int .i64 k, .slice ax x.length cx] ?_
 refine oN rfl ?_
 refine sp (.bool (decide ((k : Int) < x.length))) ?_
 refine qj (t_n ?_)
 refine qC (decide ((k : Int) < x.length)) rfl (fun h3 => ?_) (fun h3 => ?_)
 ·skip
  replace h3 := of_decide_eq_true h3
  refine qM (t_n (qi (qW (qi (ql ?_)))))
  refine sps [.slice ax x.length cx, .int .i64 k, .int .i64 r] ?_
  obtain ⟨b4, o5, rfl⟩ := H.addr 0 rfl (by rw [zN _ _ (by omega)]; omega)
  obtain ⟨xs1, xs2, G1, G2, Xf, Xa, FqNeed, Xj, Xe, FqHave, Xg, Xb, FqLack, Xi, Xd, FqHere, aqOut, cqOut, FqOut, Xh, Xc, FqInto, rfl, hx, H, N⟩ := H.open_RuleD nd k (by rw [zN _ _ (by omega)]; omega) (markTo_get _ _ (by omega))
  refine oI rfl rfl ?_
  refine oF rfl ?_
  refine sw (o_storeHole H N _ 0 hx (.int .i64 r) Tryz.sizeOf2 rfl rfl rfl (Nat.le_of_ble_eq_true rfl) fun w6 W7 C8 H => ?_)
  replace C := C.trans (C8.mono (hole_sub _ _ _ _))
  replace H : St _ _ _ [Q9 b4 o5 xs1 [.int .i64 r, .int .i64 ((x[k]!).xN), .slice Xf (((x[k]!).qO).length) Xa, .slice Xj (((x[k]!).qX).length) Xe, .slice Xg (((x[k]!).xe).length) Xb, .slice Xi (((x[k]!).xm).length) Xd, .slice aqOut (((x[k]!).xZ).length) cqOut, .slice Xh (((x[k]!).qF).length) Xc, .bool ((x[k]!).xO)] xs2 G1 G2 ((zD x kk k).take k) ((zD x kk k).drop (k + 1)), isF true FqNeed (.slice Xf (((x[k]!).qO).length) Xa) ((x[k]!).qO), isF true FqHave (.slice Xj (((x[k]!).qX).length) Xe) ((x[k]!).qX), isF true FqLack (.slice Xg (((x[k]!).xe).length) Xb) ((x[k]!).xe), isF true FqHere (.slice Xi (((x[k]!).xm).length) Xd) ((x[k]!).xm), isF true FqOut (.slice aqOut (((x[k]!).xZ).length) cqOut) ((x[k]!).xZ), isF true FqInto (.slice Xh (((x[k]!).qF).length) Xc) ((x[k]!).qF)] := H
  refine qj (t_n (qi (ql ?_)))
  refine sp (.int .i64 r) ?_
  refine sw (zk r 1 rfl rfl (by (have := hc (by omega); have e := ji (x[k]!); omega)) ?_)
  refine sp (.int .i64 (r + 1)) ?_
  refine qj (t_n (qi (ql ?_)))
  refine sps [.slice (aa b4 o5) x.length cx, .int .i64 k, .int .i64 (r + 1)] ?_
  refine oI rfl rfl ?_
  refine oF rfl ?_
  refine sw (o_storeHole H N _ 1 hx (.int .i64 (r + 1)) Tryz.sizeOf2 rfl rfl rfl (Nat.le_of_ble_eq_true rfl) fun w9 W10 C11 H => ?_)
  replace C := C.trans (C11.mono (hole_sub _ _ _ _))
  replace H : St _ _ _ [Q9 b4 o5 xs1 [.int .i64 r, .int .i64 (r + 1), .slice Xf (((x[k]!).qO).length) Xa, .slice Xj (((x[k]!).qX).length) Xe, .slice Xg (((x[k]!).xe).length) Xb, .slice Xi (((x[k]!).xm).length) Xd, .slice aqOut (((x[k]!).xZ).length) cqOut, .slice Xh (((x[k]!).qF).length) Xc, .bool ((x[k]!).xO)] xs2 G1 G2 ((zD x kk k).take k) ((zD x kk k).drop (k + 1)), isF true FqNeed (.slice Xf (((x[k]!).qO).length) Xa) ((x[k]!).qO), isF true FqHave (.slice Xj (((x[k]!).qX).length) Xe) ((x[k]!).qX), isF true FqLack (.slice Xg (((x[k]!).xe).length) Xb) ((x[k]!).xe), isF true FqHere (.slice Xi (((x[k]!).xm).length) Xd) ((x[k]!).xm), isF true FqOut (.slice aqOut (((x[k]!).xZ).length) cqOut) ((x[k]!).xZ), isF true FqInto (.slice Xh (((x[k]!).qF).length) Xc) ((x[k]!).qF)] := H
  refine qj (t_n (qi (ql ?_)))
  refine sp (.int .i64 (r + 1)) ?_
  refine sw (zk (r + 1) 1 rfl rfl (by (have := hc (by omega); have e := ji (x[k]!); omega)) ?_)
  refine sp (.int .i64 ((r + 1) + 1)) ?_
  refine qj (t_n (qi (ql ?_)))
  refine sps [.slice (aa b4 o5) x.length cx, .int .i64 k] ?_
  refine oI rfl rfl ?_
  refine oF rfl ?_
  refine oL rfl (H.holeCell _ 2 hx rfl) ?_
  refine sp (.int .i64 ((r + 1) + 1)) ?_
  refine sw (QX #[.slice Xf (((x[k]!).qO).length) Xa, .int .i64 ((r + 1) + 1)] rfl rfl Tryz.call68 (jY w9 ((x[k]!).qO) ((r + 1) + 1) Xf Xa FqNeed (H.get 1 rfl).1 (yh N 1 rfl) ((H.get 1 rfl).2 rfl) (by (have := hc (by omega); have e := ji (x[k]!); omega)) (by (have := hc (by omega); have e := ji (x[k]!); omega))) ?_)
  rintro _ w12 ⟨rfl, m16⟩ x14
  obtain ⟨W13, C15, H⟩ := H.chgAt N 1 rfl (isF true FqNeed (.slice Xf (((x[k]!).qO).length) Xa) (mrk ((x[k]!).qO) ((r + 1) + 1))) rfl x14 m16
  replace C := C.trans (C15.mono (by intro z hz; have hz : z ∈ FqNeed := hz; simp [hz]))
  replace H : St _ _ _ [Q9 b4 o5 xs1 [.int .i64 r, .int .i64 (r + 1), .slice Xf (((x[k]!).qO).length) Xa, .slice Xj (((x[k]!).qX).length) Xe, .slice Xg (((x[k]!).xe).length) Xb, .slice Xi (((x[k]!).xm).length) Xd, .slice aqOut (((x[k]!).xZ).length) cqOut, .slice Xh (((x[k]!).qF).length) Xc, .bool ((x[k]!).xO)] xs2 G1 G2 ((zD x kk k).take k) ((zD x kk k).drop (k + 1)), isF true FqNeed (.slice Xf (((x[k]!).qO).length) Xa) (mrk ((x[k]!).qO) ((r + 1) + 1)), isF true FqHave (.slice Xj (((x[k]!).qX).length) Xe) ((x[k]!).qX), isF true FqLack (.slice Xg (((x[k]!).xe).length) Xb) ((x[k]!).xe), isF true FqHere (.slice Xi (((x[k]!).xm).length) Xd) ((x[k]!).xm), isF true FqOut (.slice aqOut (((x[k]!).xZ).length) cqOut) ((x[k]!).xZ), isF true FqInto (.slice Xh (((x[k]!).qF).length) Xc) ((x[k]!).qF)] := H
  refine sp (.int .i64 ((r + 1) + 1 + (cnt ((x[k]!).qO) : Nat))) ?_
  refine qj (t_n (qi (ql ?_)))
  refine sps [.slice (aa b4 o5) x.length cx, .int .i64 k] ?_
  refine oI rfl rfl ?_
  refine oF rfl ?_
  refine oL rfl (H.holeCell _ 3 hx rfl) ?_
  refine sp (.int .i64 ((r + 1) + 1 + (cnt ((x[k]!).qO) : Nat))) ?_
  refine sw (QX #[.slice Xj (((x[k]!).qX).length) Xe, .int .i64 ((r + 1) + 1 + (cnt ((x[k]!).qO) : Nat))] rfl rfl Tryz.call68 (jY w12 ((x[k]!).qX) ((r + 1) + 1 + (cnt ((x[k]!).qO) : Nat)) Xj Xe FqHave (H.get 2 rfl).1 (yh N 2 rfl) ((H.get 2 rfl).2 rfl) (by (have := hc (by omega); have e := ji (x[k]!); omega)) (by (have := hc (by omega); have e := ji (x[k]!); omega))) ?_)
  rintro _ w17 ⟨rfl, m21⟩ x19
  obtain ⟨W18, C20, H⟩ := H.chgAt N 2 rfl (isF true FqHave (.slice Xj (((x[k]!).qX).length) Xe) (mrk ((x[k]!).qX) ((r + 1) + 1 + (cnt ((x[k]!).qO) : Nat)))) rfl x19 m21
  replace C := C.trans (C20.mono (by intro z hz; have hz : z ∈ FqHave := hz; simp [hz]))
  replace H : St _ _ _ [Q9 b4 o5 xs1 [.int .i64 r, .int .i64 (r + 1), .slice Xf (((x[k]!).qO).length) Xa, .slice Xj (((x[k]!).qX).length) Xe, .slice Xg (((x[k]!).xe).length) Xb, .slice Xi (((x[k]!).xm).length) Xd, .slice aqOut (((x[k]!).xZ).length) cqOut, .slice Xh (((x[k]!).qF).length) Xc, .bool ((x[k]!).xO)] xs2 G1 G2 ((zD x kk k).take k) ((zD x kk k).drop (k + 1)), isF true FqNeed (.slice Xf (((x[k]!).qO).length) Xa) (mrk ((x[k]!).qO) ((r + 1) + 1)), isF true FqHave (.slice Xj (((x[k]!).qX).length) Xe) (mrk ((x[k]!).qX) ((r + 1) + 1 + (cnt ((x[k]!).qO) : Nat))), isF true FqLack (.slice Xg (((x[k]!).xe).length) Xb) ((x[k]!).xe), isF true FqHere (.slice Xi (((x[k]!).xm).length) Xd) ((x[k]!).xm), isF true FqOut (.slice aqOut (((x[k]!).xZ).length) cqOut) ((x[k]!).xZ), isF true FqInto (.slice Xh (((x[k]!).qF).length) Xc) ((x[k]!).qF)] := H
  refine sp (.int .i64 ((r + 1) + 1 + (cnt ((x[k]!).qO) : Nat) + (cnt ((x[k]!).qX) : Nat))) ?_
  refine qj (t_n (qi (ql ?_)))
  refine sps [.slice (aa b4 o5) x.length cx, .int .i64 k] ?_
  refine oI rfl rfl ?_
  refine oF rfl ?_
  refine oL rfl (H.holeCell _ 4 hx rfl) ?_
  refine sp (.int .i64 ((r + 1) + 1 + (cnt ((x[k]!).qO) : Nat) + (cnt ((x[k]!).qX) : Nat))) ?_
  refine sw (QX #[.slice Xg (((x[k]!).xe).length) Xb, .int .i64 ((r + 1) + 1 + (cnt ((x[k]!).qO) : Nat) + (cnt ((x[k]!).qX) : Nat))] rfl rfl Tryz.call68 (jY w17 ((x[k]!).xe) ((r + 1) + 1 + (cnt ((x[k]!).qO) : Nat) + (cnt ((x[k]!).qX) : Nat)) Xg Xb FqLack (H.get 3 rfl).1 (yh N 3 rfl) ((H.get 3 rfl).2 rfl) (by (have := hc (by omega); have e := ji (x[k]!); omega)) (by (have := hc (by omega); have e := ji (x[k]!); omega))) ?_)
  rintro _ w22 ⟨rfl, m26⟩ x24
  obtain ⟨W23, C25, H⟩ := H.chgAt N 3 rfl (isF true FqLack (.slice Xg (((x[k]!).xe).length) Xb) (mrk ((x[k]!).xe) ((r + 1) + 1 + (cnt ((x[k]!).qO) : Nat) + (cnt ((x[k]!).qX) : Nat)))) rfl x24 m26
  replace C := C.trans (C25.mono (by intro z hz; have hz : z ∈ FqLack := hz; simp [hz]))
  replace H : St _ _ _ [Q9 b4 o5 xs1 [.int .i64 r, .int .i64 (r + 1), .slice Xf (((x[k]!).qO).length) Xa, .slice Xj (((x[k]!).qX).length) Xe, .slice Xg (((x[k]!).xe).length) Xb, .slice Xi (((x[k]!).xm).length) Xd, .slice aqOut (((x[k]!).xZ).length) cqOut, .slice Xh (((x[k]!).qF).length) Xc, .bool ((x[k]!).xO)] xs2 G1 G2 ((zD x kk k).take k) ((zD x kk k).drop (k + 1)), isF true FqNeed (.slice Xf (((x[k]!).qO).length) Xa) (mrk ((x[k]!).qO) ((r + 1) + 1)), isF true FqHave (.slice Xj (((x[k]!).qX).length) Xe) (mrk ((x[k]!).qX) ((r + 1) + 1 + (cnt ((x[k]!).qO) : Nat))), isF true FqLack (.slice Xg (((x[k]!).xe).length) Xb) (mrk ((x[k]!).xe) ((r + 1) + 1 + (cnt ((x[k]!).qO) : Nat) + (cnt ((x[k]!).qX) : Nat))), isF true FqHere (.slice Xi (((x[k]!).xm).length) Xd) ((x[k]!).xm), isF true FqOut (.slice aqOut (((x[k]!).xZ).length) cqOut) ((x[k]!).xZ), isF true FqInto (.slice Xh (((x[k]!).qF).length) Xc) ((x[k]!).qF)] := H
  refine sp (.int .i64 ((r + 1) + 1 + (cnt ((x[k]!).qO) : Nat) + (cnt ((x[k]!).qX) : Nat) + (cnt ((x[k]!).xe) : Nat))) ?_
  refine qj (t_n (qi (ql ?_)))
  refine sps [.slice (aa b4 o5) x.length cx, .int .i64 k] ?_
  refine oI rfl rfl ?_
  refine oF rfl ?_
  refine oL rfl (H.holeCell _ 5 hx rfl) ?_
  refine sp (.int .i64 ((r + 1) + 1 + (cnt ((x[k]!).qO) : Nat) + (cnt ((x[k]!).qX) : Nat) + (cnt ((x[k]!).xe) : Nat))) ?_
  refine sw (QX #[.slice Xi (((x[k]!).xm).length) Xd, .int .i64 ((r + 1) + 1 + (cnt ((x[k]!).qO) : Nat) + (cnt ((x[k]!).qX) : Nat) + (cnt ((x[k]!).xe) : Nat))] rfl rfl Tryz.call68 (jY w22 ((x[k]!).xm) ((r + 1) + 1 + (cnt ((x[k]!).qO) : Nat) + (cnt ((x[k]!).qX) : Nat) + (cnt ((x[k]!).xe) : Nat)) Xi Xd FqHere (H.get 4 rfl).1 (yh N 4 rfl) ((H.get 4 rfl).2 rfl) (by (have := hc (by omega); have e := ji (x[k]!); omega)) (by (have := hc (by omega); have e := ji (x[k]!); omega))) ?_)
  rintro _ w27 ⟨rfl, m31⟩ x29
  obtain ⟨W28, C30, H⟩ := H.chgAt N 4 rfl (isF true FqHere (.slice Xi (((x[k]!).xm).length) Xd) (mrk ((x[k]!).xm) ((r + 1) + 1 + (cnt ((x[k]!).qO) : Nat) + (cnt ((x[k]!).qX) : Nat) + (cnt ((x[k]!).xe) : Nat)))) rfl x29 m31
  replace C := C.trans (C30.mono (by intro z hz; have hz : z ∈ FqHere := hz; simp [hz]))
  replace H : St _ _ _ [Q9 b4 o5 xs1 [.int .i64 r, .int .i64 (r + 1), .slice Xf (((x[k]!).qO).length) Xa, .slice Xj (((x[k]!).qX).length) Xe, .slice Xg (((x[k]!).xe).length) Xb, .slice Xi (((x[k]!).xm).length) Xd, .slice aqOut (((x[k]!).xZ).length) cqOut, .slice Xh (((x[k]!).qF).length) Xc, .bool ((x[k]!).xO)] xs2 G1 G2 ((zD x kk k).take k) ((zD x kk k).drop (k + 1)), isF true FqNeed (.slice Xf (((x[k]!).qO).length) Xa) (mrk ((x[k]!).qO) ((r + 1) + 1)), isF true FqHave (.slice Xj (((x[k]!).qX).length) Xe) (mrk ((x[k]!).qX) ((r + 1) + 1 + (cnt ((x[k]!).qO) : Nat))), isF true FqLack (.slice Xg (((x[k]!).xe).length) Xb) (mrk ((x[k]!).xe) ((r + 1) + 1 + (cnt ((x[k]!).qO) : Nat) + (cnt ((x[k]!).qX) : Nat))), isF true FqHere (.slice Xi (((x[k]!).xm).length) Xd) (mrk ((x[k]!).xm) ((r + 1) + 1 + (cnt ((x[k]!).qO) : Nat) + (cnt ((x[k]!).qX) : Nat) + (cnt ((x[k]!).xe) : Nat))), isF true FqOut (.slice aqOut (((x[k]!).xZ).length) cqOut) ((x[k]!).xZ), isF true FqInto (.slice Xh (((x[k]!).qF).length) Xc) ((x[k]!).qF)] := H
  refine sp (.int .i64 ((r + 1) + 1 + (cnt ((x[k]!).qO) : Nat) + (cnt ((x[k]!).qX) : Nat) + (cnt ((x[k]!).xe) : Nat) + (cnt ((x[k]!).xm) : Nat))) ?_
  refine qj (t_n (qi (ql ?_)))
  refine sps [.slice (aa b4 o5) x.length cx, .int .i64 k] ?_
  refine oI rfl rfl ?_
  refine oF rfl ?_
  refine oL rfl (H.holeCell _ 6 hx rfl) ?_
  refine sp (.int .i64 ((r + 1) + 1 + (cnt ((x[k]!).qO) : Nat) + (cnt ((x[k]!).qX) : Nat) + (cnt ((x[k]!).xe) : Nat) + (cnt ((x[k]!).xm) : Nat))) ?_
  refine sw (QX #[.slice aqOut (((x[k]!).xZ).length) cqOut, .int .i64 ((r + 1) + 1 + (cnt ((x[k]!).qO) : Nat) + (cnt ((x[k]!).qX) : Nat) + (cnt ((x[k]!).xe) : Nat) + (cnt ((x[k]!).xm) : Nat))] rfl rfl Tryz.call68 (jY w27 ((x[k]!).xZ) ((r + 1) + 1 + (cnt ((x[k]!).qO) : Nat) + (cnt ((x[k]!).qX) : Nat) + (cnt ((x[k]!).xe) : Nat) + (cnt ((x[k]!).xm) : Nat)) aqOut cqOut FqOut (H.get 5 rfl).1 (yh N 5 rfl) ((H.get 5 rfl).2 rfl) (by (have := hc (by omega); have e := ji (x[k]!); omega)) (by (have := hc (by omega); have e := ji (x[k]!); omega))) ?_)
  rintro _ w32 ⟨rfl, m36⟩ x34
  obtain ⟨W33, C35, H⟩ := H.chgAt N 5 rfl (isF true FqOut (.slice aqOut (((x[k]!).xZ).length) cqOut) (mrk ((x[k]!).xZ) ((r + 1) + 1 + (cnt ((x[k]!).qO) : Nat) + (cnt ((x[k]!).qX) : Nat) + (cnt ((x[k]!).xe) : Nat) + (cnt ((x[k]!).xm) : Nat)))) rfl x34 m36
  replace C := C.trans (C35.mono (by intro z hz; have hz : z ∈ FqOut := hz; simp [hz]))
  replace H : St _ _ _ [Q9 b4 o5 xs1 [.int .i64 r, .int .i64 (r + 1), .slice Xf (((x[k]!).qO).length) Xa, .slice Xj (((x[k]!).qX).length) Xe, .slice Xg (((x[k]!).xe).length) Xb, .slice Xi (((x[k]!).xm).length) Xd, .slice aqOut (((x[k]!).xZ).length) cqOut, .slice Xh (((x[k]!).qF).length) Xc, .bool ((x[k]!).xO)] xs2 G1 G2 ((zD x kk k).take k) ((zD x kk k).drop (k + 1)), isF true FqNeed (.slice Xf (((x[k]!).qO).length) Xa) (mrk ((x[k]!).qO) ((r + 1) + 1)), isF true FqHave (.slice Xj (((x[k]!).qX).length) Xe) (mrk ((x[k]!).qX) ((r + 1) + 1 + (cnt ((x[k]!).qO) : Nat))), isF true FqLack (.slice Xg (((x[k]!).xe).length) Xb) (mrk ((x[k]!).xe) ((r + 1) + 1 + (cnt ((x[k]!).qO) : Nat) + (cnt ((x[k]!).qX) : Nat))), isF true FqHere (.slice Xi (((x[k]!).xm).length) Xd) (mrk ((x[k]!).xm) ((r + 1) + 1 + (cnt ((x[k]!).qO) : Nat) + (cnt ((x[k]!).qX) : Nat) + (cnt ((x[k]!).xe) : Nat))), isF true FqOut (.slice aqOut (((x[k]!).xZ).length) cqOut) (mrk ((x[k]!).xZ) ((r + 1) + 1 + (cnt ((x[k]!).qO) : Nat) + (cnt ((x[k]!).qX) : Nat) + (cnt ((x[k]!).xe) : Nat) + (cnt ((x[k]!).xm) : Nat))), isF true FqInto (.slice Xh (((x[k]!).qF).length) Xc) ((x[k]!).qF)] := H
  refine sp (.int .i64 ((r + 1) + 1 + (cnt ((x[k]!).qO) : Nat) + (cnt ((x[k]!).qX) : Nat) + (cnt ((x[k]!).xe) : Nat) + (cnt ((x[k]!).xm) : Nat) + (cnt ((x[k]!).xZ) : Nat))) ?_
  refine qj (t_n (qi (ql ?_)))
  refine sps [.slice (aa b4 o5) x.length cx, .int .i64 k] ?_
  refine oI rfl rfl ?_
  refine oF rfl ?_
  refine oL rfl (H.holeCell _ 7 hx rfl) ?_
  refine sp (.int .i64 ((r + 1) + 1 + (cnt ((x[k]!).qO) : Nat) + (cnt ((x[k]!).qX) : Nat) + (cnt ((x[k]!).xe) : Nat) + (cnt ((x[k]!).xm) : Nat) + (cnt ((x[k]!).xZ) : Nat))) ?_
  refine sw (QX #[.slice Xh (((x[k]!).qF).length) Xc, .int .i64 ((r + 1) + 1 + (cnt ((x[k]!).qO) : Nat) + (cnt ((x[k]!).qX) : Nat) + (cnt ((x[k]!).xe) : Nat) + (cnt ((x[k]!).xm) : Nat) + (cnt ((x[k]!).xZ) : Nat))] rfl rfl Tryz.call110 (markIntoS_ok w32 ((x[k]!).qF) ((r + 1) + 1 + (cnt ((x[k]!).qO) : Nat) + (cnt ((x[k]!).qX) : Nat) + (cnt ((x[k]!).xe) : Nat) + (cnt ((x[k]!).xm) : Nat) + (cnt ((x[k]!).xZ) : Nat)) Xh Xc FqInto (H.get 6 rfl).1 (yh N 6 rfl) ((H.get 6 rfl).2 rfl) (by (have := hc (by omega); have e := ji (x[k]!); omega)) (by (have := hc (by omega); have e := ji (x[k]!); omega))) ?_)
  rintro _ w37 ⟨rfl, m41⟩ x39
  obtain ⟨W38, C40, H⟩ := H.chgAt N 6 rfl (isF true FqInto (.slice Xh (((x[k]!).qF).length) Xc) (mrk ((x[k]!).qF) ((r + 1) + 1 + (cnt ((x[k]!).qO) : Nat) + (cnt ((x[k]!).qX) : Nat) + (cnt ((x[k]!).xe) : Nat) + (cnt ((x[k]!).xm) : Nat) + (cnt ((x[k]!).xZ) : Nat)))) rfl x39 m41
  replace C := C.trans (C40.mono (by intro z hz; have hz : z ∈ FqInto := hz; simp [hz]))
  replace H : St _ _ _ [Q9 b4 o5 xs1 [.int .i64 r, .int .i64 (r + 1), .slice Xf (((x[k]!).qO).length) Xa, .slice Xj (((x[k]!).qX).length) Xe, .slice Xg (((x[k]!).xe).length) Xb, .slice Xi (((x[k]!).xm).length) Xd, .slice aqOut (((x[k]!).xZ).length) cqOut, .slice Xh (((x[k]!).qF).length) Xc, .bool ((x[k]!).xO)] xs2 G1 G2 ((zD x kk k).take k) ((zD x kk k).drop (k + 1)), isF true FqNeed (.slice Xf (((x[k]!).qO).length) Xa) (mrk ((x[k]!).qO) ((r + 1) + 1)), isF true FqHave (.slice Xj (((x[k]!).qX).length) Xe) (mrk ((x[k]!).qX) ((r + 1) + 1 + (cnt ((x[k]!).qO) : Nat))), isF true FqLack (.slice Xg (((x[k]!).xe).length) Xb) (mrk ((x[k]!).xe) ((r + 1) + 1 + (cnt ((x[k]!).qO) : Nat) + (cnt ((x[k]!).qX) : Nat))), isF true FqHere (.slice Xi (((x[k]!).xm).length) Xd) (mrk ((x[k]!).xm) ((r + 1) + 1 + (cnt ((x[k]!).qO) : Nat) + (cnt ((x[k]!).qX) : Nat) + (cnt ((x[k]!).xe) : Nat))), isF true FqOut (.slice aqOut (((x[k]!).xZ).length) cqOut) (mrk ((x[k]!).xZ) ((r + 1) + 1 + (cnt ((x[k]!).qO) : Nat) + (cnt ((x[k]!).qX) : Nat) + (cnt ((x[k]!).xe) : Nat) + (cnt ((x[k]!).xm) : Nat))), isF true FqInto (.slice Xh (((x[k]!).qF).length) Xc) (mrk ((x[k]!).qF) ((r + 1) + 1 + (cnt ((x[k]!).qO) : Nat) + (cnt ((x[k]!).qX) : Nat) + (cnt ((x[k]!).xe) : Nat) + (cnt ((x[k]!).xm) : Nat) + (cnt ((x[k]!).xZ) : Nat)))] := H
  refine sp (.int .i64 ((r + 1) + 1 + (cnt ((x[k]!).qO) : Nat) + (cnt ((x[k]!).qX) : Nat) + (cnt ((x[k]!).xe) : Nat) + (cnt ((x[k]!).xm) : Nat) + (cnt ((x[k]!).xZ) : Nat) + (cnt ((x[k]!).qF) : Nat))) ?_
  refine qj (t_n (qi (ql ?_)))
  refine sps [.slice (aa b4 o5) x.length cx, .int .i64 k, .int .i64 ((r + 1) + 1 + (cnt ((x[k]!).qO) : Nat) + (cnt ((x[k]!).qX) : Nat) + (cnt ((x[k]!).xe) : Nat) + (cnt ((x[k]!).xm) : Nat) + (cnt ((x[k]!).xZ) : Nat) + (cnt ((x[k]!).qF) : Nat))] ?_
  refine sw (o_rem ((r + 1) + 1 + (cnt ((x[k]!).qO) : Nat) + (cnt ((x[k]!).qX) : Nat) + (cnt ((x[k]!).xe) : Nat) + (cnt ((x[k]!).xm) : Nat) + (cnt ((x[k]!).xZ) : Nat) + (cnt ((x[k]!).qF) : Nat)) 3 rfl rfl (by (have := hc (by omega); have e := ji (x[k]!); omega)) (by omega) (by (have := hc (by omega); have e := ji (x[k]!); omega)) ?_)
  refine sp (.bool ((((r + 1) + 1 + (cnt ((x[k]!).qO) : Nat) + (cnt ((x[k]!).qX) : Nat) + (cnt ((x[k]!).xe) : Nat) + (cnt ((x[k]!).xm) : Nat) + (cnt ((x[k]!).xZ) : Nat) + (cnt ((x[k]!).qF) : Nat)) % 3 : Int) == 0)) ?_
  refine oI rfl rfl ?_
  refine oF rfl ?_
  refine sw (o_storeHole H N _ 8 hx (.bool ((((r + 1) + 1 + (cnt ((x[k]!).qO) : Nat) + (cnt ((x[k]!).qX) : Nat) + (cnt ((x[k]!).xe) : Nat) + (cnt ((x[k]!).xm) : Nat) + (cnt ((x[k]!).xZ) : Nat) + (cnt ((x[k]!).qF) : Nat)) % 3 : Int) == 0)) Tryz.sizeOf4 rfl rfl rfl (Nat.le_of_ble_eq_true rfl) fun w42 W43 C44 H => ?_)
  replace C := C.trans (C44.mono (hole_sub _ _ _ _))
  replace H : St _ _ _ [Q9 b4 o5 xs1 [.int .i64 r, .int .i64 (r + 1), .slice Xf (((x[k]!).qO).length) Xa, .slice Xj (((x[k]!).qX).length) Xe, .slice Xg (((x[k]!).xe).length) Xb, .slice Xi (((x[k]!).xm).length) Xd, .slice aqOut (((x[k]!).xZ).length) cqOut, .slice Xh (((x[k]!).qF).length) Xc, .bool ((((r + 1) + 1 + (cnt ((x[k]!).qO) : Nat) + (cnt ((x[k]!).qX) : Nat) + (cnt ((x[k]!).xe) : Nat) + (cnt ((x[k]!).xm) : Nat) + (cnt ((x[k]!).xZ) : Nat) + (cnt ((x[k]!).qF) : Nat)) % 3 : Int) == 0)] xs2 G1 G2 ((zD x kk k).take k) ((zD x kk k).drop (k + 1)), isF true FqNeed (.slice Xf (((x[k]!).qO).length) Xa) (mrk ((x[k]!).qO) ((r + 1) + 1)), isF true FqHave (.slice Xj (((x[k]!).qX).length) Xe) (mrk ((x[k]!).qX) ((r + 1) + 1 + (cnt ((x[k]!).qO) : Nat))), isF true FqLack (.slice Xg (((x[k]!).xe).length) Xb) (mrk ((x[k]!).xe) ((r + 1) + 1 + (cnt ((x[k]!).qO) : Nat) + (cnt ((x[k]!).qX) : Nat))), isF true FqHere (.slice Xi (((x[k]!).xm).length) Xd) (mrk ((x[k]!).xm) ((r + 1) + 1 + (cnt ((x[k]!).qO) : Nat) + (cnt ((x[k]!).qX) : Nat) + (cnt ((x[k]!).xe) : Nat))), isF true FqOut (.slice aqOut (((x[k]!).xZ).length) cqOut) (mrk ((x[k]!).xZ) ((r + 1) + 1 + (cnt ((x[k]!).qO) : Nat) + (cnt ((x[k]!).qX) : Nat) + (cnt ((x[k]!).xe) : Nat) + (cnt ((x[k]!).xm) : Nat))), isF true FqInto (.slice Xh (((x[k]!).qF).length) Xc) (mrk ((x[k]!).qF) ((r + 1) + 1 + (cnt ((x[k]!).qO) : Nat) + (cnt ((x[k]!).qX) : Nat) + (cnt ((x[k]!).xe) : Nat) + (cnt ((x[k]!).xm) : Nat) + (cnt ((x[k]!).xZ) : Nat)))] := H
  refine qj (t_n (ql ?_))
  refine sp (.int .i64 ((r + 1) + 1 + (cnt ((x[k]!).qO) : Nat) + (cnt ((x[k]!).qX) : Nat) + (cnt ((x[k]!).xe) : Nat) + (cnt ((x[k]!).xm) : Nat) + (cnt ((x[k]!).xZ) : Nat) + (cnt ((x[k]!).qF) : Nat))) ?_
  refine sw (zk ((r + 1) + 1 + (cnt ((x[k]!).qO) : Nat) + (cnt ((x[k]!).qX) : Nat) + (cnt ((x[k]!).xe) : Nat) + (cnt ((x[k]!).xm) : Nat) + (cnt ((x[k]!).xZ) : Nat) + (cnt ((x[k]!).qF) : Nat)) 1 rfl rfl (by (have := hc (by omega); have e := ji (x[k]!); omega)) ?_)
  refine sp (.int .i64 (((r + 1) + 1 + (cnt ((x[k]!).qO) : Nat) + (cnt ((x[k]!).qX) : Nat) + (cnt ((x[k]!).xe) : Nat) + (cnt ((x[k]!).xm) : Nat) + (cnt ((x[k]!).xZ) : Nat) + (cnt ((x[k]!).qF) : Nat)) + 1)) ?_
  refine qj (b_n (t_n (ql ?_)))
  refine sp (.int .i64 k) ?_
  refine sw (zk k 1 rfl rfl (by (have := hc (by omega); have e := ji (x[k]!); omega)) ?_)
  refine sp (.int .i64 (k + 1)) ?_
  refine qj ?_
  replace H := H.closeAt (y := mrk (x[k]!) r) (m := x.length) (c := cx) ⟨_, _, _, _, _, _, _, _, _, _, _, _, rfl, rfl, (H.get 1 rfl).1, (H.get 2 rfl).1, (H.get 3 rfl).1, (H.get 4 rfl).1, (H.get 5 rfl).1, (H.get 6 rfl).1⟩ (((((((H.get 1 rfl).2 rfl).app ((H.get 2 rfl).2 rfl)).app ((H.get 3 rfl).2 rfl)).app ((H.get 4 rfl).2 rfl)).app ((H.get 5 rfl).2 rfl)).app ((H.get 6 rfl).2 rfl)) (Q4 (Q4 (Q4 (Q4 (Q4 (H.ltOwn 1 rfl) (H.ltOwn 2 rfl)) (H.ltOwn 3 rfl)) (H.ltOwn 4 rfl)) (H.ltOwn 5 rfl)) (H.ltOwn 6 rfl)) (zD x kk (k + 1)) (by subst i1; exact markTo_step _ _ (by omega)) (zN _ _ (by omega)) (by rw [zN _ _ (by omega)]; exact nhx)
  refine xk (m' := x.length - (k + 1)) (by omega) ⟨_, k + 1, ((r + 1) + 1 + (cnt ((x[k]!).qO) : Nat) + (cnt ((x[k]!).qX) : Nat) + (cnt ((x[k]!).xe) : Nat) + (cnt ((x[k]!).xm) : Nat) + (cnt ((x[k]!).xZ) : Nat) + (cnt ((x[k]!).qF) : Nat)) + 1, W43, (by exact qg (qg (qg (qg (rfl) rfl) rfl) rfl) rfl), ?_, ?_, ?_, rfl, H⟩
  · omega
  · rw [yj]; have e := ji (x[k]!); omega
  · exact C
 replace h3 := of_decide_eq_false h3
 refine xQ (t_x (t_x (b_x (t_n (qi (ql ?_))))))
 refine sps [.int .i64 r, .int .i64 r] ?_
 refine qj (t_n (qV ?_))
 obtain rfl : k = x.length := by omega
 refine ret1 (.int .i64 r) rfl rfl ⟨_, rfl, ⟨?_, H.get 0 rfl⟩, C.trans (Chg.ofExt H.base)⟩
 first | rfl | (refine congrArg (Value.int .i64) ?_; rw [cnt_list]; omega)

theorem markSystem_ok (w : World) (x : qK) (kk : Int) (zB : Option Addr) (zA : Nat) (jy : List Nat) (vN : Option Addr) (vM : Nat) (Qw : List Nat) (jV : qE.rep w jy [.slice zB x.qf.length zA] x.qf) (QY : qE.rep w Qw [.slice vN x.qh.length vM] x.qh) (nd : (jy ++ Qw).Nodup) (fr : zl w (jy ++ Qw)) (p0 : 0 ≤ kk) (p1 : kk + (cnt x.qf : Nat) + (cnt x.qh : Nat) ≤ 4611686018427387904) : Calls Tryz.prog 23 #[.agg #[.int .i64 x.qH, .slice zB x.qf.length zA, .slice vN x.qh.length vM], .int .i64 kk] w (RetM (fun v w' => v = .int .i64 (kk + (cnt x.qf : Nat) + (cnt x.qh : Nat)) ∧ (isF true jy (.slice zB x.qf.length zA) (mrk x.qf kk)).φ w' ∧ (isF true Qw (.slice vN x.qh.length vM) (mrk x.qh (kk + (cnt x.qf : Nat)))).φ w') (jy ++ Qw) w) := by
 refine en Tryz.func23 Tryz.ntmps23 ?_
 have H := St.start w
 replace H := H.add (isF true Qw (.slice vN x.qh.length vM) x.qh) ⟨QY, fun _ => fr.sub (by intro z hz; simp [hz])⟩ (start_lt QY)
 replace H := H.add (isF true jy (.slice zB x.qf.length zA) x.qf) ⟨jV, fun _ => fr.sub (by intro z hz; simp [hz])⟩ (start_lt jV)
 have nhxParents := qA jV
 have nhxRules := qA QY
 clear jV QY
 have C : Chg (jy ++ Qw) w w := Chg.refl _ _
 have N : ([jy, Qw] : List (List Nat)).flatten.Nodup := by simpa using nd
 refine qi (ql ?_)
 refine sw (o_box H (.agg #[.int .i64 x.qH, .slice zB x.qf.length zA, .slice vN x.qh.length vM]) rfl fun b1 w2 H => ?_)
 replace H : St _ _ [.box b1 [.int .i64 x.qH, .slice zB x.qf.length zA, .slice vN x.qh.length vM] 36] _ := H
 refine sp (.int .i64 0) ?_
 refine qj (t_n (qi (ql ?_)))
 refine oF rfl ?_
 refine oL rfl (H.cell 0 rfl rfl) ?_
 refine sp (.int .i64 kk) ?_
 refine sw (QX #[.slice zB x.qf.length zA, .int .i64 kk] rfl rfl Tryz.call68 (jY w2 x.qf kk zB zA jy (H.get 0 rfl).1 (yh N 0 rfl) ((H.get 0 rfl).2 rfl) (by omega) (by omega)) ?_)
 rintro _ w3 ⟨rfl, m7⟩ x5
 obtain ⟨W4, C6, H⟩ := H.chgAt N 0 rfl (isF true jy (.slice zB x.qf.length zA) (mrk x.qf kk)) rfl x5 m7
 replace C := C.trans (C6.mono (by intro z hz; have hz : z ∈ jy := hz; simp [hz]))
 replace H : St _ _ _ [isF true jy (.slice zB x.qf.length zA) (mrk x.qf kk), isF true Qw (.slice vN x.qh.length vM) x.qh] := H
 refine sp (.int .i64 (kk + (cnt x.qf : Nat))) ?_
 refine qj (t_n (qi (ql ?_)))
 refine oF rfl ?_
 refine oL rfl (H.cell 0 rfl rfl) ?_
 refine sp (.int .i64 (kk + (cnt x.qf : Nat))) ?_
 refine sw (QX #[.slice vN x.qh.length vM, .int .i64 (kk + (cnt x.qf : Nat))] rfl rfl Tryz.call69 (markRuleS_ok w3 x.qh (kk + (cnt x.qf : Nat)) vN vM Qw (H.get 1 rfl).1 (yh N 1 rfl) ((H.get 1 rfl).2 rfl) (by omega) (by omega)) ?_)
 rintro _ w8 ⟨rfl, m12⟩ x10
 obtain ⟨W9, C11, H⟩ := H.chgAt N 1 rfl (isF true Qw (.slice vN x.qh.length vM) (mrk x.qh (kk + (cnt x.qf : Nat)))) rfl x10 m12
 replace C := C.trans (C11.mono (by intro z hz; have hz : z ∈ Qw := hz; simp [hz]))
 replace H : St _ _ _ [isF true jy (.slice zB x.qf.length zA) (mrk x.qf kk), isF true Qw (.slice vN x.qh.length vM) (mrk x.qh (kk + (cnt x.qf : Nat)))] := H
 refine sp (.int .i64 (kk + (cnt x.qf : Nat) + (cnt x.qh : Nat))) ?_
 refine qj (t_n (qi (ql ?_)))
 refine sps [.int .i64 (kk + (cnt x.qf : Nat) + (cnt x.qh : Nat)), .int .i64 (kk + (cnt x.qf : Nat) + (cnt x.qh : Nat))] ?_
 refine qj (t_n (qV ?_))
 simp_all
 refine ret1 (.int .i64 (kk + (cnt x.qf : Nat) + (cnt x.qh : Nat))) rfl rfl ⟨_, rfl, ⟨?_, H.get 0 rfl, H.get 1 rfl⟩, C.trans (Chg.ofExt H.base)⟩
 first | rfl | (refine congrArg (Value.int .i64) ?_; rw [cnt_list]; omega)

theorem markState_ok (w : World) (x : xu) (kk : Int) (vG : Option Addr) (vF : Nat) (Qj : List Nat) (jO : Option Addr) (jL : Nat) (XF : List Nat) (zH : Option Addr) (zG : Nat) (jQ : List Nat) (QZ : qE.rep w Qj [.slice vG x.qo.length vF] x.qo) (hxBags : qE.rep w XF [.slice jO x.qy.length jL] x.qy) (yO : qE.rep w jQ [.slice zH x.qm.length zG] x.qm) (nd : (Qj ++ XF ++ jQ).Nodup) (fr : zl w (Qj ++ XF ++ jQ)) (p0 : 0 ≤ kk) (p1 : kk + (cnt x.qo : Nat) + (cnt x.qy : Nat) + (cnt x.qm : Nat) ≤ 4611686018427387904) : Calls Tryz.prog 24 #[.agg #[.slice vG x.qo.length vF, .slice jO x.qy.length jL, .slice zH x.qm.length zG], .int .i64 kk] w (RetM (fun v w' => v = .int .i64 (kk + (cnt x.qo : Nat) + (cnt x.qy : Nat) + (cnt x.qm : Nat)) ∧ (isF true Qj (.slice vG x.qo.length vF) (mrk x.qo kk)).φ w' ∧ (isF true XF (.slice jO x.qy.length jL) (mrk x.qy (kk + (cnt x.qo : Nat)))).φ w' ∧ (isF true jQ (.slice zH x.qm.length zG) (mrk x.qm (kk + (cnt x.qo : Nat) + (cnt x.qy : Nat)))).φ w') (Qj ++ XF ++ jQ) w) := by
 refine en Tryz.func24 Tryz.ntmps24 ?_
 have H := St.start w
 replace H := H.add (isF true jQ (.slice zH x.qm.length zG) x.qm) ⟨yO, fun _ => fr.sub (by intro z hz; simp [hz])⟩ (start_lt yO)
 replace H := H.add (isF true XF (.slice jO x.qy.length jL) x.qy) ⟨hxBags, fun _ => fr.sub (by intro z hz; simp [hz])⟩ (start_lt hxBags)
 replace H := H.add (isF true Qj (.slice vG x.qo.length vF) x.qo) ⟨QZ, fun _ => fr.sub (by intro z hz; simp [hz])⟩ (start_lt QZ)
 have nhxAlive := qA QZ
 have nhxBags := qA hxBags
 have nhxAround := qA yO
 clear QZ hxBags yO
 have C : Chg (Qj ++ XF ++ jQ) w w := Chg.refl _ _
 have N : ([Qj, XF, jQ] : List (List Nat)).flatten.Nodup := by simpa using nd
 refine qi (ql ?_)
 refine sw (o_box H (.agg #[.slice vG x.qo.length vF, .slice jO x.qy.length jL, .slice zH x.qm.length zG]) rfl fun b1 w2 H => ?_)
 replace H : St _ _ [.box b1 [.slice vG x.qo.length vF, .slice jO x.qy.length jL, .slice zH x.qm.length zG] 38] _ := H
 refine sp (.int .i64 0) ?_
 refine qj (t_n (qi (ql ?_)))
 refine oF rfl ?_
 refine oL rfl (H.cell 0 rfl rfl) ?_
 refine sp (.int .i64 kk) ?_
 refine sw (QX #[.slice vG x.qo.length vF, .int .i64 kk] rfl rfl Tryz.call70 (markBoolS_ok w2 x.qo kk vG vF Qj (H.get 0 rfl).1 (yh N 0 rfl) ((H.get 0 rfl).2 rfl) (by omega) (by omega)) ?_)
 rintro _ w3 ⟨rfl, m7⟩ x5
 obtain ⟨W4, C6, H⟩ := H.chgAt N 0 rfl (isF true Qj (.slice vG x.qo.length vF) (mrk x.qo kk)) rfl x5 m7
 replace C := C.trans (C6.mono (by intro z hz; have hz : z ∈ Qj := hz; simp [hz]))
 replace H : St _ _ _ [isF true Qj (.slice vG x.qo.length vF) (mrk x.qo kk), isF true XF (.slice jO x.qy.length jL) x.qy, isF true jQ (.slice zH x.qm.length zG) x.qm] := H
 refine sp (.int .i64 (kk + (cnt x.qo : Nat))) ?_
 refine qj (t_n (qi (ql ?_)))
 refine oF rfl ?_
 refine oL rfl (H.cell 0 rfl rfl) ?_
 refine sp (.int .i64 (kk + (cnt x.qo : Nat))) ?_
 refine sw (QX #[.slice jO x.qy.length jL, .int .i64 (kk + (cnt x.qo : Nat))] rfl rfl Tryz.call25 (markInt64SS_ok w3 x.qy (kk + (cnt x.qo : Nat)) jO jL XF (H.get 1 rfl).1 (yh N 1 rfl) ((H.get 1 rfl).2 rfl) (by omega) (by omega)) ?_)
 rintro _ w8 ⟨rfl, m12⟩ x10
 obtain ⟨W9, C11, H⟩ := H.chgAt N 1 rfl (isF true XF (.slice jO x.qy.length jL) (mrk x.qy (kk + (cnt x.qo : Nat)))) rfl x10 m12
 replace C := C.trans (C11.mono (by intro z hz; have hz : z ∈ XF := hz; simp [hz]))
 replace H : St _ _ _ [isF true Qj (.slice vG x.qo.length vF) (mrk x.qo kk), isF true XF (.slice jO x.qy.length jL) (mrk x.qy (kk + (cnt x.qo : Nat))), isF true jQ (.slice zH x.qm.length zG) x.qm] := H
 refine sp (.int .i64 (kk + (cnt x.qo : Nat) + (cnt x.qy : Nat))) ?_
 refine qj (t_n (qi (ql ?_)))
 refine oF rfl ?_
 refine oL rfl (H.cell 0 rfl rfl) ?_
 refine sp (.int .i64 (kk + (cnt x.qo : Nat) + (cnt x.qy : Nat))) ?_
 refine sw (QX #[.slice zH x.qm.length zG, .int .i64 (kk + (cnt x.qo : Nat) + (cnt x.qy : Nat))] rfl rfl Tryz.call68 (jY w8 x.qm (kk + (cnt x.qo : Nat) + (cnt x.qy : Nat)) zH zG jQ (H.get 2 rfl).1 (yh N 2 rfl) ((H.get 2 rfl).2 rfl) (by omega) (by omega)) ?_)
 rintro _ w13 ⟨rfl, m17⟩ x15
 obtain ⟨W14, C16, H⟩ := H.chgAt N 2 rfl (isF true jQ (.slice zH x.qm.length zG) (mrk x.qm (kk + (cnt x.qo : Nat) + (cnt x.qy : Nat)))) rfl x15 m17
 replace C := C.trans (C16.mono (by intro z hz; have hz : z ∈ jQ := hz; simp [hz]))
 replace H : St _ _ _ [isF true Qj (.slice vG x.qo.length vF) (mrk x.qo kk), isF true XF (.slice jO x.qy.length jL) (mrk x.qy (kk + (cnt x.qo : Nat))), isF true jQ (.slice zH x.qm.length zG) (mrk x.qm (kk + (cnt x.qo : Nat) + (cnt x.qy : Nat)))] := H
 refine sp (.int .i64 (kk + (cnt x.qo : Nat) + (cnt x.qy : Nat) + (cnt x.qm : Nat))) ?_
 refine qj (t_n (qi (ql ?_)))
 refine sps [.int .i64 (kk + (cnt x.qo : Nat) + (cnt x.qy : Nat) + (cnt x.qm : Nat)), .int .i64 (kk + (cnt x.qo : Nat) + (cnt x.qy : Nat) + (cnt x.qm : Nat))] ?_
 refine qj (t_n (qV ?_))
 simp_all
 refine ret1 (.int .i64 (kk + (cnt x.qo : Nat) + (cnt x.qy : Nat) + (cnt x.qm : Nat))) rfl rfl ⟨_, rfl, ⟨?_, H.get 0 rfl, H.get 1 rfl, H.get 2 rfl⟩, C.trans (Chg.ofExt H.base)⟩
 first | rfl | (refine congrArg (Value.int .i64) ?_; rw [cnt_list]; omega)

theorem heldInt64S_ok (w : World) (x : List Int) (kk : Int) (ax : Option Addr) (cx : Nat) (Fx : List Nat) (hx : qE.rep w Fx [.slice ax x.length cx] x) (m : mkd x kk) (p0 : 0 ≤ kk) (p1 : kk + (cnt x : Nat) ≤ 4611686018427387904) : Calls Tryz.prog 71 #[.slice ax x.length cx, .int .i64 kk] w (Ret (fun v w' => v = .int .i64 (kk + (cnt x : Nat))) w) := by
 refine en Tryz.func71 Tryz.ntmps71 ?_
 have H := (St.start w).arg hx
 have nhx := qA hx
 clear hx
 refine qi (ql ?_)
 refine sp (.int .i64 0) ?_
 refine qj (t_n (qi (qi (ql ?_))))
 refine sp (.int .i64 0) ?_
 refine qj (t_n (qW ?_))
 refine zf (fun m' ρ w1 => ∃ (junk : Env) (k : Nat) (r : Int), ρ = upd (upd (upd junk 0 (.slice ax x.length cx)) 1 (.int .i64 r)) 5 (.int .i64 k) ∧ (k ≤ x.length) ∧ (r = kk + (cntTo x k : Nat)) ∧ m' = x.length - k ∧ St w w1 [] [isF false Fx (.slice ax x.length cx) x]) (x.length - 0) ⟨_, 0, kk, (by exact qg (qg (qg (rfl) rfl) rfl) rfl), (by omega), (by exact (Int.add_zero _).symm), rfl, H⟩ ?_
 clear H
 rintro m' ρ w2 ⟨junk, k, r, rfl, i0, i1, rfl, H⟩
 have hc := fun h => cnt_get (l := x) (k := k) h
 refine qi (qi (ql ?_))
 refine sps [.int .i64 k, .slice ax x.length cx] ?_
 refine oN rfl ?_
 refine sp (.bool (decide ((k : Int) < x.length))) ?_
 refine qj (t_n ?_)
 refine qC (decide ((k : Int) < x.length)) rfl (fun h3 => ?_) (fun h3 => ?_)
 ·skip
  replace h3 := of_decide_eq_true h3
  have m0 := m k (by omega)
  rw [← i1] at m0
  replace m0 : x[k]! = r := m0
  refine qM (t_n (qi (qW (qi (qi (ql ?_))))))
  refine sps [.slice ax x.length cx, .int .i64 k] ?_
  obtain ⟨b4, o5, rfl⟩ := H.addr 0 rfl (by omega)
  refine oI rfl rfl ?_
  refine oL rfl (H.vT 0 rfl k (by omega) (by omega)) ?_
  refine sps [.int .i64 r, .bool ((x[k]! : Int) != r)] ?_
  refine qj (t_n ?_)
  refine qC ((x[k]! : Int) != r) rfl (fun h6 => ?_) (fun h6 => ?_)
  ·skip
   replace h6 := bne_iff_ne.1 h6
   refine qi (ql ?_)
   refine sp (.int .i64 (-1)) ?_
   refine qj (t_n (qV (t_r (b_r (t_r (t_r (b_r (t_r ?_))))))))
   refine ret1 (.int .i64 (-1)) rfl rfl ⟨_, rfl, ?_, H.base⟩
   exfalso; first | omega | (exact absurd ‹_› ‹¬ _›) | simp_all
  replace h6 := xw h6
  refine qM (t_n (ql ?_))
  refine sp (.int .i64 r) ?_
  refine sw (zk r 1 rfl rfl (by (have := hc (by omega); have e : cnt (x[k]!) = 1 := rfl; omega)) ?_)
  refine sp (.int .i64 (r + 1)) ?_
  refine qj (b_n (t_n (ql ?_)))
  refine sp (.int .i64 k) ?_
  refine sw (zk k 1 rfl rfl (by (have := hc (by omega); have e : cnt (x[k]!) = 1 := rfl; omega)) ?_)
  refine sp (.int .i64 (k + 1)) ?_
  refine qj ?_
  refine xk (m' := x.length - (k + 1)) (by omega) ⟨_, k + 1, r + 1, (by exact qg (qg (qg (rfl) rfl) rfl) rfl), ?_, ?_, rfl, H⟩
  · omega
  · rw [yj]; have e : cnt (x[k]!) = 1 := rfl; omega
 replace h3 := of_decide_eq_false h3
 refine xQ (t_x (t_x (b_x (t_n (qi (ql ?_))))))
 refine sps [.int .i64 r, .int .i64 r] ?_
 refine qj (t_n (qV ?_))
 refine ret1 (.int .i64 r) rfl rfl ⟨_, rfl, ?_, H.base⟩
 first | rfl | (refine congrArg (Value.int .i64) ?_; obtain rfl : k = x.length := (by omega); exact i1)

theorem heldInt64SS_ok (w : World) (x : List (List Int)) (kk : Int) (ax : Option Addr) (cx : Nat) (Fx : List Nat) (hx : qE.rep w Fx [.slice ax x.length cx] x) (m : mkd x kk) (p0 : 0 ≤ kk) (p1 : kk + (cnt x : Nat) ≤ 4611686018427387904) : Calls Tryz.prog 26 #[.slice ax x.length cx, .int .i64 kk] w (Ret (fun v w' => v = .int .i64 (kk + (cnt x : Nat))) w) := by
 refine en Tryz.func26 Tryz.ntmps26 ?_
 have H := (St.start w).arg hx
 have nhx := qA hx
 clear hx
 refine qi (ql ?_)
 refine sp (.int .i64 0) ?_
 refine qj (t_n (qi (qi (ql ?_))))
 refine sp (.int .i64 0) ?_
 refine qj (t_n (qW ?_))
 refine zf (fun m' ρ w1 => ∃ (junk : Env) (k : Nat) (r : Int), ρ = upd (upd (upd junk 0 (.slice ax x.length cx)) 1 (.int .i64 r)) 5 (.int .i64 k) ∧ (k ≤ x.length) ∧ (r = kk + (cntTo x k : Nat)) ∧ m' = x.length - k ∧ St w w1 [] [isF false Fx (.slice ax x.length cx) x]) (x.length - 0) ⟨_, 0, kk, (by exact qg (qg (qg (rfl) rfl) rfl) rfl), (by omega), (by exact (Int.add_zero _).symm), rfl, H⟩ ?_
 clear H
 rintro m' ρ w2 ⟨junk, k, r, rfl, i0, i1, rfl, H⟩
 have hc := fun h => cnt_get (l := x) (k := k) h
 refine qi (qi (ql ?_))
 refine sps [.int .i64 k, .slice ax x.length cx] ?_
 refine oN rfl ?_
 refine sp (.bool (decide ((k : Int) < x.length))) ?_
 refine qj (t_n ?_)
 refine qC (decide ((k : Int) < x.length)) rfl (fun h3 => ?_) (fun h3 => ?_)
 ·skip
  replace h3 := of_decide_eq_true h3
  have m0 := m k (by omega)
  rw [← i1] at m0
  refine qM (t_n (qi (qW (qi (ql ?_)))))
  refine sps [.slice ax x.length cx, .int .i64 k] ?_
  obtain ⟨b4, o5, rfl⟩ := H.addr 0 rfl (by omega)
  obtain ⟨ae6, ce6, Fe6, H⟩ := H.jo 0 rfl k k (by omega) (by omega) (by omega)
  refine oI rfl rfl ?_
  refine oL rfl (H.xJ 1 rfl 0 rfl) ?_
  refine sp (.int .i64 r) ?_
  refine sw (oc (heldInt64S_ok _ (x[k]!) r _ _ _ (H.get 0 rfl).1 (by assumption) (by (have := hc (by omega); skip; omega)) (by (have := hc (by omega); skip; omega))) ?_)
  rintro _ w7 rfl x8
  replace H := H.ext x8
  refine sp (.int .i64 (r + (cnt (x[k]!) : Nat))) ?_
  refine qj (t_n (qi (ql ?_)))
  refine sps [.int .i64 (r + (cnt (x[k]!) : Nat)), .bool (decide ((r + (cnt (x[k]!) : Nat) : Int) < 0))] ?_
  refine qj (t_n ?_)
  refine qC (decide ((r + (cnt (x[k]!) : Nat) : Int) < 0)) rfl (fun h9 => ?_) (fun h9 => ?_)
  ·skip
   replace h9 := of_decide_eq_true h9
   refine qi (ql ?_)
   refine sp (.int .i64 (-1)) ?_
   refine qj (t_n (qV (b_r (t_r (t_r (b_r (t_r ?_)))))))
   refine ret1 (.int .i64 (-1)) rfl rfl ⟨_, rfl, ?_, H.base⟩
   exfalso; first | omega | (exact absurd ‹_› ‹¬ _›) | simp_all
  replace h9 := of_decide_eq_false h9
  refine qM (b_n (t_n (ql ?_)))
  refine sp (.int .i64 k) ?_
  refine sw (zk k 1 rfl rfl (by (have := hc (by omega); skip; omega)) ?_)
  refine sp (.int .i64 (k + 1)) ?_
  refine qj ?_
  refine xk (m' := x.length - (k + 1)) (by omega) ⟨_, k + 1, r + (cnt (x[k]!) : Nat), (by exact qg (qg (qg (rfl) rfl) rfl) rfl), ?_, ?_, rfl, H.sel _ (.refl _) _ (by simp)⟩
  · omega
  · rw [yj]; skip; omega
 replace h3 := of_decide_eq_false h3
 refine xQ (t_x (t_x (b_x (t_n (qi (ql ?_))))))
 refine sps [.int .i64 r, .int .i64 r] ?_
 refine qj (t_n (qV ?_))
 refine ret1 (.int .i64 r) rfl rfl ⟨_, rfl, ?_, H.base⟩
 first | rfl | (refine congrArg (Value.int .i64) ?_; obtain rfl : k = x.length := (by omega); exact i1)

end Go.Proofs.YtgjnaocffdhnbaaGreat
