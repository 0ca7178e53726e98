/- Walks, printed by program (wip/tools/gv.py): what each function comes to, for all arguments. -/
import Derived.Test.YtkmlihdacnfhdaaT1
namespace Go.Proofs.Ytkmlihdacnfhdaa
open Go.Proofs.Ytkmlihdacnfhdaa.Tot (tot)
open Go.Proofs.Ytkmlihdacnfhdaa.Mark (cnt mrk mkd mkd_mark cnt_mark)
open Go.RowKit
set_option linter.unusedVariables false
set_option linter.unusedSimpArgs false
set_option maxRecDepth 100000
set_option maxHeartbeats 4000000



theorem QG (w : World) (x : List Int) (kk : Int) (ax : Option Addr) (cx : Nat) (Fx : List Nat) (hx : qW.rep w Fx [.slice ax x.length cx] x) (nd : Fx.Nodup) (fr : vJ w Fx) (p0 : 0 ≤ kk) (p1 : kk + (cnt x : Nat) ≤ 4611686018427387904) : Calls Try.prog 47 #[.slice ax x.length cx, .int .i64 kk] w (RetM (fun v w' => v = .int .i64 (kk + (cnt x : Nat)) ∧ (isF true Fx (.slice ax x.length cx) (mrk x kk)).φ w') Fx w) := by
 refine enter (n := 19) Try.func47 rfl Try.ntmps47 (Nat.le_of_ble_eq_true rfl) ?_
 have H := St.start w
 replace H := H.add (isF true Fx (.slice ax x.length cx) x) ⟨hx, fun _ => fr.sub (by intro z hz; simp [hz])⟩ (start_lt hx)
 have nhx := qN hx
 clear hx
 have C : Chg Fx w w := Chg.refl _ _
 have N : ([Fx] : List (List Nat)).flatten.Nodup := by simpa using nd
 refine qo (qB ?_)
 refine sp (.int .i64 0) ?_
 refine qA (t_n (qo (qo (qB ?_))))
 refine sp (.int .i64 0) ?_
 refine qA (t_n (xC ?_))
 replace H : St w w [] [isF true Fx (.slice ax x.length cx) (jf x kk 0)] := by rw [markTo_zero]; exact H
 refine vw (fun m' ρ w1 => ∃ (junk : Env) (k : Nat) (r : Int) (W : World), ρ = upd (upd (upd (upd junk 0 (.slice ax x.length cx)) 1 (.int .i64 r)) 4 (.int .i64 0)) 5 (.int .i64 k) ∧ (k ≤ x.length) ∧ (r = kk + (Vq x k : Nat)) ∧ (Chg Fx w W) ∧ m' = x.length - k ∧ St W w1 [] [isF true Fx (.slice ax x.length cx) (jf x kk k)]) (x.length - 0) ⟨_, 0, kk, w, (by exact qj (qj (qj (qj (rfl) rfl) rfl) rfl) rfl), (by omega), (by exact (Int.add_zero _).symm), (by exact C), rfl, H⟩ ?_
 clear H
 rintro m' ρ w2 ⟨junk, k, r, W, rfl, i0, i1, C, rfl, H⟩
 have hc := fun h => cnt_get (l := x) (k := k) h
 refine qo (qo (qB ?_))
 refine sps [.int .i64 k, .slice ax x.length cx] ?_
 refine sw (vI Try.underlying22 ax x.length cx rfl ?_)
 refine sp (.bool (decide ((k : Int) < x.length))) ?_
 refine qA (t_n ?_)
 refine qX (decide ((k : Int) < x.length)) rfl (fun h3 => ?_) (fun h3 => ?_)
 ·skip
  replace h3 := of_decide_eq_true h3
  refine xy (t_n (qo (xC (qo (qB ?_)))))
  refine sps [.slice ax x.length cx, .int .i64 k, .int .i64 r] ?_
  obtain ⟨b4, o5, rfl⟩ := H.addr 0 rfl (by rw [jy _ _ (by omega)]; omega)
  obtain ⟨xs1, xs2, G1, G2, rfl, hx, H, N⟩ := H.open_Int nd k (by rw [jy _ _ (by omega)]; omega) (markTo_get _ _ (by omega))
  refine sw (xO k Try.underlying22 ti2 rfl rfl (by omega) (by omega) ?_)
  refine sw (o_storeHole H N _ 0 hx (.int .i64 r) Try.sizeOf2 rfl rfl rfl (Nat.le_of_ble_eq_true rfl) fun w6 W7 C8 H => ?_)
  replace C := C.trans (C8.mono (hole_sub _ _ _ _))
  replace H : St _ _ _ [Vh b4 o5 xs1 [.int .i64 r] xs2 G1 G2 ((jf x kk k).take k) ((jf x kk k).drop (k + 1))] := H
  refine qA (t_n (qB ?_))
  refine sp (.int .i64 r) ?_
  refine sw (vz r 1 rfl rfl (by (have := hc (by omega); have e : cnt (x[k]!) = 1 := rfl; omega)) ?_)
  refine sp (.int .i64 (r + 1)) ?_
  refine qA (b_n (t_n (qB ?_)))
  refine sp (.int .i64 k) ?_
  refine sw (vz k 1 rfl rfl (by (have := hc (by omega); have e : cnt (x[k]!) = 1 := rfl; omega)) ?_)
  refine sp (.int .i64 (k + 1)) ?_
  refine qA ?_
  replace H := H.closeAt (y := mrk (x[k]!) r) (m := x.length) (c := cx) ⟨rfl, rfl⟩ (vJ.nil _) (by intro z hz; simp at hz) (jf x kk (k + 1)) (by subst i1; exact markTo_step _ _ (by omega)) (jy _ _ (by omega)) (by rw [jy _ _ (by omega)]; exact nhx)
  refine xH (m' := x.length - (k + 1)) (by omega) ⟨_, k + 1, r + 1, W7, (by exact qj (qj (qj (qj (rfl) rfl) rfl) rfl) rfl), ?_, ?_, ?_, rfl, H⟩
  · omega
  · rw [Qd]; have e : cnt (x[k]!) = 1 := rfl; omega
  · exact C
 replace h3 := of_decide_eq_false h3
 refine ve (t_x (t_x (b_x (t_n (qo (qB ?_))))))
 refine sps [.int .i64 r, .int .i64 r] ?_
 refine qA (t_n (xE ?_))
 obtain rfl : k = x.length := by omega
 refine ret1 (.int .i64 r) rfl rfl ⟨_, rfl, ⟨?_, H.get 0 rfl⟩, C.trans (Chg.ofExt H.base)⟩
 first | rfl | (refine congrArg (Value.int .i64) ?_; rw [cnt_list]; omega)

theorem markBoolS_ok (w : World) (x : List Bool) (kk : Int) (ax : Option Addr) (cx : Nat) (Fx : List Nat) (hx : qW.rep w Fx [.slice ax x.length cx] x) (nd : Fx.Nodup) (fr : vJ w Fx) (p0 : 0 ≤ kk) (p1 : kk + (cnt x : Nat) ≤ 4611686018427387904) : Calls Try.prog 49 #[.slice ax x.length cx, .int .i64 kk] w (RetM (fun v w' => v = .int .i64 (kk + (cnt x : Nat)) ∧ (isF true Fx (.slice ax x.length cx) (mrk x kk)).φ w') Fx w) := by
 refine enter (n := 21) Try.func49 rfl Try.ntmps49 (Nat.le_of_ble_eq_true rfl) ?_
 have H := St.start w
 replace H := H.add (isF true Fx (.slice ax x.length cx) x) ⟨hx, fun _ => fr.sub (by intro z hz; simp [hz])⟩ (start_lt hx)
 have nhx := qN hx
 clear hx
 have C : Chg Fx w w := Chg.refl _ _
 have N : ([Fx] : List (List Nat)).flatten.Nodup := by simpa using nd
 refine qo (qB ?_)
 refine sp (.int .i64 0) ?_
 refine qA (t_n (qo (qo (qB ?_))))
 refine sp (.int .i64 0) ?_
 refine qA (t_n (xC ?_))
 replace H : St w w [] [isF true Fx (.slice ax x.length cx) (jf x kk 0)] := by rw [markTo_zero]; exact H
 refine vw (fun m' ρ w1 => ∃ (junk : Env) (k : Nat) (r : Int) (W : World), ρ = upd (upd (upd (upd junk 0 (.slice ax x.length cx)) 1 (.int .i64 r)) 4 (.int .i64 0)) 5 (.int .i64 k) ∧ (k ≤ x.length) ∧ (r = kk + (Vq x k : Nat)) ∧ (Chg Fx w W) ∧ m' = x.length - k ∧ St W w1 [] [isF true Fx (.slice ax x.length cx) (jf x kk k)]) (x.length - 0) ⟨_, 0, kk, w, (by exact qj (qj (qj (qj (rfl) rfl) rfl) rfl) rfl), (by omega), (by exact (Int.add_zero _).symm), (by exact C), rfl, H⟩ ?_
 clear H
 rintro m' ρ w2 ⟨junk, k, r, W, rfl, i0, i1, C, rfl, H⟩
 have hc := fun h => cnt_get (l := x) (k := k) h
 refine qo (qo (qB ?_))
 refine sps [.int .i64 k, .slice ax x.length cx] ?_
 refine sw (vI Try.underlying36 ax x.length cx rfl ?_)
 refine sp (.bool (decide ((k : Int) < x.length))) ?_
 refine qA (t_n ?_)
 refine qX (decide ((k : Int) < x.length)) rfl (fun h3 => ?_) (fun h3 => ?_)
 ·skip
  replace h3 := of_decide_eq_true h3
  refine xy (t_n (qo (xC (qo (qB ?_)))))
  refine sps [.slice ax x.length cx, .int .i64 k, .int .i64 r] ?_
  refine sw (o_rem r 3 rfl rfl (by (have := hc (by omega); have e : cnt (x[k]!) = 1 := rfl; omega)) (by omega) (by (have := hc (by omega); have e : cnt (x[k]!) = 1 := rfl; omega)) ?_)
  refine sp (.bool ((r % 3 : Int) == 0)) ?_
  obtain ⟨b4, o5, rfl⟩ := H.addr 0 rfl (by rw [jy _ _ (by omega)]; omega)
  obtain ⟨xs1, xs2, G1, G2, rfl, hx, H, N⟩ := H.open_Bool nd k (by rw [jy _ _ (by omega)]; omega) (markTo_get _ _ (by omega))
  refine sw (xO k Try.underlying36 ti4 rfl rfl (by omega) (by omega) ?_)
  refine sw (o_storeHole H N _ 0 hx (.bool ((r % 3 : Int) == 0)) Try.sizeOf4 rfl rfl rfl (Nat.le_of_ble_eq_true rfl) fun w6 W7 C8 H => ?_)
  replace C := C.trans (C8.mono (hole_sub _ _ _ _))
  replace H : St _ _ _ [Vh b4 o5 xs1 [.bool ((r % 3 : Int) == 0)] xs2 G1 G2 ((jf x kk k).take k) ((jf x kk k).drop (k + 1))] := H
  refine qA (t_n (qB ?_))
  refine sp (.int .i64 r) ?_
  refine sw (vz r 1 rfl rfl (by (have := hc (by omega); have e : cnt (x[k]!) = 1 := rfl; omega)) ?_)
  refine sp (.int .i64 (r + 1)) ?_
  refine qA (b_n (t_n (qB ?_)))
  refine sp (.int .i64 k) ?_
  refine sw (vz k 1 rfl rfl (by (have := hc (by omega); have e : cnt (x[k]!) = 1 := rfl; omega)) ?_)
  refine sp (.int .i64 (k + 1)) ?_
  refine qA ?_
  replace H := H.closeAt (y := mrk (x[k]!) r) (m := x.length) (c := cx) ⟨rfl, rfl⟩ (vJ.nil _) (by intro z hz; simp at hz) (jf x kk (k + 1)) (by subst i1; exact markTo_step _ _ (by omega)) (jy _ _ (by omega)) (by rw [jy _ _ (by omega)]; exact nhx)
  refine xH (m' := x.length - (k + 1)) (by omega) ⟨_, k + 1, r + 1, W7, (by exact qj (qj (qj (qj (rfl) rfl) rfl) rfl) rfl), ?_, ?_, ?_, rfl, H⟩
  · omega
  · rw [Qd]; have e : cnt (x[k]!) = 1 := rfl; omega
  · exact C
 replace h3 := of_decide_eq_false h3
 refine ve (t_x (t_x (b_x (t_n (qo (qB ?_))))))
 refine sps [.int .i64 r, .int .i64 r] ?_
 refine qA (t_n (xE ?_))
 obtain rfl : k = x.length := by omega
 refine ret1 (.int .i64 r) rfl rfl ⟨_, rfl, ⟨?_, H.get 0 rfl⟩, C.trans (Chg.ofExt H.base)⟩
 first | rfl | (refine congrArg (Value.int .i64) ?_; rw [cnt_list]; omega)

theorem markInt64SS_ok (w : World) (x : List (List Int)) (kk : Int) (ax : Option Addr) (cx : Nat) (Fx : List Nat) (hx : qW.rep w Fx [.slice ax x.length cx] x) (nd : Fx.Nodup) (fr : vJ w Fx) (p0 : 0 ≤ kk) (p1 : kk + (cnt x : Nat) ≤ 4611686018427387904) : Calls Try.prog 50 #[.slice ax x.length cx, .int .i64 kk] w (RetM (fun v w' => v = .int .i64 (kk + (cnt x : Nat)) ∧ (isF true Fx (.slice ax x.length cx) (mrk x kk)).φ w') Fx w) := by
 refine enter (n := 19) Try.func50 rfl Try.ntmps50 (Nat.le_of_ble_eq_true rfl) ?_
 have H := St.start w
 replace H := H.add (isF true Fx (.slice ax x.length cx) x) ⟨hx, fun _ => fr.sub (by intro z hz; simp [hz])⟩ (start_lt hx)
 have nhx := qN hx
 clear hx
 have C : Chg Fx w w := Chg.refl _ _
 have N : ([Fx] : List (List Nat)).flatten.Nodup := by simpa using nd
 refine qo (qB ?_)
 refine sp (.int .i64 0) ?_
 refine qA (t_n (qo (qo (qB ?_))))
 refine sp (.int .i64 0) ?_
 refine qA (t_n (xC ?_))
 replace H : St w w [] [isF true Fx (.slice ax x.length cx) (jf x kk 0)] := by rw [markTo_zero]; exact H
 refine vw (fun m' ρ w1 => ∃ (junk : Env) (k : Nat) (r : Int) (W : World), ρ = upd (upd (upd (upd junk 0 (.slice ax x.length cx)) 1 (.int .i64 r)) 4 (.int .i64 0)) 5 (.int .i64 k) ∧ (k ≤ x.length) ∧ (r = kk + (Vq x k : Nat)) ∧ (Chg Fx w W) ∧ m' = x.length - k ∧ St W w1 [] [isF true Fx (.slice ax x.length cx) (jf x kk k)]) (x.length - 0) ⟨_, 0, kk, w, (by exact qj (qj (qj (qj (rfl) rfl) rfl) rfl) rfl), (by omega), (by exact (Int.add_zero _).symm), (by exact C), rfl, H⟩ ?_
 clear H
 rintro m' ρ w2 ⟨junk, k, r, W, rfl, i0, i1, C, rfl, H⟩
 have hc := fun h => cnt_get (l := x) (k := k) h
 refine qo (qo (qB ?_))
 refine sps [.int .i64 k, .slice ax x.length cx] ?_
 refine sw (vI Try.underlying37 ax x.length cx rfl ?_)
 refine sp (.bool (decide ((k : Int) < x.length))) ?_
 refine qA (t_n ?_)
 refine qX (decide ((k : Int) < x.length)) rfl (fun h3 => ?_) (fun h3 => ?_)
 ·skip
  replace h3 := of_decide_eq_true h3
  refine xy (t_n (qo (xC (qB ?_))))
  refine sps [.slice ax x.length cx, .int .i64 k] ?_
  obtain ⟨b4, o5, rfl⟩ := H.addr 0 rfl (by rw [jy _ _ (by omega)]; omega)
  obtain ⟨xs1, xs2, G1, G2, aq, cq, Fq, rfl, hx, H, N⟩ := H.open_List nd k (by rw [jy _ _ (by omega)]; omega) (markTo_get _ _ (by omega))
  refine sw (xO k Try.underlying37 ti22 rfl rfl (by omega) (by omega) ?_)
  refine sw (qF (.slice aq ((x[k]!).length) cq) Try.isAgg22 rfl (H.holeCell _ 0 hx rfl) ?_)
  refine sp (.int .i64 r) ?_
  refine sw (X9 #[.slice aq ((x[k]!).length) cq, .int .i64 r] rfl rfl Try.call47 (QG w2 (x[k]!) r aq cq Fq (H.get 1 rfl).1 (QN N 1 rfl) ((H.get 1 rfl).2 rfl) (by (have := hc (by omega); skip; omega)) (by (have := hc (by omega); skip; omega))) ?_)
  rintro _ w6 ⟨rfl, m10⟩ x8
  obtain ⟨W7, C9, H⟩ := H.chgAt N 1 rfl (isF true Fq (.slice aq ((x[k]!).length) cq) (mrk (x[k]!) r)) rfl x8 m10
  replace C := C.trans (C9.mono (by intro z hz; have hz : z ∈ Fq := hz; simp [hz]))
  replace H : St _ _ _ [Vh b4 o5 xs1 [.slice aq ((x[k]!).length) cq] xs2 G1 G2 ((jf x kk k).take k) ((jf x kk k).drop (k + 1)), isF true Fq (.slice aq ((x[k]!).length) cq) (mrk (x[k]!) r)] := H
  refine sp (.int .i64 (r + (cnt (x[k]!) : Nat))) ?_
  refine qA (b_n (t_n (qB ?_)))
  refine sp (.int .i64 k) ?_
  refine sw (vz k 1 rfl rfl (by (have := hc (by omega); skip; omega)) ?_)
  refine sp (.int .i64 (k + 1)) ?_
  refine qA ?_
  replace H := H.closeAt (y := mrk (x[k]!) r) (m := x.length) (c := cx) (H.get 1 rfl).1 ((H.get 1 rfl).2 rfl) (H.ltOwn 1 rfl) (jf x kk (k + 1)) (by subst i1; exact markTo_step _ _ (by omega)) (jy _ _ (by omega)) (by rw [jy _ _ (by omega)]; exact nhx)
  refine xH (m' := x.length - (k + 1)) (by omega) ⟨_, k + 1, r + (cnt (x[k]!) : Nat), W7, (by exact qj (qj (qj (qj (rfl) rfl) rfl) rfl) rfl), ?_, ?_, ?_, rfl, H⟩
  · omega
  · rw [Qd]; skip; omega
  · exact C
 replace h3 := of_decide_eq_false h3
 refine ve (t_x (t_x (b_x (t_n (qo (qB ?_))))))
 refine sps [.int .i64 r, .int .i64 r] ?_
 refine qA (t_n (xE ?_))
 obtain rfl : k = x.length := by omega
 refine ret1 (.int .i64 r) rfl rfl ⟨_, rfl, ⟨?_, H.get 0 rfl⟩, C.trans (Chg.ofExt H.base)⟩
 first | rfl | (refine congrArg (Value.int .i64) ?_; rw [cnt_list]; omega)

theorem markIntoS_ok (w : World) (x : List IntoD) (kk : Int) (ax : Option Addr) (cx : Nat) (Fx : List Nat) (hx : qW.rep w Fx [.slice ax x.length cx] x) (nd : Fx.Nodup) (fr : vJ w Fx) (p0 : 0 ≤ kk) (p1 : kk + (cnt x : Nat) ≤ 4611686018427387904) : Calls Try.prog 85 #[.slice ax x.length cx, .int .i64 kk] w (RetM (fun v w' => v = .int .i64 (kk + (cnt x : Nat)) ∧ (isF true Fx (.slice ax x.length cx) (mrk x kk)).φ w') Fx w) := by
 refine enter (n := 27) Try.func85 rfl Try.ntmps85 (Nat.le_of_ble_eq_true rfl) ?_
 have H := St.start w
 replace H := H.add (isF true Fx (.slice ax x.length cx) x) ⟨hx, fun _ => fr.sub (by intro z hz; simp [hz])⟩ (start_lt hx)
 have nhx := qN hx
 clear hx
 have C : Chg Fx w w := Chg.refl _ _
 have N : ([Fx] : List (List Nat)).flatten.Nodup := by simpa using nd
 refine qo (qB ?_)
 refine sp (.int .i64 0) ?_
 refine qA (t_n (qo (qo (qB ?_))))
 refine sp (.int .i64 0) ?_
 refine qA (t_n (xC ?_))
 replace H : St w w [] [isF true Fx (.slice ax x.length cx) (jf x kk 0)] := by rw [markTo_zero]; exact H
 refine vw (fun m' ρ w1 => ∃ (junk : Env) (k : Nat) (r : Int) (W : World), ρ = upd (upd (upd (upd junk 0 (.slice ax x.length cx)) 1 (.int .i64 r)) 4 (.int .i64 0)) 5 (.int .i64 k) ∧ (k ≤ x.length) ∧ (r = kk + (Vq x k : Nat)) ∧ (Chg Fx w W) ∧ m' = x.length - k ∧ St W w1 [] [isF true Fx (.slice ax x.length cx) (jf x kk k)]) (x.length - 0) ⟨_, 0, kk, w, (by exact qj (qj (qj (qj (rfl) rfl) rfl) rfl) rfl), (by omega), (by exact (Int.add_zero _).symm), (by exact C), rfl, H⟩ ?_
 clear H
 rintro m' ρ w2 ⟨junk, k, r, W, rfl, i0, i1, C, rfl, H⟩
 have hc := fun h => cnt_get (l := x) (k := k) h
 refine qo (qo (qB ?_))
 refine sps [.int .i64 k, .slice ax x.length cx] ?_
 refine sw (vI Try.underlying90 ax x.length cx rfl ?_)
 refine sp (.bool (decide ((k : Int) < x.length))) ?_
 refine qA (t_n ?_)
 refine qX (decide ((k : Int) < x.length)) rfl (fun h3 => ?_) (fun h3 => ?_)
 ·skip
  replace h3 := of_decide_eq_true h3
  refine xy (t_n (qo (xC (qo (qB ?_)))))
  refine sps [.slice ax x.length cx, .int .i64 k, .int .i64 r] ?_
  obtain ⟨b4, o5, rfl⟩ := H.addr 0 rfl (by rw [jy _ _ (by omega)]; omega)
  obtain ⟨xs1, xs2, G1, G2, aqBag, cqBag, FqBag, rfl, hx, H, N⟩ := H.open_IntoD nd k (by rw [jy _ _ (by omega)]; omega) (markTo_get _ _ (by omega))
  refine sw (xO k Try.underlying90 ti108 rfl rfl (by omega) (by omega) ?_)
  refine sw (qO b4 (o5 + (k : Int).toNat * 2) 0 Try.underlying108 rfl rfl Try.sizeOf2 rfl ?_)
  refine sw (o_storeHole H N _ 0 hx (.int .i64 r) Try.sizeOf2 rfl rfl rfl (Nat.le_of_ble_eq_true rfl) fun w6 W7 C8 H => ?_)
  replace C := C.trans (C8.mono (hole_sub _ _ _ _))
  replace H : St _ _ _ [Vh b4 o5 xs1 [.int .i64 r, .slice aqBag (((x[k]!).vK).length) cqBag] xs2 G1 G2 ((jf x kk k).take k) ((jf x kk k).drop (k + 1)), isF true FqBag (.slice aqBag (((x[k]!).vK).length) cqBag) ((x[k]!).vK)] := H
  refine qA (t_n (qo (qB ?_)))
  refine sp (.int .i64 r) ?_
  refine sw (vz r 1 rfl rfl (by (have := hc (by omega); have e := cnt_IntoD (x[k]!); omega)) ?_)
  refine sp (.int .i64 (r + 1)) ?_
  refine qA (t_n (qB ?_))
  refine sps [.slice (aa b4 o5) x.length cx, .int .i64 k] ?_
  refine sw (xO k Try.underlying90 ti108 rfl rfl (by omega) (by omega) ?_)
  refine sw (qO b4 (o5 + (k : Int).toNat * 2) 1 Try.underlying108 rfl rfl Try.sizeOf22 rfl ?_)
  refine sw (qF (.slice aqBag (((x[k]!).vK).length) cqBag) Try.isAgg22 rfl (H.holeCell _ 1 hx rfl) ?_)
  refine sp (.int .i64 (r + 1)) ?_
  refine sw (X9 #[.slice aqBag (((x[k]!).vK).length) cqBag, .int .i64 (r + 1)] rfl rfl Try.call47 (QG w6 ((x[k]!).vK) (r + 1) aqBag cqBag FqBag (H.get 1 rfl).1 (QN N 1 rfl) ((H.get 1 rfl).2 rfl) (by (have := hc (by omega); have e := cnt_IntoD (x[k]!); omega)) (by (have := hc (by omega); have e := cnt_IntoD (x[k]!); omega))) ?_)
  rintro _ w9 ⟨rfl, m13⟩ x11
  obtain ⟨W10, C12, H⟩ := H.chgAt N 1 rfl (isF true FqBag (.slice aqBag (((x[k]!).vK).length) cqBag) (mrk ((x[k]!).vK) (r + 1))) rfl x11 m13
  replace C := C.trans (C12.mono (by intro z hz; have hz : z ∈ FqBag := hz; simp [hz]))
  replace H : St _ _ _ [Vh b4 o5 xs1 [.int .i64 r, .slice aqBag (((x[k]!).vK).length) cqBag] xs2 G1 G2 ((jf x kk k).take k) ((jf x kk k).drop (k + 1)), isF true FqBag (.slice aqBag (((x[k]!).vK).length) cqBag) (mrk ((x[k]!).vK) (r + 1))] := H
  refine sp (.int .i64 (r + 1 + (cnt ((x[k]!).vK) : Nat))) ?_
  refine qA (b_n (t_n (qB ?_)))
  refine sp (.int .i64 k) ?_
  refine sw (vz k 1 rfl rfl (by (have := hc (by omega); have e := cnt_IntoD (x[k]!); omega)) ?_)
  refine sp (.int .i64 (k + 1)) ?_
  refine qA ?_
  replace H := H.closeAt (y := mrk (x[k]!) r) (m := x.length) (c := cx) ⟨_, _, rfl, rfl, (H.get 1 rfl).1⟩ ((H.get 1 rfl).2 rfl) (H.ltOwn 1 rfl) (jf x kk (k + 1)) (by subst i1; exact markTo_step _ _ (by omega)) (jy _ _ (by omega)) (by rw [jy _ _ (by omega)]; exact nhx)
  refine xH (m' := x.length - (k + 1)) (by omega) ⟨_, k + 1, r + 1 + (cnt ((x[k]!).vK) : Nat), W10, (by exact qj (qj (qj (qj (rfl) rfl) rfl) rfl) rfl), ?_, ?_, ?_, rfl, H⟩
  · omega
  · rw [Qd]; have e := cnt_IntoD (x[k]!); omega
  · exact C
 replace h3 := of_decide_eq_false h3
 refine ve (t_x (t_x (b_x (t_n (qo (qB ?_))))))
 refine sps [.int .i64 r, .int .i64 r] ?_
 refine qA (t_n (xE ?_))
 obtain rfl : k = x.length := by omega
 refine ret1 (.int .i64 r) rfl rfl ⟨_, rfl, ⟨?_, H.get 0 rfl⟩, C.trans (Chg.ofExt H.base)⟩
 first | rfl | (refine congrArg (Value.int .i64) ?_; rw [cnt_list]; omega)

theorem markRuleS_ok (w : World) (x : List QK) (kk : Int) (ax : Option Addr) (cx : Nat) (Fx : List Nat) (hx : qW.rep w Fx [.slice ax x.length cx] x) (nd : Fx.Nodup) (fr : vJ w Fx) (p0 : 0 ≤ kk) (p1 : kk + (cnt x : Nat) ≤ 4611686018427387904) : Calls Try.prog 48 #[.slice ax x.length cx, .int .i64 kk] w (RetM (fun v w' => v = .int .i64 (kk + (cnt x : Nat)) ∧ (isF true Fx (.slice ax x.length cx) (mrk x kk)).φ w') Fx w) := by
 refine enter (n := 78) Try.func48 rfl Try.ntmps48 (Nat.le_of_ble_eq_true rfl) ?_
 have H := St.start w
 replace H := H.add (isF true Fx (.slice ax x.length cx) x) ⟨hx, fun _ => fr.sub (by intro z hz; simp [hz])⟩ (start_lt hx)
 have nhx := qN hx
 clear hx
 have C : Chg Fx w w := Chg.refl _ _
 have N : ([Fx] : List (List Nat)).flatten.Nodup := by simpa using nd
 refine qo (qB ?_)
 refine sp (.int .i64 0) ?_
 refine qA (t_n (qo (qo (qB ?_))))
 refine sp (.int .i64 0) ?_
 refine qA (t_n (xC ?_))
 replace H : St w w [] [isF true Fx (.slice ax x.length cx) (jf x kk 0)] := by rw [markTo_zero]; exact H
 refine vw (fun m' ρ w1 => ∃ (junk : Env) (k : Nat) (r : Int) (W : World), ρ = upd (upd (upd (upd junk 0 (.slice ax x.length cx)) 1 (.int .i64 r)) 4 (.int .i64 0)) 5 (.int .i64 k) ∧ (k ≤ x.length) ∧ (r = kk + (Vq x k : Nat)) ∧ (Chg Fx w W) ∧ m' = x.length - k ∧ St W w1 [] [isF true Fx (.slice ax x.length cx) (jf x kk k)]) (x.length - 0) ⟨_, 0, kk, w, (by exact qj (qj (qj (qj (rfl) rfl) rfl) rfl) rfl), (by omega), (by exact (Int.add_zero _).symm), (by exact C), rfl, H⟩ ?_
 clear H
 rintro m' ρ w2 ⟨junk, k, r, W, rfl, i0, i1, C, rfl, H⟩
 have hc := fun h => cnt_get (l := x) (k := k) h
 refine qo (qo (qB ?_))
 refine sps [.int .i64 k, .slice ax x.length cx] ?_
 refine sw (vI Try.underlying28 ax x.length cx rfl ?_)
 refine sp (.bool (decide ((k : Int) < x.length))) ?_
 refine qA (t_n ?_)
 refine qX (decide ((k : Int) < x.length)) rfl (fun h3 => ?_) (fun h3 => ?_)
 ·skip
  replace h3 := of_decide_eq_true h3
  refine xy (t_n (qo (xC (qo (qB ?_)))))
  refine sps [.slice ax x.length cx, .int .i64 k, .int .i64 r] ?_
  obtain ⟨b4, o5, rfl⟩ := H.addr 0 rfl (by rw [jy _ _ (by omega)]; omega)
  obtain ⟨xs1, xs2, G1, G2, X4, XX, FqNeed, X8, X3, FqHave, X5, XY, FqLack, X7, X0, FqHere, aqOut, cqOut, FqOut, X6, XZ, FqInto, rfl, hx, H, N⟩ := H.open_RuleD nd k (by rw [jy _ _ (by omega)]; omega) (markTo_get _ _ (by omega))
  refine sw (xO k Try.underlying28 ti92 rfl rfl (by omega) (by omega) ?_)
  refine sw (qO b4 (o5 + (k : Int).toNat * 9) 0 Try.underlying92 rfl rfl Try.sizeOf2 rfl ?_)
  refine sw (o_storeHole H N _ 0 hx (.int .i64 r) Try.sizeOf2 rfl rfl rfl (Nat.le_of_ble_eq_true rfl) fun w6 W7 C8 H => ?_)
  replace C := C.trans (C8.mono (hole_sub _ _ _ _))
  replace H : St _ _ _ [Vh b4 o5 xs1 [.int .i64 r, .int .i64 ((x[k]!).zk), .slice X4 (((x[k]!).qR).length) XX, .slice X8 (((x[k]!).xg).length) X3, .slice X5 (((x[k]!).xk).length) XY, .slice X7 (((x[k]!).xw).length) X0, .slice aqOut (((x[k]!).zo).length) cqOut, .slice X6 (((x[k]!).qE).length) XZ, .bool ((x[k]!).xQ)] xs2 G1 G2 ((jf x kk k).take k) ((jf x kk k).drop (k + 1)), isF true FqNeed (.slice X4 (((x[k]!).qR).length) XX) ((x[k]!).qR), isF true FqHave (.slice X8 (((x[k]!).xg).length) X3) ((x[k]!).xg), isF true FqLack (.slice X5 (((x[k]!).xk).length) XY) ((x[k]!).xk), isF true FqHere (.slice X7 (((x[k]!).xw).length) X0) ((x[k]!).xw), isF true FqOut (.slice aqOut (((x[k]!).zo).length) cqOut) ((x[k]!).zo), isF true FqInto (.slice X6 (((x[k]!).qE).length) XZ) ((x[k]!).qE)] := H
  refine qA (t_n (qo (qB ?_)))
  refine sp (.int .i64 r) ?_
  refine sw (vz r 1 rfl rfl (by (have := hc (by omega); have e := yE (x[k]!); omega)) ?_)
  refine sp (.int .i64 (r + 1)) ?_
  refine qA (t_n (qo (qB ?_)))
  refine sps [.slice (aa b4 o5) x.length cx, .int .i64 k, .int .i64 (r + 1)] ?_
  refine sw (xO k Try.underlying28 ti92 rfl rfl (by omega) (by omega) ?_)
  refine sw (qO b4 (o5 + (k : Int).toNat * 9) 1 Try.underlying92 rfl rfl Try.sizeOf2 rfl ?_)
  refine sw (o_storeHole H N _ 1 hx (.int .i64 (r + 1)) Try.sizeOf2 rfl rfl rfl (Nat.le_of_ble_eq_true rfl) fun w9 W10 C11 H => ?_)
  replace C := C.trans (C11.mono (hole_sub _ _ _ _))
  replace H : St _ _ _ [Vh b4 o5 xs1 [.int .i64 r, .int .i64 (r + 1), .slice X4 (((x[k]!).qR).length) XX, .slice X8 (((x[k]!).xg).length) X3, .slice X5 (((x[k]!).xk).length) XY, .slice X7 (((x[k]!).xw).length) X0, .slice aqOut (((x[k]!).zo).length) cqOut, .slice X6 (((x[k]!).qE).length) XZ, .bool ((x[k]!).xQ)] xs2 G1 G2 ((jf x kk k).take k) ((jf x kk k).drop (k + 1)), isF true FqNeed (.slice X4 (((x[k]!).qR).length) XX) ((x[k]!).qR), isF true FqHave (.slice X8 (((x[k]!).xg).length) X3) ((x[k]!).xg), isF true FqLack (.slice X5 (((x[k]!).xk).length) XY) ((x[k]!).xk), isF true FqHere (.slice X7 (((x[k]!).xw).length) X0) ((x[k]!).xw), isF true FqOut (.slice aqOut (((x[k]!).zo).length) cqOut) ((x[k]!).zo), isF true FqInto (.slice X6 (((x[k]!).qE).length) XZ) ((x[k]!).qE)] := H
  refine qA (t_n (qo (qB ?_)))
  refine sp (.int .i64 (r + 1)) ?_
  refine sw (vz (r + 1) 1 rfl rfl (by (have := hc (by omega); have e := yE (x[k]!); omega)) ?_)
  refine sp (.int .i64 ((r + 1) + 1)) ?_
  refine qA (t_n (qo (qB ?_)))
  refine sps [.slice (aa b4 o5) x.length cx, .int .i64 k] ?_
  refine sw (xO k Try.underlying28 ti92 rfl rfl (by omega) (by omega) ?_)
  refine sw (qO b4 (o5 + (k : Int).toNat * 9) 2 Try.underlying92 rfl rfl Try.sizeOf22 rfl ?_)
  refine sw (qF (.slice X4 (((x[k]!).qR).length) XX) Try.isAgg22 rfl (H.holeCell _ 2 hx rfl) ?_)
  refine sp (.int .i64 ((r + 1) + 1)) ?_
  refine sw (X9 #[.slice X4 (((x[k]!).qR).length) XX, .int .i64 ((r + 1) + 1)] rfl rfl Try.call47 (QG w9 ((x[k]!).qR) ((r + 1) + 1) X4 XX FqNeed (H.get 1 rfl).1 (QN N 1 rfl) ((H.get 1 rfl).2 rfl) (by (have := hc (by omega); have e := yE (x[k]!); omega)) (by (have := hc (by omega); have e := yE (x[k]!); omega))) ?_)
  rintro _ w12 ⟨rfl, m16⟩ x14
  obtain ⟨W13, C15, H⟩ := H.chgAt N 1 rfl (isF true FqNeed (.slice X4 (((x[k]!).qR).length) XX) (mrk ((x[k]!).qR) ((r + 1) + 1))) rfl x14 m16
  replace C := C.trans (C15.mono (by intro z hz; have hz : z ∈ FqNeed := hz; simp [hz]))
  replace H : St _ _ _ [Vh b4 o5 xs1 [.int .i64 r, .int .i64 (r + 1), .slice X4 (((x[k]!).qR).length) XX, .slice X8 (((x[k]!).xg).length) X3, .slice X5 (((x[k]!).xk).length) XY, .slice X7 (((x[k]!).xw).length) X0, .slice aqOut (((x[k]!).zo).length) cqOut, .slice X6 (((x[k]!).qE).length) XZ, .bool ((x[k]!).xQ)] xs2 G1 G2 ((jf x kk k).take k) ((jf x kk k).drop (k + 1)), isF true FqNeed (.slice X4 (((x[k]!).qR).length) XX) (mrk ((x[k]!).qR) ((r + 1) + 1)), isF true FqHave (.slice X8 (((x[k]!).xg).length) X3) ((x[k]!).xg), isF true FqLack (.slice X5 (((x[k]!).xk).length) XY) ((x[k]!).xk), isF true FqHere (.slice X7 (((x[k]!).xw).length) X0) ((x[k]!).xw), isF true FqOut (.slice aqOut (((x[k]!).zo).length) cqOut) ((x[k]!).zo), isF true FqInto (.slice X6 (((x[k]!).qE).length) XZ) ((x[k]!).qE)] := H
  refine sp (.int .i64 ((r + 1) + 1 + (cnt ((x[k]!).qR) : Nat))) ?_
  refine qA (t_n (qo (qB ?_)))
  refine sps [.slice (aa b4 o5) x.length cx, .int .i64 k] ?_
  refine sw (xO k Try.underlying28 ti92 rfl rfl (by omega) (by omega) ?_)
  refine sw (qO b4 (o5 + (k : Int).toNat * 9) 3 Try.underlying92 rfl rfl Try.sizeOf22 rfl ?_)
  refine sw (qF (.slice X8 (((x[k]!).xg).length) X3) Try.isAgg22 rfl (H.holeCell _ 3 hx rfl) ?_)
  refine sp (.int .i64 ((r + 1) + 1 + (cnt ((x[k]!).qR) : Nat))) ?_
  refine sw (X9 #[.slice X8 (((x[k]!).xg).length) X3, .int .i64 ((r + 1) + 1 + (cnt ((x[k]!).qR) : Nat))] rfl rfl Try.call47 (QG w12 ((x[k]!).xg) ((r + 1) + 1 + (cnt ((x[k]!).qR) : Nat)) X8 X3 FqHave (H.get 2 rfl).1 (QN N 2 rfl) ((H.get 2 rfl).2 rfl) (by (have := hc (by omega); have e := yE (x[k]!); omega)) (by (have := hc (by omega); have e := yE (x[k]!); omega))) ?_)
  rintro _ w17 ⟨rfl, m21⟩ x19
  obtain ⟨W18, C20, H⟩ := H.chgAt N 2 rfl (isF true FqHave (.slice X8 (((x[k]!).xg).length) X3) (mrk ((x[k]!).xg) ((r + 1) + 1 + (cnt ((x[k]!).qR) : Nat)))) rfl x19 m21
  replace C := C.trans (C20.mono (by intro z hz; have hz : z ∈ FqHave := hz; simp [hz]))
  replace H : St _ _ _ [Vh b4 o5 xs1 [.int .i64 r, .int .i64 (r + 1), .slice X4 (((x[k]!).qR).length) XX, .slice X8 (((x[k]!).xg).length) X3, .slice X5 (((x[k]!).xk).length) XY, .slice X7 (((x[k]!).xw).length) X0, .slice aqOut (((x[k]!).zo).length) cqOut, .slice X6 (((x[k]!).qE).length) XZ, .bool ((x[k]!).xQ)] xs2 G1 G2 ((jf x kk k).take k) ((jf x kk k).drop (k + 1)), isF true FqNeed (.slice X4 (((x[k]!).qR).length) XX) (mrk ((x[k]!).qR) ((r + 1) + 1)), isF true FqHave (.slice X8 (((x[k]!).xg).length) X3) (mrk ((x[k]!).xg) ((r + 1) + 1 + (cnt ((x[k]!).qR) : Nat))), isF true FqLack (.slice X5 (((x[k]!).xk).length) XY) ((x[k]!).xk), isF true FqHere (.slice X7 (((x[k]!).xw).length) X0) ((x[k]!).xw), isF true FqOut (.slice aqOut (((x[k]!).zo).length) cqOut) ((x[k]!).zo), isF true FqInto (.slice X6 (((x[k]!).qE).length) XZ) ((x[k]!).qE)] := H
  refine sp (.int .i64 ((r + 1) + 1 + (cnt ((x[k]!).qR) : Nat) + (cnt ((x[k]!).xg) : Nat))) ?_
  refine qA (t_n (qo (qB ?_)))
  refine sps [.slice (aa b4 o5) x.length cx, .int .i64 k] ?_
  refine sw (xO k Try.underlying28 ti92 rfl rfl (by omega) (by omega) ?_)
  refine sw (qO b4 (o5 + (k : Int).toNat * 9) 4 Try.underlying92 rfl rfl Try.sizeOf22 rfl ?_)
  refine sw (qF (.slice X5 (((x[k]!).xk).length) XY) Try.isAgg22 rfl (H.holeCell _ 4 hx rfl) ?_)
  refine sp (.int .i64 ((r + 1) + 1 + (cnt ((x[k]!).qR) : Nat) + (cnt ((x[k]!).xg) : Nat))) ?_
  refine sw (X9 #[.slice X5 (((x[k]!).xk).length) XY, .int .i64 ((r + 1) + 1 + (cnt ((x[k]!).qR) : Nat) + (cnt ((x[k]!).xg) : Nat))] rfl rfl Try.call47 (QG w17 ((x[k]!).xk) ((r + 1) + 1 + (cnt ((x[k]!).qR) : Nat) + (cnt ((x[k]!).xg) : Nat)) X5 XY FqLack (H.get 3 rfl).1 (QN N 3 rfl) ((H.get 3 rfl).2 rfl) (by (have := hc (by omega); have e := yE (x[k]!); omega)) (by (have := hc (by omega); have e := yE (x[k]!); omega))) ?_)
  rintro _ w22 ⟨rfl, m26⟩ x24
  obtain ⟨W23, C25, H⟩ := H.chgAt N 3 rfl (isF true FqLack (.slice X5 (((x[k]!).xk).length) XY) (mrk ((x[k]!).xk) ((r + 1) + 1 + (cnt ((x[k]!).qR) : Nat) + (cnt ((x[k]!).xg) : Nat)))) rfl x24 m26
  replace C := C.trans (C25.mono (by intro z hz; have hz : z ∈ FqLack := hz; simp [hz]))
  replace H : St _ _ _ [Vh b4 o5 xs1 [.int .i64 r, .int .i64 (r + 1), .slice X4 (((x[k]!).qR).length) XX, .slice X8 (((x[k]!).xg).length) X3, .slice X5 (((x[k]!).xk).length) XY, .slice X7 (((x[k]!).xw).length) X0, .slice aqOut (((x[k]!).zo).length) cqOut, .slice X6 (((x[k]!).qE).length) XZ, .bool ((x[k]!).xQ)] xs2 G1 G2 ((jf x kk k).take k) ((jf x kk k).drop (k + 1)), isF true FqNeed (.slice X4 (((x[k]!).qR).length) XX) (mrk ((x[k]!).qR) ((r + 1) + 1)), isF true FqHave (.slice X8 (((x[k]!).xg).length) X3) (mrk ((x[k]!).xg) ((r + 1) + 1 + (cnt ((x[k]!).qR) : Nat))), isF true FqLack (.slice X5 (((x[k]!).xk).length) XY) (mrk ((x[k]!).xk) ((r + 1) + 1 + (cnt ((x[k]!).qR) : Nat) + (cnt ((x[k]!).xg) : Nat))), isF true FqHere (.slice X7 (((x[k]!).xw).length) X0) ((x[k]!).xw), isF true FqOut (.slice aqOut (((x[k]!).zo).length) cqOut) ((x[k]!).zo), isF true FqInto (.slice X6 (((x[k]!).qE).length) XZ) ((x[k]!).qE)] := H
  refine sp (.int .i64 ((r + 1) + 1 + (cnt ((x[k]!).qR) : Nat) + (cnt ((x[k]!).xg) : Nat) + (cnt ((x[k]!).xk) : Nat))) ?_
  refine qA (t_n (qo (qB ?_)))
  refine sps [.slice (aa b4 o5) x.length cx, .int .i64 k] ?_
  refine sw (xO k Try.underlying28 ti92 rfl rfl (by omega) (by omega) ?_)
  refine sw (qO b4 (o5 + (k : Int).toNat * 9) 5 Try.underlying92 rfl rfl Try.sizeOf22 rfl ?_)
  refine sw (qF (.slice X7 (((x[k]!).xw).length) X0) Try.isAgg22 rfl (H.holeCell _ 5 hx rfl) ?_)
  refine sp (.int .i64 ((r + 1) + 1 + (cnt ((x[k]!).qR) : Nat) + (cnt ((x[k]!).xg) : Nat) + (cnt ((x[k]!).xk) : Nat))) ?_
  refine sw (X9 #[.slice X7 (((x[k]!).xw).length) X0, .int .i64 ((r + 1) + 1 + (cnt ((x[k]!).qR) : Nat) + (cnt ((x[k]!).xg) : Nat) + (cnt ((x[k]!).xk) : Nat))] rfl rfl Try.call47 (QG w22 ((x[k]!).xw) ((r + 1) + 1 + (cnt ((x[k]!).qR) : Nat) + (cnt ((x[k]!).xg) : Nat) + (cnt ((x[k]!).xk) : Nat)) X7 X0 FqHere (H.get 4 rfl).1 (QN N 4 rfl) ((H.get 4 rfl).2 rfl) (by (have := hc (by omega); have e := yE (x[k]!); omega)) (by (have := hc (by omega); have e := yE (x[k]!); omega))) ?_)
  rintro _ w27 ⟨rfl, m31⟩ x29
  obtain ⟨W28, C30, H⟩ := H.chgAt N 4 rfl (isF true FqHere (.slice X7 (((x[k]!).xw).length) X0) (mrk ((x[k]!).xw) ((r + 1) + 1 + (cnt ((x[k]!).qR) : Nat) + (cnt ((x[k]!).xg) : Nat) + (cnt ((x[k]!).xk) : Nat)))) rfl x29 m31
  replace C := C.trans (C30.mono (by intro z hz; have hz : z ∈ FqHere := hz; simp [hz]))
  replace H : St _ _ _ [Vh b4 o5 xs1 [.int .i64 r, .int .i64 (r + 1), .slice X4 (((x[k]!).qR).length) XX, .slice X8 (((x[k]!).xg).length) X3, .slice X5 (((x[k]!).xk).length) XY, .slice X7 (((x[k]!).xw).length) X0, .slice aqOut (((x[k]!).zo).length) cqOut, .slice X6 (((x[k]!).qE).length) XZ, .bool ((x[k]!).xQ)] xs2 G1 G2 ((jf x kk k).take k) ((jf x kk k).drop (k + 1)), isF true FqNeed (.slice X4 (((x[k]!).qR).length) XX) (mrk ((x[k]!).qR) ((r + 1) + 1)), isF true FqHave (.slice X8 (((x[k]!).xg).length) X3) (mrk ((x[k]!).xg) ((r + 1) + 1 + (cnt ((x[k]!).qR) : Nat))), isF true FqLack (.slice X5 (((x[k]!).xk).length) XY) (mrk ((x[k]!).xk) ((r + 1) + 1 + (cnt ((x[k]!).qR) : Nat) + (cnt ((x[k]!).xg) : Nat))), isF true FqHere (.slice X7 (((x[k]!).xw).length) X0) (mrk ((x[k]!).xw) ((r + 1) + 1 + (cnt ((x[k]!).qR) : Nat) + (cnt ((x[k]!).xg) : Nat) + (cnt ((x[k]!).xk) : Nat))), isF true FqOut (.slice aqOut (((x[k]!).zo).length) cqOut) ((x[k]!).zo), isF true FqInto (.slice X6 (((x[k]!).qE).length) XZ) ((x[k]!).qE)] := H
  refine sp (.int .i64 ((r + 1) + 1 + (cnt ((x[k]!).qR) : Nat) + (cnt ((x[k]!).xg) : Nat) + (cnt ((x[k]!).xk) : Nat) + (cnt ((x[k]!).xw) : Nat))) ?_
  refine qA (t_n (qo (qB ?_)))
  refine sps [.slice (aa b4 o5) x.length cx, .int .i64 k] ?_
  refine sw (xO k Try.underlying28 ti92 rfl rfl (by omega) (by omega) ?_)
  refine sw (qO b4 (o5 + (k : Int).toNat * 9) 6 Try.underlying92 rfl rfl Try.sizeOf22 rfl ?_)
  refine sw (qF (.slice aqOut (((x[k]!).zo).length) cqOut) Try.isAgg22 rfl (H.holeCell _ 6 hx rfl) ?_)
  refine sp (.int .i64 ((r + 1) + 1 + (cnt ((x[k]!).qR) : Nat) + (cnt ((x[k]!).xg) : Nat) + (cnt ((x[k]!).xk) : Nat) + (cnt ((x[k]!).xw) : Nat))) ?_
  refine sw (X9 #[.slice aqOut (((x[k]!).zo).length) cqOut, .int .i64 ((r + 1) + 1 + (cnt ((x[k]!).qR) : Nat) + (cnt ((x[k]!).xg) : Nat) + (cnt ((x[k]!).xk) : Nat) + (cnt ((x[k]!).xw) : Nat))] rfl rfl Try.call47 (QG w27 ((x[k]!).zo) ((r + 1) + 1 + (cnt ((x[k]!).qR) : Nat) + (cnt ((x[k]!).xg) : Nat) + (cnt ((x[k]!).xk) : Nat) + (cnt ((x[k]!).xw) : Nat)) aqOut cqOut FqOut (H.get 5 rfl).1 (QN N 5 rfl) ((H.get 5 rfl).2 rfl) (by (have := hc (by omega); have e := yE (x[k]!); omega)) (by (have := hc (by omega); have e := yE (x[k]!); omega))) ?_)
  rintro _ w32 ⟨rfl, m36⟩ x34
  obtain ⟨W33, C35, H⟩ := H.chgAt N 5 rfl (isF true FqOut (.slice aqOut (((x[k]!).zo).length) cqOut) (mrk ((x[k]!).zo) ((r + 1) + 1 + (cnt ((x[k]!).qR) : Nat) + (cnt ((x[k]!).xg) : Nat) + (cnt ((x[k]!).xk) : Nat) + (cnt ((x[k]!).xw) : Nat)))) rfl x34 m36
  replace C := C.trans (C35.mono (by intro z hz; have hz : z ∈ FqOut := hz; simp [hz]))
  replace H : St _ _ _ [Vh b4 o5 xs1 [.int .i64 r, .int .i64 (r + 1), .slice X4 (((x[k]!).qR).length) XX, .slice X8 (((x[k]!).xg).length) X3, .slice X5 (((x[k]!).xk).length) XY, .slice X7 (((x[k]!).xw).length) X0, .slice aqOut (((x[k]!).zo).length) cqOut, .slice X6 (((x[k]!).qE).length) XZ, .bool ((x[k]!).xQ)] xs2 G1 G2 ((jf x kk k).take k) ((jf x kk k).drop (k + 1)), isF true FqNeed (.slice X4 (((x[k]!).qR).length) XX) (mrk ((x[k]!).qR) ((r + 1) + 1)), isF true FqHave (.slice X8 (((x[k]!).xg).length) X3) (mrk ((x[k]!).xg) ((r + 1) + 1 + (cnt ((x[k]!).qR) : Nat))), isF true FqLack (.slice X5 (((x[k]!).xk).length) XY) (mrk ((x[k]!).xk) ((r + 1) + 1 + (cnt ((x[k]!).qR) : Nat) + (cnt ((x[k]!).xg) : Nat))), isF true FqHere (.slice X7 (((x[k]!).xw).length) X0) (mrk ((x[k]!).xw) ((r + 1) + 1 + (cnt ((x[k]!).qR) : Nat) + (cnt ((x[k]!).xg) : Nat) + (cnt ((x[k]!).xk) : Nat))), isF true FqOut (.slice aqOut (((x[k]!).zo).length) cqOut) (mrk ((x[k]!).zo) ((r + 1) + 1 + (cnt ((x[k]!).qR) : Nat) + (cnt ((x[k]!).xg) : Nat) + (cnt ((x[k]!).xk) : Nat) + (cnt ((x[k]!).xw) : Nat))), isF true FqInto (.slice X6 (((x[k]!).qE).length) XZ) ((x[k]!).qE)] := H
  refine sp (.int .i64 ((r + 1) + 1 + (cnt ((x[k]!).qR) : Nat) + (cnt ((x[k]!).xg) : Nat) + (cnt ((x[k]!).xk) : Nat) + (cnt ((x[k]!).xw) : Nat) + (cnt ((x[k]!).zo) : Nat))) ?_
  refine qA (t_n (qo (qB ?_)))
  refine sps [.slice (aa b4 o5) x.length cx, .int .i64 k] ?_
  refine sw (xO k Try.underlying28 ti92 rfl rfl (by omega) (by omega) ?_)
  refine sw (qO b4 (o5 + (k : Int).toNat * 9) 7 Try.underlying92 rfl rfl Try.sizeOf90 rfl ?_)
  refine sw (qF (.slice X6 (((x[k]!).qE).length) XZ) Try.isAgg90 rfl (H.holeCell _ 7 hx rfl) ?_)
  refine sp (.int .i64 ((r + 1) + 1 + (cnt ((x[k]!).qR) : Nat) + (cnt ((x[k]!).xg) : Nat) + (cnt ((x[k]!).xk) : Nat) + (cnt ((x[k]!).xw) : Nat) + (cnt ((x[k]!).zo) : Nat))) ?_
  refine sw (X9 #[.slice X6 (((x[k]!).qE).length) XZ, .int .i64 ((r + 1) + 1 + (cnt ((x[k]!).qR) : Nat) + (cnt ((x[k]!).xg) : Nat) + (cnt ((x[k]!).xk) : Nat) + (cnt ((x[k]!).xw) : Nat) + (cnt ((x[k]!).zo) : Nat))] rfl rfl Try.call85 (markIntoS_ok w32 ((x[k]!).qE) ((r + 1) + 1 + (cnt ((x[k]!).qR) : Nat) + (cnt ((x[k]!).xg) : Nat) + (cnt ((x[k]!).xk) : Nat) + (cnt ((x[k]!).xw) : Nat) + (cnt ((x[k]!).zo) : Nat)) X6 XZ FqInto (H.get 6 rfl).1 (QN N 6 rfl) ((H.get 6 rfl).2 rfl) (by (have := hc (by omega); have e := yE (x[k]!); omega)) (by (have := hc (by omega); have e := yE (x[k]!); omega))) ?_)
  rintro _ w37 ⟨rfl, m41⟩ x39
  obtain ⟨W38, C40, H⟩ := H.chgAt N 6 rfl (isF true FqInto (.slice X6 (((x[k]!).qE).length) XZ) (mrk ((x[k]!).qE) ((r + 1) + 1 + (cnt ((x[k]!).qR) : Nat) + (cnt ((x[k]!).xg) : Nat) + (cnt ((x[k]!).xk) : Nat) + (cnt ((x[k]!).xw) : Nat) + (cnt ((x[k]!).zo) : Nat)))) rfl x39 m41
  replace C := C.trans (C40.mono (by intro z hz; have hz : z ∈ FqInto := hz; simp [hz]))
  replace H : St _ _ _ [Vh b4 o5 xs1 [.int .i64 r, .int .i64 (r + 1), .slice X4 (((x[k]!).qR).length) XX, .slice X8 (((x[k]!).xg).length) X3, .slice X5 (((x[k]!).xk).length) XY, .slice X7 (((x[k]!).xw).length) X0, .slice aqOut (((x[k]!).zo).length) cqOut, .slice X6 (((x[k]!).qE).length) XZ, .bool ((x[k]!).xQ)] xs2 G1 G2 ((jf x kk k).take k) ((jf x kk k).drop (k + 1)), isF true FqNeed (.slice X4 (((x[k]!).qR).length) XX) (mrk ((x[k]!).qR) ((r + 1) + 1)), isF true FqHave (.slice X8 (((x[k]!).xg).length) X3) (mrk ((x[k]!).xg) ((r + 1) + 1 + (cnt ((x[k]!).qR) : Nat))), isF true FqLack (.slice X5 (((x[k]!).xk).length) XY) (mrk ((x[k]!).xk) ((r + 1) + 1 + (cnt ((x[k]!).qR) : Nat) + (cnt ((x[k]!).xg) : Nat))), isF true FqHere (.slice X7 (((x[k]!).xw).length) X0) (mrk ((x[k]!).xw) ((r + 1) + 1 + (cnt ((x[k]!).qR) : Nat) + (cnt ((x[k]!).xg) : Nat) + (cnt ((x[k]!).xk) : Nat))), isF true FqOut (.slice aqOut (((x[k]!).zo).length) cqOut) (mrk ((x[k]!).zo) ((r + 1) + 1 + (cnt ((x[k]!).qR) : Nat) + (cnt ((x[k]!).xg) : Nat) + (cnt ((x[k]!).xk) : Nat) + (cnt ((x[k]!).xw) : Nat))), isF true FqInto (.slice X6 (((x[k]!).qE).length) XZ) (mrk ((x[k]!).qE) ((r + 1) + 1 + (cnt ((x[k]!).qR) : Nat) + (cnt ((x[k]!).xg) : Nat) + (cnt ((x[k]!).xk) : Nat) + (cnt ((x[k]!).xw) : Nat) + (cnt ((x[k]!).zo) : Nat)))] := H
  refine sp (.int .i64 ((r + 1) + 1 + (cnt ((x[k]!).qR) : Nat) + (cnt ((x[k]!).xg) : Nat) + (cnt ((x[k]!).xk) : Nat) + (cnt ((x[k]!).xw) : Nat) + (cnt ((x[k]!).zo) : Nat) + (cnt ((x[k]!).qE) : Nat))) ?_
  refine qA (t_n (qo (qB ?_)))
  refine sps [.slice (aa b4 o5) x.length cx, .int .i64 k, .int .i64 ((r + 1) + 1 + (cnt ((x[k]!).qR) : Nat) + (cnt ((x[k]!).xg) : Nat) + (cnt ((x[k]!).xk) : Nat) + (cnt ((x[k]!).xw) : Nat) + (cnt ((x[k]!).zo) : Nat) + (cnt ((x[k]!).qE) : Nat))] ?_
  refine sw (o_rem ((r + 1) + 1 + (cnt ((x[k]!).qR) : Nat) + (cnt ((x[k]!).xg) : Nat) + (cnt ((x[k]!).xk) : Nat) + (cnt ((x[k]!).xw) : Nat) + (cnt ((x[k]!).zo) : Nat) + (cnt ((x[k]!).qE) : Nat)) 3 rfl rfl (by (have := hc (by omega); have e := yE (x[k]!); omega)) (by omega) (by (have := hc (by omega); have e := yE (x[k]!); omega)) ?_)
  refine sp (.bool ((((r + 1) + 1 + (cnt ((x[k]!).qR) : Nat) + (cnt ((x[k]!).xg) : Nat) + (cnt ((x[k]!).xk) : Nat) + (cnt ((x[k]!).xw) : Nat) + (cnt ((x[k]!).zo) : Nat) + (cnt ((x[k]!).qE) : Nat)) % 3 : Int) == 0)) ?_
  refine sw (xO k Try.underlying28 ti92 rfl rfl (by omega) (by omega) ?_)
  refine sw (qO b4 (o5 + (k : Int).toNat * 9) 8 Try.underlying92 rfl rfl Try.sizeOf4 rfl ?_)
  refine sw (o_storeHole H N _ 8 hx (.bool ((((r + 1) + 1 + (cnt ((x[k]!).qR) : Nat) + (cnt ((x[k]!).xg) : Nat) + (cnt ((x[k]!).xk) : Nat) + (cnt ((x[k]!).xw) : Nat) + (cnt ((x[k]!).zo) : Nat) + (cnt ((x[k]!).qE) : Nat)) % 3 : Int) == 0)) Try.sizeOf4 rfl rfl rfl (Nat.le_of_ble_eq_true rfl) fun w42 W43 C44 H => ?_)
  replace C := C.trans (C44.mono (hole_sub _ _ _ _))
  replace H : St _ _ _ [Vh b4 o5 xs1 [.int .i64 r, .int .i64 (r + 1), .slice X4 (((x[k]!).qR).length) XX, .slice X8 (((x[k]!).xg).length) X3, .slice X5 (((x[k]!).xk).length) XY, .slice X7 (((x[k]!).xw).length) X0, .slice aqOut (((x[k]!).zo).length) cqOut, .slice X6 (((x[k]!).qE).length) XZ, .bool ((((r + 1) + 1 + (cnt ((x[k]!).qR) : Nat) + (cnt ((x[k]!).xg) : Nat) + (cnt ((x[k]!).xk) : Nat) + (cnt ((x[k]!).xw) : Nat) + (cnt ((x[k]!).zo) : Nat) + (cnt ((x[k]!).qE) : Nat)) % 3 : Int) == 0)] xs2 G1 G2 ((jf x kk k).take k) ((jf x kk k).drop (k + 1)), isF true FqNeed (.slice X4 (((x[k]!).qR).length) XX) (mrk ((x[k]!).qR) ((r + 1) + 1)), isF true FqHave (.slice X8 (((x[k]!).xg).length) X3) (mrk ((x[k]!).xg) ((r + 1) + 1 + (cnt ((x[k]!).qR) : Nat))), isF true FqLack (.slice X5 (((x[k]!).xk).length) XY) (mrk ((x[k]!).xk) ((r + 1) + 1 + (cnt ((x[k]!).qR) : Nat) + (cnt ((x[k]!).xg) : Nat))), isF true FqHere (.slice X7 (((x[k]!).xw).length) X0) (mrk ((x[k]!).xw) ((r + 1) + 1 + (cnt ((x[k]!).qR) : Nat) + (cnt ((x[k]!).xg) : Nat) + (cnt ((x[k]!).xk) : Nat))), isF true FqOut (.slice aqOut (((x[k]!).zo).length) cqOut) (mrk ((x[k]!).zo) ((r + 1) + 1 + (cnt ((x[k]!).qR) : Nat) + (cnt ((x[k]!).xg) : Nat) + (cnt ((x[k]!).xk) : Nat) + (cnt ((x[k]!).xw) : Nat))), isF true FqInto (.slice X6 (((x[k]!).qE).length) XZ) (mrk ((x[k]!).qE) ((r + 1) + 1 + (cnt ((x[k]!).qR) : Nat) + (cnt ((x[k]!).xg) : Nat) + (cnt ((x[k]!).xk) : Nat) + (cnt ((x[k]!).xw) : Nat) + (cnt ((x[k]!).zo) : Nat)))] := H
  refine qA (t_n (qB ?_))
  refine sp (.int .i64 ((r + 1) + 1 + (cnt ((x[k]!).qR) : Nat) + (cnt ((x[k]!).xg) : Nat) + (cnt ((x[k]!).xk) : Nat) + (cnt ((x[k]!).xw) : Nat) + (cnt ((x[k]!).zo) : Nat) + (cnt ((x[k]!).qE) : Nat))) ?_
  refine sw (vz ((r + 1) + 1 + (cnt ((x[k]!).qR) : Nat) + (cnt ((x[k]!).xg) : Nat) + (cnt ((x[k]!).xk) : Nat) + (cnt ((x[k]!).xw) : Nat) + (cnt ((x[k]!).zo) : Nat) + (cnt ((x[k]!).qE) : Nat)) 1 rfl rfl (by (have := hc (by omega); have e := yE (x[k]!); omega)) ?_)
  refine sp (.int .i64 (((r + 1) + 1 + (cnt ((x[k]!).qR) : Nat) + (cnt ((x[k]!).xg) : Nat) + (cnt ((x[k]!).xk) : Nat) + (cnt ((x[k]!).xw) : Nat) + (cnt ((x[k]!).zo) : Nat) + (cnt ((x[k]!).qE) : Nat)) + 1)) ?_
  refine qA (b_n (t_n (qB ?_)))
  refine sp (.int .i64 k) ?_
  refine sw (vz k 1 rfl rfl (by (have := hc (by omega); have e := yE (x[k]!); omega)) ?_)
  refine sp (.int .i64 (k + 1)) ?_
  refine qA ?_
  replace H := H.closeAt (y := mrk (x[k]!) r) (m := x.length) (c := cx) ⟨_, _, _, _, _, _, _, _, _, _, _, _, rfl, rfl, (H.get 1 rfl).1, (H.get 2 rfl).1, (H.get 3 rfl).1, (H.get 4 rfl).1, (H.get 5 rfl).1, (H.get 6 rfl).1⟩ (((((((H.get 1 rfl).2 rfl).app ((H.get 2 rfl).2 rfl)).app ((H.get 3 rfl).2 rfl)).app ((H.get 4 rfl).2 rfl)).app ((H.get 5 rfl).2 rfl)).app ((H.get 6 rfl).2 rfl)) (Vd (Vd (Vd (Vd (Vd (H.ltOwn 1 rfl) (H.ltOwn 2 rfl)) (H.ltOwn 3 rfl)) (H.ltOwn 4 rfl)) (H.ltOwn 5 rfl)) (H.ltOwn 6 rfl)) (jf x kk (k + 1)) (by subst i1; exact markTo_step _ _ (by omega)) (jy _ _ (by omega)) (by rw [jy _ _ (by omega)]; exact nhx)
  refine xH (m' := x.length - (k + 1)) (by omega) ⟨_, k + 1, ((r + 1) + 1 + (cnt ((x[k]!).qR) : Nat) + (cnt ((x[k]!).xg) : Nat) + (cnt ((x[k]!).xk) : Nat) + (cnt ((x[k]!).xw) : Nat) + (cnt ((x[k]!).zo) : Nat) + (cnt ((x[k]!).qE) : Nat)) + 1, W43, (by exact qj (qj (qj (qj (rfl) rfl) rfl) rfl) rfl), ?_, ?_, ?_, rfl, H⟩
  · omega
  · rw [Qd]; have e := yE (x[k]!); omega
  · exact C
 replace h3 := of_decide_eq_false h3
 refine ve (t_x (t_x (b_x (t_n (qo (qB ?_))))))
 refine sps [.int .i64 r, .int .i64 r] ?_
 refine qA (t_n (xE ?_))
 obtain rfl : k = x.length := by omega
 refine ret1 (.int .i64 r) rfl rfl ⟨_, rfl, ⟨?_, H.get 0 rfl⟩, C.trans (Chg.ofExt H.base)⟩
 first | rfl | (refine congrArg (Value.int .i64) ?_; rw [cnt_list]; omega)

theorem markSystem_ok (w : World) (x : qV) (kk : Int) (zO : Option Addr) (zN : Nat) (yt : List Nat) (jo : Option Addr) (jm : Nat) (Q3 : List Nat) (QA : qW.rep w yt [.slice zO x.qf.length zN] x.qf) (Va : qW.rep w Q3 [.slice jo x.qg.length jm] x.qg) (nd : (yt ++ Q3).Nodup) (fr : vJ w (yt ++ Q3)) (p0 : 0 ≤ kk) (p1 : kk + (cnt x.qf : Nat) + (cnt x.qg : Nat) ≤ 4611686018427387904) : Calls Try.prog 18 #[.agg #[.int .i64 x.qI, .slice zO x.qf.length zN, .slice jo x.qg.length jm], .int .i64 kk] w (RetM (fun v w' => v = .int .i64 (kk + (cnt x.qf : Nat) + (cnt x.qg : Nat)) ∧ (isF true yt (.slice zO x.qf.length zN) (mrk x.qf kk)).φ w' ∧ (isF true Q3 (.slice jo x.qg.length jm) (mrk x.qg (kk + (cnt x.qf : Nat)))).φ w') (yt ++ Q3) w) := by
 refine enter (n := 14) Try.func18 rfl Try.ntmps18 (Nat.le_of_ble_eq_true rfl) ?_
 have H := St.start w
 replace H := H.add (isF true Q3 (.slice jo x.qg.length jm) x.qg) ⟨Va, fun _ => fr.sub (by intro z hz; simp [hz])⟩ (start_lt Va)
 replace H := H.add (isF true yt (.slice zO x.qf.length zN) x.qf) ⟨QA, fun _ => fr.sub (by intro z hz; simp [hz])⟩ (start_lt QA)
 have nhxParents := qN QA
 have nhxRules := qN Va
 clear QA Va
 have C : Chg (yt ++ Q3) w w := Chg.refl _ _
 have N : ([yt, Q3] : List (List Nat)).flatten.Nodup := by simpa using nd
 refine qo (qB ?_)
 refine sw (o_box H (.agg #[.int .i64 x.qI, .slice zO x.qf.length zN, .slice jo x.qg.length jm]) rfl fun b1 w2 H => ?_)
 replace H : St _ _ [.box b1 [.int .i64 x.qI, .slice zO x.qf.length zN, .slice jo x.qg.length jm] 30] _ := H
 refine sp (.int .i64 0) ?_
 refine qA (t_n (qo (qB ?_)))
 refine sw (qO b1 (0) 1 Try.underlying30 rfl rfl Try.sizeOf22 rfl ?_)
 refine sw (qF (.slice zO x.qf.length zN) Try.isAgg22 rfl (H.cell 0 rfl rfl) ?_)
 refine sp (.int .i64 kk) ?_
 refine sw (X9 #[.slice zO x.qf.length zN, .int .i64 kk] rfl rfl Try.call47 (QG w2 x.qf kk zO zN yt (H.get 0 rfl).1 (QN N 0 rfl) ((H.get 0 rfl).2 rfl) (by omega) (by omega)) ?_)
 rintro _ w3 ⟨rfl, m7⟩ x5
 obtain ⟨W4, C6, H⟩ := H.chgAt N 0 rfl (isF true yt (.slice zO x.qf.length zN) (mrk x.qf kk)) rfl x5 m7
 replace C := C.trans (C6.mono (by intro z hz; have hz : z ∈ yt := hz; simp [hz]))
 replace H : St _ _ _ [isF true yt (.slice zO x.qf.length zN) (mrk x.qf kk), isF true Q3 (.slice jo x.qg.length jm) x.qg] := H
 refine sp (.int .i64 (kk + (cnt x.qf : Nat))) ?_
 refine qA (t_n (qo (qB ?_)))
 refine sw (qO b1 (0) 2 Try.underlying30 rfl rfl Try.sizeOf28 rfl ?_)
 refine sw (qF (.slice jo x.qg.length jm) Try.isAgg28 rfl (H.cell 0 rfl rfl) ?_)
 refine sp (.int .i64 (kk + (cnt x.qf : Nat))) ?_
 refine sw (X9 #[.slice jo x.qg.length jm, .int .i64 (kk + (cnt x.qf : Nat))] rfl rfl Try.call48 (markRuleS_ok w3 x.qg (kk + (cnt x.qf : Nat)) jo jm Q3 (H.get 1 rfl).1 (QN N 1 rfl) ((H.get 1 rfl).2 rfl) (by omega) (by omega)) ?_)
 rintro _ w8 ⟨rfl, m12⟩ x10
 obtain ⟨W9, C11, H⟩ := H.chgAt N 1 rfl (isF true Q3 (.slice jo x.qg.length jm) (mrk x.qg (kk + (cnt x.qf : Nat)))) rfl x10 m12
 replace C := C.trans (C11.mono (by intro z hz; have hz : z ∈ Q3 := hz; simp [hz]))
 replace H : St _ _ _ [isF true yt (.slice zO x.qf.length zN) (mrk x.qf kk), isF true Q3 (.slice jo x.qg.length jm) (mrk x.qg (kk + (cnt x.qf : Nat)))] := H
 refine sp (.int .i64 (kk + (cnt x.qf : Nat) + (cnt x.qg : Nat))) ?_
 refine qA (t_n (qo (qB ?_)))
 refine sps [.int .i64 (kk + (cnt x.qf : Nat) + (cnt x.qg : Nat)), .int .i64 (kk + (cnt x.qf : Nat) + (cnt x.qg : Nat))] ?_
 refine qA (t_n (xE ?_))
 simp_all
 refine ret1 (.int .i64 (kk + (cnt x.qf : Nat) + (cnt x.qg : Nat))) rfl rfl ⟨_, rfl, ⟨?_, H.get 0 rfl, H.get 1 rfl⟩, C.trans (Chg.ofExt H.base)⟩
 first | rfl | (refine congrArg (Value.int .i64) ?_; rw [cnt_list]; omega)

theorem markState_ok (w : World) (x : qQ) (kk : Int) (vN : Option Addr) (vM : Nat) (Qr : List Nat) (jI : Option Addr) (jH : Nat) (Xo : List Nat) (zM : Option Addr) (zL : Nat) (yw : List Nat) (Xk : qW.rep w Qr [.slice vN x.qh.length vM] x.qh) (Vy : qW.rep w Xo [.slice jI x.qp.length jH] x.qp) (Qs : qW.rep w yw [.slice zM x.ql.length zL] x.ql) (nd : (Qr ++ Xo ++ yw).Nodup) (fr : vJ w (Qr ++ Xo ++ yw)) (p0 : 0 ≤ kk) (p1 : kk + (cnt x.qh : Nat) + (cnt x.qp : Nat) + (cnt x.ql : Nat) ≤ 4611686018427387904) : Calls Try.prog 19 #[.agg #[.slice vN x.qh.length vM, .slice jI x.qp.length jH, .slice zM x.ql.length zL], .int .i64 kk] w (RetM (fun v w' => v = .int .i64 (kk + (cnt x.qh : Nat) + (cnt x.qp : Nat) + (cnt x.ql : Nat)) ∧ (isF true Qr (.slice vN x.qh.length vM) (mrk x.qh kk)).φ w' ∧ (isF true Xo (.slice jI x.qp.length jH) (mrk x.qp (kk + (cnt x.qh : Nat)))).φ w' ∧ (isF true yw (.slice zM x.ql.length zL) (mrk x.ql (kk + (cnt x.qh : Nat) + (cnt x.qp : Nat)))).φ w') (Qr ++ Xo ++ yw) w) := by
 refine enter (n := 18) Try.func19 rfl Try.ntmps19 (Nat.le_of_ble_eq_true rfl) ?_
 have H := St.start w
 replace H := H.add (isF true yw (.slice zM x.ql.length zL) x.ql) ⟨Qs, fun _ => fr.sub (by intro z hz; simp [hz])⟩ (start_lt Qs)
 replace H := H.add (isF true Xo (.slice jI x.qp.length jH) x.qp) ⟨Vy, fun _ => fr.sub (by intro z hz; simp [hz])⟩ (start_lt Vy)
 replace H := H.add (isF true Qr (.slice vN x.qh.length vM) x.qh) ⟨Xk, fun _ => fr.sub (by intro z hz; simp [hz])⟩ (start_lt Xk)
 have nhxAlive := qN Xk
 have nhxBags := qN Vy
 have nhxAround := qN Qs
 clear Xk Vy Qs
 have C : Chg (Qr ++ Xo ++ yw) w w := Chg.refl _ _
 have N : ([Qr, Xo, yw] : List (List Nat)).flatten.Nodup := by simpa using nd
 refine qo (qB ?_)
 refine sw (o_box H (.agg #[.slice vN x.qh.length vM, .slice jI x.qp.length jH, .slice zM x.ql.length zL]) rfl fun b1 w2 H => ?_)
 replace H : St _ _ [.box b1 [.slice vN x.qh.length vM, .slice jI x.qp.length jH, .slice zM x.ql.length zL] 41] _ := H
 refine sp (.int .i64 0) ?_
 refine qA (t_n (qo (qB ?_)))
 refine sw (qO b1 (0) 0 Try.underlying41 rfl rfl Try.sizeOf36 rfl ?_)
 refine sw (qF (.slice vN x.qh.length vM) Try.isAgg36 rfl (H.cell 0 rfl rfl) ?_)
 refine sp (.int .i64 kk) ?_
 refine sw (X9 #[.slice vN x.qh.length vM, .int .i64 kk] rfl rfl Try.call49 (markBoolS_ok w2 x.qh kk vN vM Qr (H.get 0 rfl).1 (QN N 0 rfl) ((H.get 0 rfl).2 rfl) (by omega) (by omega)) ?_)
 rintro _ w3 ⟨rfl, m7⟩ x5
 obtain ⟨W4, C6, H⟩ := H.chgAt N 0 rfl (isF true Qr (.slice vN x.qh.length vM) (mrk x.qh kk)) rfl x5 m7
 replace C := C.trans (C6.mono (by intro z hz; have hz : z ∈ Qr := hz; simp [hz]))
 replace H : St _ _ _ [isF true Qr (.slice vN x.qh.length vM) (mrk x.qh kk), isF true Xo (.slice jI x.qp.length jH) x.qp, isF true yw (.slice zM x.ql.length zL) x.ql] := H
 refine sp (.int .i64 (kk + (cnt x.qh : Nat))) ?_
 refine qA (t_n (qo (qB ?_)))
 refine sw (qO b1 (0) 1 Try.underlying41 rfl rfl Try.sizeOf37 rfl ?_)
 refine sw (qF (.slice jI x.qp.length jH) Try.isAgg37 rfl (H.cell 0 rfl rfl) ?_)
 refine sp (.int .i64 (kk + (cnt x.qh : Nat))) ?_
 refine sw (X9 #[.slice jI x.qp.length jH, .int .i64 (kk + (cnt x.qh : Nat))] rfl rfl Try.call50 (markInt64SS_ok w3 x.qp (kk + (cnt x.qh : Nat)) jI jH Xo (H.get 1 rfl).1 (QN N 1 rfl) ((H.get 1 rfl).2 rfl) (by omega) (by omega)) ?_)
 rintro _ w8 ⟨rfl, m12⟩ x10
 obtain ⟨W9, C11, H⟩ := H.chgAt N 1 rfl (isF true Xo (.slice jI x.qp.length jH) (mrk x.qp (kk + (cnt x.qh : Nat)))) rfl x10 m12
 replace C := C.trans (C11.mono (by intro z hz; have hz : z ∈ Xo := hz; simp [hz]))
 replace H : St _ _ _ [isF true Qr (.slice vN x.qh.length vM) (mrk x.qh kk), isF true Xo (.slice jI x.qp.length jH) (mrk x.qp (kk + (cnt x.qh : Nat))), isF true yw (.slice zM x.ql.length zL) x.ql] := H
 refine sp (.int .i64 (kk + (cnt x.qh : Nat) + (cnt x.qp : Nat))) ?_
 refine qA (t_n (qo (qB ?_)))
 refine sw (qO b1 (0) 2 Try.underlying41 rfl rfl Try.sizeOf22 rfl ?_)
 refine sw (qF (.slice zM x.ql.length zL) Try.isAgg22 rfl (H.cell 0 rfl rfl) ?_)
 refine sp (.int .i64 (kk + (cnt x.qh : Nat) + (cnt x.qp : Nat))) ?_
 refine sw (X9 #[.slice zM x.ql.length zL, .int .i64 (kk + (cnt x.qh : Nat) + (cnt x.qp : Nat))] rfl rfl Try.call47 (QG w8 x.ql (kk + (cnt x.qh : Nat) + (cnt x.qp : Nat)) zM zL yw (H.get 2 rfl).1 (QN N 2 rfl) ((H.get 2 rfl).2 rfl) (by omega) (by omega)) ?_)
 rintro _ w13 ⟨rfl, m17⟩ x15
 obtain ⟨W14, C16, H⟩ := H.chgAt N 2 rfl (isF true yw (.slice zM x.ql.length zL) (mrk x.ql (kk + (cnt x.qh : Nat) + (cnt x.qp : Nat)))) rfl x15 m17
 replace C := C.trans (C16.mono (by intro z hz; have hz : z ∈ yw := hz; simp [hz]))
 replace H : St _ _ _ [isF true Qr (.slice vN x.qh.length vM) (mrk x.qh kk), isF true Xo (.slice jI x.qp.length jH) (mrk x.qp (kk + (cnt x.qh : Nat))), isF true yw (.slice zM x.ql.length zL) (mrk x.ql (kk + (cnt x.qh : Nat) + (cnt x.qp : Nat)))] := H
 refine sp (.int .i64 (kk + (cnt x.qh : Nat) + (cnt x.qp : Nat) + (cnt x.ql : Nat))) ?_
 refine qA (t_n (qo (qB ?_)))
 refine sps [.int .i64 (kk + (cnt x.qh : Nat) + (cnt x.qp : Nat) + (cnt x.ql : Nat)), .int .i64 (kk + (cnt x.qh : Nat) + (cnt x.qp : Nat) + (cnt x.ql : Nat))] ?_
 refine qA (t_n (xE ?_))
 simp_all
 refine ret1 (.int .i64 (kk + (cnt x.qh : Nat) + (cnt x.qp : Nat) + (cnt x.ql : Nat))) rfl rfl ⟨_, rfl, ⟨?_, H.get 0 rfl, H.get 1 rfl, H.get 2 rfl⟩, C.trans (Chg.ofExt H.base)⟩
 first | rfl | (refine congrArg (Value.int .i64) ?_; rw [cnt_list]; omega)

theorem heldInt64S_ok (w : World) (x : List Int) (kk : Int) (ax : Option Addr) (cx : Nat) (Fx : List Nat) (hx : qW.rep w Fx [.slice ax x.length cx] x) (m : mkd x kk) (p0 : 0 ≤ kk) (p1 : kk + (cnt x : Nat) ≤ 4611686018427387904) : Calls Try.prog 53 #[.slice ax x.length cx, .int .i64 kk] w (Ret (fun v w' => v = .int .i64 (kk + (cnt x : Nat))) w) := by
 refine enter (n := 21) Try.func53 rfl Try.ntmps53 (Nat.le_of_ble_eq_true rfl) ?_
 have H := (St.start w).arg hx
 have nhx := qN hx
 clear hx
 refine qo (qB ?_)
 refine sp (.int .i64 0) ?_
 refine qA (t_n (qo (qo (qB ?_))))
 refine sp (.int .i64 0) ?_
 refine qA (t_n (xC ?_))
 refine vw (fun m' ρ w1 => ∃ (junk : Env) (k : Nat) (r : Int), ρ = upd (upd (upd junk 0 (.slice ax x.length cx)) 1 (.int .i64 r)) 5 (.int .i64 k) ∧ (k ≤ x.length) ∧ (r = kk + (Vq x k : Nat)) ∧ m' = x.length - k ∧ St w w1 [] [isF false Fx (.slice ax x.length cx) x]) (x.length - 0) ⟨_, 0, kk, (by exact qj (qj (qj (rfl) rfl) rfl) rfl), (by omega), (by exact (Int.add_zero _).symm), rfl, H⟩ ?_
 clear H
 rintro m' ρ w2 ⟨junk, k, r, rfl, i0, i1, rfl, H⟩
 have hc := fun h => cnt_get (l := x) (k := k) h
 refine qo (qo (qB ?_))
 refine sps [.int .i64 k, .slice ax x.length cx] ?_
 refine sw (vI Try.underlying22 ax x.length cx rfl ?_)
 refine sp (.bool (decide ((k : Int) < x.length))) ?_
 refine qA (t_n ?_)
 refine qX (decide ((k : Int) < x.length)) rfl (fun h3 => ?_) (fun h3 => ?_)
 ·skip
  replace h3 := of_decide_eq_true h3
  have m0 := m k (by omega)
  rw [← i1] at m0
  replace m0 : x[k]! = r := m0
  refine xy (t_n (qo (xC (qo (qo (qB ?_))))))
  refine sps [.slice ax x.length cx, .int .i64 k] ?_
  obtain ⟨b4, o5, rfl⟩ := H.addr 0 rfl (by omega)
  refine sw (xO k Try.underlying22 ti2 rfl rfl (by omega) (by omega) ?_)
  refine sw (qF (.int .i64 (x[k]!)) Try.isAgg2 rfl (H.vX 0 rfl k (by omega) (by omega)) ?_)
  refine sps [.int .i64 r, .bool ((x[k]! : Int) != r)] ?_
  refine qA (t_n ?_)
  refine qX ((x[k]! : Int) != r) rfl (fun h6 => ?_) (fun h6 => ?_)
  ·skip
   replace h6 := bne_iff_ne.1 h6
   refine qo (qB ?_)
   refine sp (.int .i64 (-1)) ?_
   refine qA (t_n (xE (t_r (b_r (t_r (t_r (b_r (t_r ?_))))))))
   refine ret1 (.int .i64 (-1)) rfl rfl ⟨_, rfl, ?_, H.base⟩
   exfalso; first | omega | (exact absurd ‹_› ‹¬ _›) | simp_all
  replace h6 := xP h6
  refine xy (t_n (qB ?_))
  refine sp (.int .i64 r) ?_
  refine sw (vz r 1 rfl rfl (by (have := hc (by omega); have e : cnt (x[k]!) = 1 := rfl; omega)) ?_)
  refine sp (.int .i64 (r + 1)) ?_
  refine qA (b_n (t_n (qB ?_)))
  refine sp (.int .i64 k) ?_
  refine sw (vz k 1 rfl rfl (by (have := hc (by omega); have e : cnt (x[k]!) = 1 := rfl; omega)) ?_)
  refine sp (.int .i64 (k + 1)) ?_
  refine qA ?_
  refine xH (m' := x.length - (k + 1)) (by omega) ⟨_, k + 1, r + 1, (by exact qj (qj (qj (rfl) rfl) rfl) rfl), ?_, ?_, rfl, H⟩
  · omega
  · rw [Qd]; have e : cnt (x[k]!) = 1 := rfl; omega
 replace h3 := of_decide_eq_false h3
 refine ve (t_x (t_x (b_x (t_n (qo (qB ?_))))))
 refine sps [.int .i64 r, .int .i64 r] ?_
 refine qA (t_n (xE ?_))
 refine ret1 (.int .i64 r) rfl rfl ⟨_, rfl, ?_, H.base⟩
 first | rfl | (refine congrArg (Value.int .i64) ?_; obtain rfl : k = x.length := (by omega); exact i1)

theorem heldBoolS_ok (w : World) (x : List Bool) (kk : Int) (ax : Option Addr) (cx : Nat) (Fx : List Nat) (hx : qW.rep w Fx [.slice ax x.length cx] x) (m : mkd x kk) (p0 : 0 ≤ kk) (p1 : kk + (cnt x : Nat) ≤ 4611686018427387904) : Calls Try.prog 51 #[.slice ax x.length cx, .int .i64 kk] w (Ret (fun v w' => v = .int .i64 (kk + (cnt x : Nat))) w) := by
 refine enter (n := 23) Try.func51 rfl Try.ntmps51 (Nat.le_of_ble_eq_true rfl) ?_
 have H := (St.start w).arg hx
 have nhx := qN hx
 clear hx
 refine qo (qB ?_)
 refine sp (.int .i64 0) ?_
 refine qA (t_n (qo (qo (qB ?_))))
 refine sp (.int .i64 0) ?_
 refine qA (t_n (xC ?_))
 refine vw (fun m' ρ w1 => ∃ (junk : Env) (k : Nat) (r : Int), ρ = upd (upd (upd junk 0 (.slice ax x.length cx)) 1 (.int .i64 r)) 5 (.int .i64 k) ∧ (k ≤ x.length) ∧ (r = kk + (Vq x k : Nat)) ∧ m' = x.length - k ∧ St w w1 [] [isF false Fx (.slice ax x.length cx) x]) (x.length - 0) ⟨_, 0, kk, (by exact qj (qj (qj (rfl) rfl) rfl) rfl), (by omega), (by exact (Int.add_zero _).symm), rfl, H⟩ ?_
 clear H
 rintro m' ρ w2 ⟨junk, k, r, rfl, i0, i1, rfl, H⟩
 have hc := fun h => cnt_get (l := x) (k := k) h
 refine qo (qo (qB ?_))
 refine sps [.int .i64 k, .slice ax x.length cx] ?_
 refine sw (vI Try.underlying36 ax x.length cx rfl ?_)
 refine sp (.bool (decide ((k : Int) < x.length))) ?_
 refine qA (t_n ?_)
 refine qX (decide ((k : Int) < x.length)) rfl (fun h3 => ?_) (fun h3 => ?_)
 ·skip
  replace h3 := of_decide_eq_true h3
  have m0 := m k (by omega)
  rw [← i1] at m0
  replace m0 : x[k]! = (r % 3 == 0) := m0
  refine xy (t_n (qo (xC (qo (qo (qB ?_))))))
  refine sps [.slice ax x.length cx, .int .i64 k] ?_
  obtain ⟨b4, o5, rfl⟩ := H.addr 0 rfl (by omega)
  refine sw (xO k Try.underlying36 ti4 rfl rfl (by omega) (by omega) ?_)
  refine sw (qF (.bool (x[k]!)) Try.isAgg4 rfl (H.Xd 0 rfl k (by omega) (by omega)) ?_)
  refine sp (.int .i64 r) ?_
  refine sw (o_rem r 3 rfl rfl (by (have := hc (by omega); have e : cnt (x[k]!) = 1 := rfl; omega)) (by omega) (by (have := hc (by omega); have e : cnt (x[k]!) = 1 := rfl; omega)) ?_)
  refine sp (.bool ((r % 3 : Int) == 0)) ?_
  refine sw (o_neB Try.underlying4 (x[k]!) ((r % 3 : Int) == 0) rfl rfl ?_)
  refine qA (t_n ?_)
  refine qX ((x[k]!) != ((r % 3 : Int) == 0)) rfl (fun h6 => ?_) (fun h6 => ?_)
  ·skip
   replace h6 := bne_iff_ne.1 h6
   refine qo (qB ?_)
   refine sp (.int .i64 (-1)) ?_
   refine qA (t_n (xE (t_r (b_r (t_r (t_r (b_r (t_r ?_))))))))
   refine ret1 (.int .i64 (-1)) rfl rfl ⟨_, rfl, ?_, H.base⟩
   exfalso; first | omega | (exact absurd ‹_› ‹¬ _›) | simp_all
  replace h6 := xP h6
  refine xy (t_n (qB ?_))
  refine sp (.int .i64 r) ?_
  refine sw (vz r 1 rfl rfl (by (have := hc (by omega); have e : cnt (x[k]!) = 1 := rfl; omega)) ?_)
  refine sp (.int .i64 (r + 1)) ?_
  refine qA (b_n (t_n (qB ?_)))
  refine sp (.int .i64 k) ?_
  refine sw (vz k 1 rfl rfl (by (have := hc (by omega); have e : cnt (x[k]!) = 1 := rfl; omega)) ?_)
  refine sp (.int .i64 (k + 1)) ?_
  refine qA ?_
  refine xH (m' := x.length - (k + 1)) (by omega) ⟨_, k + 1, r + 1, (by exact qj (qj (qj (rfl) rfl) rfl) rfl), ?_, ?_, rfl, H⟩
  · omega
  · rw [Qd]; have e : cnt (x[k]!) = 1 := rfl; omega
 replace h3 := of_decide_eq_false h3
 refine ve (t_x (t_x (b_x (t_n (qo (qB ?_))))))
 refine sps [.int .i64 r, .int .i64 r] ?_
 refine qA (t_n (xE ?_))
 refine ret1 (.int .i64 r) rfl rfl ⟨_, rfl, ?_, H.base⟩
 first | rfl | (refine congrArg (Value.int .i64) ?_; obtain rfl : k = x.length := (by omega); exact i1)

theorem heldInt64SS_ok (w : World) (x : List (List Int)) (kk : Int) (ax : Option Addr) (cx : Nat) (Fx : List Nat) (hx : qW.rep w Fx [.slice ax x.length cx] x) (m : mkd x kk) (p0 : 0 ≤ kk) (p1 : kk + (cnt x : Nat) ≤ 4611686018427387904) : Calls Try.prog 52 #[.slice ax x.length cx, .int .i64 kk] w (Ret (fun v w' => v = .int .i64 (kk + (cnt x : Nat))) w) := by
 refine enter (n := 21) Try.func52 rfl Try.ntmps52 (Nat.le_of_ble_eq_true rfl) ?_
 have H := (St.start w).arg hx
 have nhx := qN hx
 clear hx
 refine qo (qB ?_)
 refine sp (.int .i64 0) ?_
 refine qA (t_n (qo (qo (qB ?_))))
 refine sp (.int .i64 0) ?_
 refine qA (t_n (xC ?_))
 refine vw (fun m' ρ w1 => ∃ (junk : Env) (k : Nat) (r : Int), ρ = upd (upd (upd junk 0 (.slice ax x.length cx)) 1 (.int .i64 r)) 5 (.int .i64 k) ∧ (k ≤ x.length) ∧ (r = kk + (Vq x k : Nat)) ∧ m' = x.length - k ∧ St w w1 [] [isF false Fx (.slice ax x.length cx) x]) (x.length - 0) ⟨_, 0, kk, (by exact qj (qj (qj (rfl) rfl) rfl) rfl), (by omega), (by exact (Int.add_zero _).symm), rfl, H⟩ ?_
 clear H
 rintro m' ρ w2 ⟨junk, k, r, rfl, i0, i1, rfl, H⟩
 have hc := fun h => cnt_get (l := x) (k := k) h
 refine qo (qo (qB ?_))
 refine sps [.int .i64 k, .slice ax x.length cx] ?_
 refine sw (vI Try.underlying37 ax x.length cx rfl ?_)
 refine sp (.bool (decide ((k : Int) < x.length))) ?_
 refine qA (t_n ?_)
 refine qX (decide ((k : Int) < x.length)) rfl (fun h3 => ?_) (fun h3 => ?_)
 ·skip
  replace h3 := of_decide_eq_true h3
  have m0 := m k (by omega)
  rw [← i1] at m0
  refine xy (t_n (qo (xC (qo (qB ?_)))))
  refine sps [.slice ax x.length cx, .int .i64 k] ?_
  obtain ⟨b4, o5, rfl⟩ := H.addr 0 rfl (by omega)
  obtain ⟨ae6, ce6, Fe6, H⟩ := H.yY 0 rfl k k (by omega) (by omega) (by omega)
  refine sw (xO k Try.underlying37 ti22 rfl rfl (by omega) (by omega) ?_)
  refine sw (qF (.slice ae6 ((x[k]!).length) ce6) Try.isAgg22 rfl (H.zh 1 rfl 0 rfl) ?_)
  refine sp (.int .i64 r) ?_
  refine sw (xf #[.slice ae6 ((x[k]!).length) ce6, .int .i64 r] rfl rfl Try.call53 (heldInt64S_ok w2 (x[k]!) r ae6 ce6 Fe6 (H.get 0 rfl).1 (by assumption) (by (have := hc (by omega); skip; omega)) (by (have := hc (by omega); skip; omega))) ?_)
  rintro _ w7 rfl x8
  replace H := H.ext x8
  refine sp (.int .i64 (r + (cnt (x[k]!) : Nat))) ?_
  refine qA (t_n (qo (qB ?_)))
  refine sps [.int .i64 (r + (cnt (x[k]!) : Nat)), .bool (decide ((r + (cnt (x[k]!) : Nat) : Int) < 0))] ?_
  refine qA (t_n ?_)
  refine qX (decide ((r + (cnt (x[k]!) : Nat) : Int) < 0)) rfl (fun h9 => ?_) (fun h9 => ?_)
  ·skip
   replace h9 := of_decide_eq_true h9
   refine qo (qB ?_)
   refine sp (.int .i64 (-1)) ?_
   refine qA (t_n (xE (b_r (t_r (t_r (b_r (t_r ?_)))))))
   refine ret1 (.int .i64 (-1)) rfl rfl ⟨_, rfl, ?_, H.base⟩
   exfalso; first | omega | (exact absurd ‹_› ‹¬ _›) | simp_all
  replace h9 := of_decide_eq_false h9
  refine xy (b_n (t_n (qB ?_)))
  refine sp (.int .i64 k) ?_
  refine sw (vz k 1 rfl rfl (by (have := hc (by omega); skip; omega)) ?_)
  refine sp (.int .i64 (k + 1)) ?_
  refine qA ?_
  refine xH (m' := x.length - (k + 1)) (by omega) ⟨_, k + 1, r + (cnt (x[k]!) : Nat), (by exact qj (qj (qj (rfl) rfl) rfl) rfl), ?_, ?_, rfl, H.sel _ (.refl _) _ (by simp)⟩
  · omega
  · rw [Qd]; skip; omega
 replace h3 := of_decide_eq_false h3
 refine ve (t_x (t_x (b_x (t_n (qo (qB ?_))))))
 refine sps [.int .i64 r, .int .i64 r] ?_
 refine qA (t_n (xE ?_))
 refine ret1 (.int .i64 r) rfl rfl ⟨_, rfl, ?_, H.base⟩
 first | rfl | (refine congrArg (Value.int .i64) ?_; obtain rfl : k = x.length := (by omega); exact i1)

theorem heldState_ok (w : World) (x : qQ) (kk : Int) (vN : Option Addr) (vM : Nat) (Qr : List Nat) (jI : Option Addr) (jH : Nat) (Xo : List Nat) (zM : Option Addr) (zL : Nat) (yw : List Nat) (Xk : qW.rep w Qr [.slice vN x.qh.length vM] x.qh) (Vy : qW.rep w Xo [.slice jI x.qp.length jH] x.qp) (Qs : qW.rep w yw [.slice zM x.ql.length zL] x.ql) (m0 : mkd x.qh (kk)) (m1 : mkd x.qp (kk + (cnt x.qh : Nat))) (m2 : mkd x.ql (kk + (cnt x.qh : Nat) + (cnt x.qp : Nat))) (p0 : 0 ≤ kk) (p1 : kk + (cnt x.qh : Nat) + (cnt x.qp : Nat) + (cnt x.ql : Nat) ≤ 4611686018427387904) : Calls Try.prog 20 #[.agg #[.slice vN x.qh.length vM, .slice jI x.qp.length jH, .slice zM x.ql.length zL], .int .i64 kk] w (Ret (fun v w' => v = .int .i64 (kk + (cnt x.qh : Nat) + (cnt x.qp : Nat) + (cnt x.ql : Nat))) w) := by
 refine enter (n := 24) Try.func20 rfl Try.ntmps20 (Nat.le_of_ble_eq_true rfl) ?_
 have H := (((St.start w).arg Qs).arg Vy).arg Xk
 have nhxAlive := qN Xk
 have nhxBags := qN Vy
 have nhxAround := qN Qs
 clear Xk Vy Qs
 refine qo (qB ?_)
 refine sw (o_box H (.agg #[.slice vN x.qh.length vM, .slice jI x.qp.length jH, .slice zM x.ql.length zL]) rfl fun b1 w2 H => ?_)
 replace H : St _ _ [.box b1 [.slice vN x.qh.length vM, .slice jI x.qp.length jH, .slice zM x.ql.length zL] 41] _ := H
 refine sp (.int .i64 0) ?_
 refine qA (t_n (qo (qB ?_)))
 refine sw (qO b1 (0) 0 Try.underlying41 rfl rfl Try.sizeOf36 rfl ?_)
 refine sw (qF (.slice vN x.qh.length vM) Try.isAgg36 rfl (H.cell 0 rfl rfl) ?_)
 refine sp (.int .i64 kk) ?_
 refine sw (xf #[.slice vN x.qh.length vM, .int .i64 kk] rfl rfl Try.call51 (heldBoolS_ok w2 x.qh kk vN vM Qr (H.get 0 rfl).1 (by assumption) (by omega) (by omega)) ?_)
 rintro _ w3 rfl x4
 replace H := H.ext x4
 refine sp (.int .i64 (kk + (cnt x.qh : Nat))) ?_
 refine qA (t_n (qo (qo (qB ?_))))
 refine sps [.int .i64 (kk + (cnt x.qh : Nat)), .bool (decide ((kk + (cnt x.qh : Nat) : Int) < 0))] ?_
 refine qA (t_n ?_)
 refine qX (decide ((kk + (cnt x.qh : Nat) : Int) < 0)) rfl (fun h5 => ?_) (fun h5 => ?_)
 ·skip
  replace h5 := of_decide_eq_true h5
  refine qo (qB ?_)
  refine sp (.int .i64 (-1)) ?_
  refine qA (t_n (xE (t_r ?_)))
  refine ret1 (.int .i64 (-1)) rfl rfl ⟨_, rfl, ?_, H.base⟩
  exfalso; omega
 replace h5 := of_decide_eq_false h5
 refine xy (t_n (qo (qB ?_)))
 refine sw (qO b1 (0) 1 Try.underlying41 rfl rfl Try.sizeOf37 rfl ?_)
 refine sw (qF (.slice jI x.qp.length jH) Try.isAgg37 rfl (H.cell 0 rfl rfl) ?_)
 refine sp (.int .i64 (kk + (cnt x.qh : Nat))) ?_
 refine sw (xf #[.slice jI x.qp.length jH, .int .i64 (kk + (cnt x.qh : Nat))] rfl rfl Try.call52 (heldInt64SS_ok w3 x.qp (kk + (cnt x.qh : Nat)) jI jH Xo (H.get 1 rfl).1 (by assumption) (by omega) (by omega)) ?_)
 rintro _ w6 rfl x7
 replace H := H.ext x7
 refine sp (.int .i64 ((kk + (cnt x.qh : Nat)) + (cnt x.qp : Nat))) ?_
 refine qA (t_n (qo (qo (qB ?_))))
 refine sps [.int .i64 ((kk + (cnt x.qh : Nat)) + (cnt x.qp : Nat)), .bool (decide (((kk + (cnt x.qh : Nat)) + (cnt x.qp : Nat) : Int) < 0))] ?_
 refine qA (t_n ?_)
 refine qX (decide (((kk + (cnt x.qh : Nat)) + (cnt x.qp : Nat) : Int) < 0)) rfl (fun h8 => ?_) (fun h8 => ?_)
 ·skip
  replace h8 := of_decide_eq_true h8
  refine qo (qB ?_)
  refine sp (.int .i64 (-1)) ?_
  refine qA (t_n (xE (t_r ?_)))
  refine ret1 (.int .i64 (-1)) rfl rfl ⟨_, rfl, ?_, H.base⟩
  exfalso; omega
 replace h8 := of_decide_eq_false h8
 refine xy (t_n (qo (qB ?_)))
 refine sw (qO b1 (0) 2 Try.underlying41 rfl rfl Try.sizeOf22 rfl ?_)
 refine sw (qF (.slice zM x.ql.length zL) Try.isAgg22 rfl (H.cell 0 rfl rfl) ?_)
 refine sp (.int .i64 ((kk + (cnt x.qh : Nat)) + (cnt x.qp : Nat))) ?_
 refine sw (xf #[.slice zM x.ql.length zL, .int .i64 ((kk + (cnt x.qh : Nat)) + (cnt x.qp : Nat))] rfl rfl Try.call53 (heldInt64S_ok w6 x.ql ((kk + (cnt x.qh : Nat)) + (cnt x.qp : Nat)) zM zL yw (H.get 2 rfl).1 (by assumption) (by omega) (by omega)) ?_)
 rintro _ w9 rfl x10
 replace H := H.ext x10
 refine sp (.int .i64 (((kk + (cnt x.qh : Nat)) + (cnt x.qp : Nat)) + (cnt x.ql : Nat))) ?_
 refine qA (t_n (qo (qo (qB ?_))))
 refine sps [.int .i64 (((kk + (cnt x.qh : Nat)) + (cnt x.qp : Nat)) + (cnt x.ql : Nat)), .bool (decide ((((kk + (cnt x.qh : Nat)) + (cnt x.qp : Nat)) + (cnt x.ql : Nat) : Int) < 0))] ?_
 refine qA (t_n ?_)
 refine qX (decide ((((kk + (cnt x.qh : Nat)) + (cnt x.qp : Nat)) + (cnt x.ql : Nat) : Int) < 0)) rfl (fun h11 => ?_) (fun h11 => ?_)
 ·skip
  replace h11 := of_decide_eq_true h11
  refine qo (qB ?_)
  refine sp (.int .i64 (-1)) ?_
  refine qA (t_n (xE (t_r ?_)))
  refine ret1 (.int .i64 (-1)) rfl rfl ⟨_, rfl, ?_, H.base⟩
  exfalso; omega
 replace h11 := of_decide_eq_false h11
 refine xy (t_n (qo (qB ?_)))
 refine sps [.int .i64 (((kk + (cnt x.qh : Nat)) + (cnt x.qp : Nat)) + (cnt x.ql : Nat)), .int .i64 (((kk + (cnt x.qh : Nat)) + (cnt x.qp : Nat)) + (cnt x.ql : Nat))] ?_
 refine qA (t_n (xE ?_))
 refine ret1 (.int .i64 (((kk + (cnt x.qh : Nat)) + (cnt x.qp : Nat)) + (cnt x.ql : Nat))) rfl rfl ⟨_, rfl, ?_, H.base⟩
 rfl

end Go.Proofs.Ytkmlihdacnfhdaa
