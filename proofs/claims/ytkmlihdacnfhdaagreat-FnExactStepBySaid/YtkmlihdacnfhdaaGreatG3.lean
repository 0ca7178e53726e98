/- Walks, printed by program (wip/tools/gv.py): what each function comes to, for all arguments. -/
import Derived.Test.YtkmlihdacnfhdaaGreatT1
namespace Go.Proofs.YtkmlihdacnfhdaaGreat
open Go.Proofs.YtkmlihdacnfhdaaGreat.Tot (tot)
open Go.Proofs.YtkmlihdacnfhdaaGreat.Mark (cnt mrk mkd mkd_mark cnt_mark)
open Go.RowKit
set_option linter.unusedVariables false
set_option linter.unusedSimpArgs false
set_option maxRecDepth 100000
set_option maxHeartbeats 4000000



theorem Qe (w : World) (x : List Int) (kk : Int) (ax : Option Addr) (cx : Nat) (Fx : List Nat) (hx : qQ.rep w Fx [.slice ax x.length cx] x) (nd : Fx.Nodup) (fr : vw w Fx) (p0 : 0 ≤ kk) (p1 : kk + (cnt x : Nat) ≤ 4611686018427387904) : Calls Tryz.prog 28 #[.slice ax x.length cx, .int .i64 kk] w (RetM (fun v w' => v = .int .i64 (kk + (cnt x : Nat)) ∧ (isF true Fx (.slice ax x.length cx) (mrk x kk)).φ w') Fx w) := by
 refine enter (n := 19) Tryz.func28 rfl Tryz.ntmps28 (Nat.le_of_ble_eq_true rfl) ?_
 have H := St.start w
 replace H := H.add (isF true Fx (.slice ax x.length cx) x) ⟨hx, fun _ => fr.sub (by intro z hz; simp [hz])⟩ (start_lt hx)
 have nhx := qM hx
 clear hx
 have C : Chg Fx w w := Chg.refl _ _
 have N : ([Fx] : List (List Nat)).flatten.Nodup := by simpa using nd
 refine qm (qA ?_)
 refine sp (.int .i64 0) ?_
 refine qx (t_n (qm (qm (qA ?_))))
 refine sp (.int .i64 0) ?_
 refine qx (t_n (xE ?_))
 replace H : St w w [] [isF true Fx (.slice ax x.length cx) (vZ x kk 0)] := by rw [markTo_zero]; exact H
 refine zX (fun m' ρ w1 => ∃ (junk : Env) (k : Nat) (r : Int) (W : World), ρ = upd (upd (upd (upd junk 0 (.slice ax x.length cx)) 1 (.int .i64 r)) 4 (.int .i64 0)) 5 (.int .i64 k) ∧ (k ≤ x.length) ∧ (r = kk + (XZ x k : Nat)) ∧ (Chg Fx w W) ∧ m' = x.length - k ∧ St W w1 [] [isF true Fx (.slice ax x.length cx) (vZ x kk k)]) (x.length - 0) ⟨_, 0, kk, w, (by exact qj (qj (qj (qj (rfl) rfl) rfl) rfl) rfl), (by omega), (by exact (Int.add_zero _).symm), (by exact C), rfl, H⟩ ?_
 clear H
 rintro m' ρ w2 ⟨junk, k, r, W, rfl, i0, i1, C, rfl, H⟩
 have hc := fun h => cnt_get (l := x) (k := k) h
 refine qm (qm (qA ?_))
 refine sps [.int .i64 k, .slice ax x.length cx] ?_
 refine sw (zZ Tryz.underlying22 ax x.length cx rfl ?_)
 refine sp (.bool (decide ((k : Int) < x.length))) ?_
 refine qx (t_n ?_)
 refine qW (decide ((k : Int) < x.length)) rfl (fun h3 => ?_) (fun h3 => ?_)
 ·skip
  replace h3 := of_decide_eq_true h3
  refine xu (t_n (qm (xE (qm (qA ?_)))))
  refine sps [.slice ax x.length cx, .int .i64 k, .int .i64 r] ?_
  obtain ⟨b4, o5, rfl⟩ := H.addr 0 rfl (by rw [jl _ _ (by omega)]; omega)
  obtain ⟨xs1, xs2, G1, G2, rfl, hx, H, N⟩ := H.open_Int nd k (by rw [jl _ _ (by omega)]; omega) (markTo_get _ _ (by omega))
  refine sw (xJ k Tryz.underlying22 ti2 rfl rfl (by omega) (by omega) ?_)
  refine sw (o_storeHole H N _ 0 hx (.int .i64 r) Tryz.sizeOf2 rfl rfl rfl (Nat.le_of_ble_eq_true rfl) fun w6 W7 C8 H => ?_)
  replace C := C.trans (C8.mono (hole_sub _ _ _ _))
  replace H : St _ _ _ [XQ b4 o5 xs1 [.int .i64 r] xs2 G1 G2 ((vZ x kk k).take k) ((vZ x kk k).drop (k + 1))] := H
  refine qx (t_n (qA ?_))
  refine sp (.int .i64 r) ?_
  refine sw (vg r 1 rfl rfl (by (have := hc (by omega); have e : cnt (x[k]!) = 1 := rfl; omega)) ?_)
  refine sp (.int .i64 (r + 1)) ?_
  refine qx (b_n (t_n (qA ?_)))
  refine sp (.int .i64 k) ?_
  refine sw (vg k 1 rfl rfl (by (have := hc (by omega); have e : cnt (x[k]!) = 1 := rfl; omega)) ?_)
  refine sp (.int .i64 (k + 1)) ?_
  refine qx ?_
  replace H := H.closeAt (y := mrk (x[k]!) r) (m := x.length) (c := cx) ⟨rfl, rfl⟩ (vw.nil _) (by intro z hz; simp at hz) (vZ x kk (k + 1)) (by subst i1; exact markTo_step _ _ (by omega)) (jl _ _ (by omega)) (by rw [jl _ _ (by omega)]; exact nhx)
  refine xH (m' := x.length - (k + 1)) (by omega) ⟨_, k + 1, r + 1, W7, (by exact qj (qj (qj (qj (rfl) rfl) rfl) rfl) rfl), ?_, ?_, ?_, rfl, H⟩
  · omega
  · rw [yR]; have e : cnt (x[k]!) = 1 := rfl; omega
  · exact C
 replace h3 := of_decide_eq_false h3
 refine zU (t_x (t_x (b_x (t_n (qm (qA ?_))))))
 refine sps [.int .i64 r, .int .i64 r] ?_
 refine qx (t_n (xB ?_))
 obtain rfl : k = x.length := by omega
 refine ret1 (.int .i64 r) rfl rfl ⟨_, rfl, ⟨?_, H.get 0 rfl⟩, C.trans (Chg.ofExt H.base)⟩
 first | rfl | (refine congrArg (Value.int .i64) ?_; rw [cnt_list]; omega)

theorem markBoolS_ok (w : World) (x : List Bool) (kk : Int) (ax : Option Addr) (cx : Nat) (Fx : List Nat) (hx : qQ.rep w Fx [.slice ax x.length cx] x) (nd : Fx.Nodup) (fr : vw w Fx) (p0 : 0 ≤ kk) (p1 : kk + (cnt x : Nat) ≤ 4611686018427387904) : Calls Tryz.prog 58 #[.slice ax x.length cx, .int .i64 kk] w (RetM (fun v w' => v = .int .i64 (kk + (cnt x : Nat)) ∧ (isF true Fx (.slice ax x.length cx) (mrk x kk)).φ w') Fx w) := by
 refine enter (n := 21) Tryz.func58 rfl Tryz.ntmps58 (Nat.le_of_ble_eq_true rfl) ?_
 have H := St.start w
 replace H := H.add (isF true Fx (.slice ax x.length cx) x) ⟨hx, fun _ => fr.sub (by intro z hz; simp [hz])⟩ (start_lt hx)
 have nhx := qM hx
 clear hx
 have C : Chg Fx w w := Chg.refl _ _
 have N : ([Fx] : List (List Nat)).flatten.Nodup := by simpa using nd
 refine qm (qA ?_)
 refine sp (.int .i64 0) ?_
 refine qx (t_n (qm (qm (qA ?_))))
 refine sp (.int .i64 0) ?_
 refine qx (t_n (xE ?_))
 replace H : St w w [] [isF true Fx (.slice ax x.length cx) (vZ x kk 0)] := by rw [markTo_zero]; exact H
 refine zX (fun m' ρ w1 => ∃ (junk : Env) (k : Nat) (r : Int) (W : World), ρ = upd (upd (upd (upd junk 0 (.slice ax x.length cx)) 1 (.int .i64 r)) 4 (.int .i64 0)) 5 (.int .i64 k) ∧ (k ≤ x.length) ∧ (r = kk + (XZ x k : Nat)) ∧ (Chg Fx w W) ∧ m' = x.length - k ∧ St W w1 [] [isF true Fx (.slice ax x.length cx) (vZ x kk k)]) (x.length - 0) ⟨_, 0, kk, w, (by exact qj (qj (qj (qj (rfl) rfl) rfl) rfl) rfl), (by omega), (by exact (Int.add_zero _).symm), (by exact C), rfl, H⟩ ?_
 clear H
 rintro m' ρ w2 ⟨junk, k, r, W, rfl, i0, i1, C, rfl, H⟩
 have hc := fun h => cnt_get (l := x) (k := k) h
 refine qm (qm (qA ?_))
 refine sps [.int .i64 k, .slice ax x.length cx] ?_
 refine sw (zZ Tryz.underlying26 ax x.length cx rfl ?_)
 refine sp (.bool (decide ((k : Int) < x.length))) ?_
 refine qx (t_n ?_)
 refine qW (decide ((k : Int) < x.length)) rfl (fun h3 => ?_) (fun h3 => ?_)
 ·skip
  replace h3 := of_decide_eq_true h3
  refine xu (t_n (qm (xE (qm (qA ?_)))))
  refine sps [.slice ax x.length cx, .int .i64 k, .int .i64 r] ?_
  refine sw (o_rem r 3 rfl rfl (by (have := hc (by omega); have e : cnt (x[k]!) = 1 := rfl; omega)) (by omega) (by (have := hc (by omega); have e : cnt (x[k]!) = 1 := rfl; omega)) ?_)
  refine sp (.bool ((r % 3 : Int) == 0)) ?_
  obtain ⟨b4, o5, rfl⟩ := H.addr 0 rfl (by rw [jl _ _ (by omega)]; omega)
  obtain ⟨xs1, xs2, G1, G2, rfl, hx, H, N⟩ := H.open_Bool nd k (by rw [jl _ _ (by omega)]; omega) (markTo_get _ _ (by omega))
  refine sw (xJ k Tryz.underlying26 ti4 rfl rfl (by omega) (by omega) ?_)
  refine sw (o_storeHole H N _ 0 hx (.bool ((r % 3 : Int) == 0)) Tryz.sizeOf4 rfl rfl rfl (Nat.le_of_ble_eq_true rfl) fun w6 W7 C8 H => ?_)
  replace C := C.trans (C8.mono (hole_sub _ _ _ _))
  replace H : St _ _ _ [XQ b4 o5 xs1 [.bool ((r % 3 : Int) == 0)] xs2 G1 G2 ((vZ x kk k).take k) ((vZ x kk k).drop (k + 1))] := H
  refine qx (t_n (qA ?_))
  refine sp (.int .i64 r) ?_
  refine sw (vg r 1 rfl rfl (by (have := hc (by omega); have e : cnt (x[k]!) = 1 := rfl; omega)) ?_)
  refine sp (.int .i64 (r + 1)) ?_
  refine qx (b_n (t_n (qA ?_)))
  refine sp (.int .i64 k) ?_
  refine sw (vg k 1 rfl rfl (by (have := hc (by omega); have e : cnt (x[k]!) = 1 := rfl; omega)) ?_)
  refine sp (.int .i64 (k + 1)) ?_
  refine qx ?_
  replace H := H.closeAt (y := mrk (x[k]!) r) (m := x.length) (c := cx) ⟨rfl, rfl⟩ (vw.nil _) (by intro z hz; simp at hz) (vZ x kk (k + 1)) (by subst i1; exact markTo_step _ _ (by omega)) (jl _ _ (by omega)) (by rw [jl _ _ (by omega)]; exact nhx)
  refine xH (m' := x.length - (k + 1)) (by omega) ⟨_, k + 1, r + 1, W7, (by exact qj (qj (qj (qj (rfl) rfl) rfl) rfl) rfl), ?_, ?_, ?_, rfl, H⟩
  · omega
  · rw [yR]; have e : cnt (x[k]!) = 1 := rfl; omega
  · exact C
 replace h3 := of_decide_eq_false h3
 refine zU (t_x (t_x (b_x (t_n (qm (qA ?_))))))
 refine sps [.int .i64 r, .int .i64 r] ?_
 refine qx (t_n (xB ?_))
 obtain rfl : k = x.length := by omega
 refine ret1 (.int .i64 r) rfl rfl ⟨_, rfl, ⟨?_, H.get 0 rfl⟩, C.trans (Chg.ofExt H.base)⟩
 first | rfl | (refine congrArg (Value.int .i64) ?_; rw [cnt_list]; omega)

theorem markInt64SS_ok (w : World) (x : List (List Int)) (kk : Int) (ax : Option Addr) (cx : Nat) (Fx : List Nat) (hx : qQ.rep w Fx [.slice ax x.length cx] x) (nd : Fx.Nodup) (fr : vw w Fx) (p0 : 0 ≤ kk) (p1 : kk + (cnt x : Nat) ≤ 4611686018427387904) : Calls Tryz.prog 19 #[.slice ax x.length cx, .int .i64 kk] w (RetM (fun v w' => v = .int .i64 (kk + (cnt x : Nat)) ∧ (isF true Fx (.slice ax x.length cx) (mrk x kk)).φ w') Fx w) := by
 refine enter (n := 19) Tryz.func19 rfl Tryz.ntmps19 (Nat.le_of_ble_eq_true rfl) ?_
 have H := St.start w
 replace H := H.add (isF true Fx (.slice ax x.length cx) x) ⟨hx, fun _ => fr.sub (by intro z hz; simp [hz])⟩ (start_lt hx)
 have nhx := qM hx
 clear hx
 have C : Chg Fx w w := Chg.refl _ _
 have N : ([Fx] : List (List Nat)).flatten.Nodup := by simpa using nd
 refine qm (qA ?_)
 refine sp (.int .i64 0) ?_
 refine qx (t_n (qm (qm (qA ?_))))
 refine sp (.int .i64 0) ?_
 refine qx (t_n (xE ?_))
 replace H : St w w [] [isF true Fx (.slice ax x.length cx) (vZ x kk 0)] := by rw [markTo_zero]; exact H
 refine zX (fun m' ρ w1 => ∃ (junk : Env) (k : Nat) (r : Int) (W : World), ρ = upd (upd (upd (upd junk 0 (.slice ax x.length cx)) 1 (.int .i64 r)) 4 (.int .i64 0)) 5 (.int .i64 k) ∧ (k ≤ x.length) ∧ (r = kk + (XZ x k : Nat)) ∧ (Chg Fx w W) ∧ m' = x.length - k ∧ St W w1 [] [isF true Fx (.slice ax x.length cx) (vZ x kk k)]) (x.length - 0) ⟨_, 0, kk, w, (by exact qj (qj (qj (qj (rfl) rfl) rfl) rfl) rfl), (by omega), (by exact (Int.add_zero _).symm), (by exact C), rfl, H⟩ ?_
 clear H
 rintro m' ρ w2 ⟨junk, k, r, W, rfl, i0, i1, C, rfl, H⟩
 have hc := fun h => cnt_get (l := x) (k := k) h
 refine qm (qm (qA ?_))
 refine sps [.int .i64 k, .slice ax x.length cx] ?_
 refine sw (zZ Tryz.underlying27 ax x.length cx rfl ?_)
 refine sp (.bool (decide ((k : Int) < x.length))) ?_
 refine qx (t_n ?_)
 refine qW (decide ((k : Int) < x.length)) rfl (fun h3 => ?_) (fun h3 => ?_)
 ·skip
  replace h3 := of_decide_eq_true h3
  refine xu (t_n (qm (xE (qA ?_))))
  refine sps [.slice ax x.length cx, .int .i64 k] ?_
  obtain ⟨b4, o5, rfl⟩ := H.addr 0 rfl (by rw [jl _ _ (by omega)]; omega)
  obtain ⟨xs1, xs2, G1, G2, aq, cq, Fq, rfl, hx, H, N⟩ := H.open_List nd k (by rw [jl _ _ (by omega)]; omega) (markTo_get _ _ (by omega))
  refine sw (xJ k Tryz.underlying27 ti22 rfl rfl (by omega) (by omega) ?_)
  refine sw (qE (.slice aq ((x[k]!).length) cq) Tryz.isAgg22 rfl (H.holeCell _ 0 hx rfl) ?_)
  refine sp (.int .i64 r) ?_
  refine sw (Xr #[.slice aq ((x[k]!).length) cq, .int .i64 r] rfl rfl Tryz.call28 (Qe w2 (x[k]!) r aq cq Fq (H.get 1 rfl).1 (QE N 1 rfl) ((H.get 1 rfl).2 rfl) (by (have := hc (by omega); skip; omega)) (by (have := hc (by omega); skip; omega))) ?_)
  rintro _ w6 ⟨rfl, m10⟩ x8
  obtain ⟨W7, C9, H⟩ := H.chgAt N 1 rfl (isF true Fq (.slice aq ((x[k]!).length) cq) (mrk (x[k]!) r)) rfl x8 m10
  replace C := C.trans (C9.mono (by intro z hz; have hz : z ∈ Fq := hz; simp [hz]))
  replace H : St _ _ _ [XQ b4 o5 xs1 [.slice aq ((x[k]!).length) cq] xs2 G1 G2 ((vZ x kk k).take k) ((vZ x kk k).drop (k + 1)), isF true Fq (.slice aq ((x[k]!).length) cq) (mrk (x[k]!) r)] := H
  refine sp (.int .i64 (r + (cnt (x[k]!) : Nat))) ?_
  refine qx (b_n (t_n (qA ?_)))
  refine sp (.int .i64 k) ?_
  refine sw (vg k 1 rfl rfl (by (have := hc (by omega); skip; omega)) ?_)
  refine sp (.int .i64 (k + 1)) ?_
  refine qx ?_
  replace H := H.closeAt (y := mrk (x[k]!) r) (m := x.length) (c := cx) (H.get 1 rfl).1 ((H.get 1 rfl).2 rfl) (H.ltOwn 1 rfl) (vZ x kk (k + 1)) (by subst i1; exact markTo_step _ _ (by omega)) (jl _ _ (by omega)) (by rw [jl _ _ (by omega)]; exact nhx)
  refine xH (m' := x.length - (k + 1)) (by omega) ⟨_, k + 1, r + (cnt (x[k]!) : Nat), W7, (by exact qj (qj (qj (qj (rfl) rfl) rfl) rfl) rfl), ?_, ?_, ?_, rfl, H⟩
  · omega
  · rw [yR]; skip; omega
  · exact C
 replace h3 := of_decide_eq_false h3
 refine zU (t_x (t_x (b_x (t_n (qm (qA ?_))))))
 refine sps [.int .i64 r, .int .i64 r] ?_
 refine qx (t_n (xB ?_))
 obtain rfl : k = x.length := by omega
 refine ret1 (.int .i64 r) rfl rfl ⟨_, rfl, ⟨?_, H.get 0 rfl⟩, C.trans (Chg.ofExt H.base)⟩
 first | rfl | (refine congrArg (Value.int .i64) ?_; rw [cnt_list]; omega)

theorem markIntoS_ok (w : World) (x : List IntoD) (kk : Int) (ax : Option Addr) (cx : Nat) (Fx : List Nat) (hx : qQ.rep w Fx [.slice ax x.length cx] x) (nd : Fx.Nodup) (fr : vw w Fx) (p0 : 0 ≤ kk) (p1 : kk + (cnt x : Nat) ≤ 4611686018427387904) : Calls Tryz.prog 105 #[.slice ax x.length cx, .int .i64 kk] w (RetM (fun v w' => v = .int .i64 (kk + (cnt x : Nat)) ∧ (isF true Fx (.slice ax x.length cx) (mrk x kk)).φ w') Fx w) := by
 refine enter (n := 27) Tryz.func105 rfl Tryz.ntmps105 (Nat.le_of_ble_eq_true rfl) ?_
 have H := St.start w
 replace H := H.add (isF true Fx (.slice ax x.length cx) x) ⟨hx, fun _ => fr.sub (by intro z hz; simp [hz])⟩ (start_lt hx)
 have nhx := qM hx
 clear hx
 have C : Chg Fx w w := Chg.refl _ _
 have N : ([Fx] : List (List Nat)).flatten.Nodup := by simpa using nd
 refine qm (qA ?_)
 refine sp (.int .i64 0) ?_
 refine qx (t_n (qm (qm (qA ?_))))
 refine sp (.int .i64 0) ?_
 refine qx (t_n (xE ?_))
 replace H : St w w [] [isF true Fx (.slice ax x.length cx) (vZ x kk 0)] := by rw [markTo_zero]; exact H
 refine zX (fun m' ρ w1 => ∃ (junk : Env) (k : Nat) (r : Int) (W : World), ρ = upd (upd (upd (upd junk 0 (.slice ax x.length cx)) 1 (.int .i64 r)) 4 (.int .i64 0)) 5 (.int .i64 k) ∧ (k ≤ x.length) ∧ (r = kk + (XZ x k : Nat)) ∧ (Chg Fx w W) ∧ m' = x.length - k ∧ St W w1 [] [isF true Fx (.slice ax x.length cx) (vZ x kk k)]) (x.length - 0) ⟨_, 0, kk, w, (by exact qj (qj (qj (qj (rfl) rfl) rfl) rfl) rfl), (by omega), (by exact (Int.add_zero _).symm), (by exact C), rfl, H⟩ ?_
 clear H
 rintro m' ρ w2 ⟨junk, k, r, W, rfl, i0, i1, C, rfl, H⟩
 have hc := fun h => cnt_get (l := x) (k := k) h
 refine qm (qm (qA ?_))
 refine sps [.int .i64 k, .slice ax x.length cx] ?_
 refine sw (zZ Tryz.underlying108 ax x.length cx rfl ?_)
 refine sp (.bool (decide ((k : Int) < x.length))) ?_
 refine qx (t_n ?_)
 refine qW (decide ((k : Int) < x.length)) rfl (fun h3 => ?_) (fun h3 => ?_)
 ·skip
  replace h3 := of_decide_eq_true h3
  refine xu (t_n (qm (xE (qm (qA ?_)))))
  refine sps [.slice ax x.length cx, .int .i64 k, .int .i64 r] ?_
  obtain ⟨b4, o5, rfl⟩ := H.addr 0 rfl (by rw [jl _ _ (by omega)]; omega)
  obtain ⟨xs1, xs2, G1, G2, aqBag, cqBag, FqBag, rfl, hx, H, N⟩ := H.open_IntoD nd k (by rw [jl _ _ (by omega)]; omega) (markTo_get _ _ (by omega))
  refine sw (xJ k Tryz.underlying108 ti115 rfl rfl (by omega) (by omega) ?_)
  refine sw (qN b4 (o5 + (k : Int).toNat * 2) 0 Tryz.underlying115 rfl rfl Tryz.sizeOf2 rfl ?_)
  refine sw (o_storeHole H N _ 0 hx (.int .i64 r) Tryz.sizeOf2 rfl rfl rfl (Nat.le_of_ble_eq_true rfl) fun w6 W7 C8 H => ?_)
  replace C := C.trans (C8.mono (hole_sub _ _ _ _))
  replace H : St _ _ _ [XQ b4 o5 xs1 [.int .i64 r, .slice aqBag (((x[k]!).vz).length) cqBag] xs2 G1 G2 ((vZ x kk k).take k) ((vZ x kk k).drop (k + 1)), isF true FqBag (.slice aqBag (((x[k]!).vz).length) cqBag) ((x[k]!).vz)] := H
  refine qx (t_n (qm (qA ?_)))
  refine sp (.int .i64 r) ?_
  refine sw (vg r 1 rfl rfl (by (have := hc (by omega); have e := cnt_IntoD (x[k]!); omega)) ?_)
  refine sp (.int .i64 (r + 1)) ?_
  refine qx (t_n (qA ?_))
  refine sps [.slice (aa b4 o5) x.length cx, .int .i64 k] ?_
  refine sw (xJ k Tryz.underlying108 ti115 rfl rfl (by omega) (by omega) ?_)
  refine sw (qN b4 (o5 + (k : Int).toNat * 2) 1 Tryz.underlying115 rfl rfl Tryz.sizeOf22 rfl ?_)
  refine sw (qE (.slice aqBag (((x[k]!).vz).length) cqBag) Tryz.isAgg22 rfl (H.holeCell _ 1 hx rfl) ?_)
  refine sp (.int .i64 (r + 1)) ?_
  refine sw (Xr #[.slice aqBag (((x[k]!).vz).length) cqBag, .int .i64 (r + 1)] rfl rfl Tryz.call28 (Qe w6 ((x[k]!).vz) (r + 1) aqBag cqBag FqBag (H.get 1 rfl).1 (QE N 1 rfl) ((H.get 1 rfl).2 rfl) (by (have := hc (by omega); have e := cnt_IntoD (x[k]!); omega)) (by (have := hc (by omega); have e := cnt_IntoD (x[k]!); omega))) ?_)
  rintro _ w9 ⟨rfl, m13⟩ x11
  obtain ⟨W10, C12, H⟩ := H.chgAt N 1 rfl (isF true FqBag (.slice aqBag (((x[k]!).vz).length) cqBag) (mrk ((x[k]!).vz) (r + 1))) rfl x11 m13
  replace C := C.trans (C12.mono (by intro z hz; have hz : z ∈ FqBag := hz; simp [hz]))
  replace H : St _ _ _ [XQ b4 o5 xs1 [.int .i64 r, .slice aqBag (((x[k]!).vz).length) cqBag] xs2 G1 G2 ((vZ x kk k).take k) ((vZ x kk k).drop (k + 1)), isF true FqBag (.slice aqBag (((x[k]!).vz).length) cqBag) (mrk ((x[k]!).vz) (r + 1))] := H
  refine sp (.int .i64 (r + 1 + (cnt ((x[k]!).vz) : Nat))) ?_
  refine qx (b_n (t_n (qA ?_)))
  refine sp (.int .i64 k) ?_
  refine sw (vg k 1 rfl rfl (by (have := hc (by omega); have e := cnt_IntoD (x[k]!); omega)) ?_)
  refine sp (.int .i64 (k + 1)) ?_
  refine qx ?_
  replace H := H.closeAt (y := mrk (x[k]!) r) (m := x.length) (c := cx) ⟨_, _, rfl, rfl, (H.get 1 rfl).1⟩ ((H.get 1 rfl).2 rfl) (H.ltOwn 1 rfl) (vZ x kk (k + 1)) (by subst i1; exact markTo_step _ _ (by omega)) (jl _ _ (by omega)) (by rw [jl _ _ (by omega)]; exact nhx)
  refine xH (m' := x.length - (k + 1)) (by omega) ⟨_, k + 1, r + 1 + (cnt ((x[k]!).vz) : Nat), W10, (by exact qj (qj (qj (qj (rfl) rfl) rfl) rfl) rfl), ?_, ?_, ?_, rfl, H⟩
  · omega
  · rw [yR]; have e := cnt_IntoD (x[k]!); omega
  · exact C
 replace h3 := of_decide_eq_false h3
 refine zU (t_x (t_x (b_x (t_n (qm (qA ?_))))))
 refine sps [.int .i64 r, .int .i64 r] ?_
 refine qx (t_n (xB ?_))
 obtain rfl : k = x.length := by omega
 refine ret1 (.int .i64 r) rfl rfl ⟨_, rfl, ⟨?_, H.get 0 rfl⟩, C.trans (Chg.ofExt H.base)⟩
 first | rfl | (refine congrArg (Value.int .i64) ?_; rw [cnt_list]; omega)

theorem markRuleS_ok (w : World) (x : List QB) (kk : Int) (ax : Option Addr) (cx : Nat) (Fx : List Nat) (hx : qQ.rep w Fx [.slice ax x.length cx] x) (nd : Fx.Nodup) (fr : vw w Fx) (p0 : 0 ≤ kk) (p1 : kk + (cnt x : Nat) ≤ 4611686018427387904) : Calls Tryz.prog 57 #[.slice ax x.length cx, .int .i64 kk] w (RetM (fun v w' => v = .int .i64 (kk + (cnt x : Nat)) ∧ (isF true Fx (.slice ax x.length cx) (mrk x kk)).φ w') Fx w) := by
 refine enter (n := 78) Tryz.func57 rfl Tryz.ntmps57 (Nat.le_of_ble_eq_true rfl) ?_
 have H := St.start w
 replace H := H.add (isF true Fx (.slice ax x.length cx) x) ⟨hx, fun _ => fr.sub (by intro z hz; simp [hz])⟩ (start_lt hx)
 have nhx := qM hx
 clear hx
 have C : Chg Fx w w := Chg.refl _ _
 have N : ([Fx] : List (List Nat)).flatten.Nodup := by simpa using nd
 refine qm (qA ?_)
 refine sp (.int .i64 0) ?_
 refine qx (t_n (qm (qm (qA ?_))))
 refine sp (.int .i64 0) ?_
 refine qx (t_n (xE ?_))
 replace H : St w w [] [isF true Fx (.slice ax x.length cx) (vZ x kk 0)] := by rw [markTo_zero]; exact H
 refine zX (fun m' ρ w1 => ∃ (junk : Env) (k : Nat) (r : Int) (W : World), ρ = upd (upd (upd (upd junk 0 (.slice ax x.length cx)) 1 (.int .i64 r)) 4 (.int .i64 0)) 5 (.int .i64 k) ∧ (k ≤ x.length) ∧ (r = kk + (XZ x k : Nat)) ∧ (Chg Fx w W) ∧ m' = x.length - k ∧ St W w1 [] [isF true Fx (.slice ax x.length cx) (vZ x kk k)]) (x.length - 0) ⟨_, 0, kk, w, (by exact qj (qj (qj (qj (rfl) rfl) rfl) rfl) rfl), (by omega), (by exact (Int.add_zero _).symm), (by exact C), rfl, H⟩ ?_
 clear H
 rintro m' ρ w2 ⟨junk, k, r, W, rfl, i0, i1, C, rfl, H⟩
 have hc := fun h => cnt_get (l := x) (k := k) h
 refine qm (qm (qA ?_))
 refine sps [.int .i64 k, .slice ax x.length cx] ?_
 refine sw (zZ Tryz.underlying34 ax x.length cx rfl ?_)
 refine sp (.bool (decide ((k : Int) < x.length))) ?_
 refine qx (t_n ?_)
 refine qW (decide ((k : Int) < x.length)) rfl (fun h3 => ?_) (fun h3 => ?_)
 ·skip
  replace h3 := of_decide_eq_true h3
  refine xu (t_n (qm (xE (qm (qA ?_)))))
  refine sps [.slice ax x.length cx, .int .i64 k, .int .i64 r] ?_
  obtain ⟨b4, o5, rfl⟩ := H.addr 0 rfl (by rw [jl _ _ (by omega)]; omega)
  obtain ⟨xs1, xs2, G1, G2, XI, XD, FqNeed, XM, XH, FqHave, XJ, XE, FqLack, XL, XG, FqHere, aqOut, cqOut, FqOut, XK, XF, FqInto, rfl, hx, H, N⟩ := H.open_RuleD nd k (by rw [jl _ _ (by omega)]; omega) (markTo_get _ _ (by omega))
  refine sw (xJ k Tryz.underlying34 ti110 rfl rfl (by omega) (by omega) ?_)
  refine sw (qN b4 (o5 + (k : Int).toNat * 9) 0 Tryz.underlying110 rfl rfl Tryz.sizeOf2 rfl ?_)
  refine sw (o_storeHole H N _ 0 hx (.int .i64 r) Tryz.sizeOf2 rfl rfl rfl (Nat.le_of_ble_eq_true rfl) fun w6 W7 C8 H => ?_)
  replace C := C.trans (C8.mono (hole_sub _ _ _ _))
  replace H : St _ _ _ [XQ b4 o5 xs1 [.int .i64 r, .int .i64 ((x[k]!).xZ), .slice XI (((x[k]!).qV).length) XD, .slice XM (((x[k]!).xh).length) XH, .slice XJ (((x[k]!).xk).length) XE, .slice XL (((x[k]!).xm).length) XG, .slice aqOut (((x[k]!).zg).length) cqOut, .slice XK (((x[k]!).qB).length) XF, .bool ((x[k]!).xO)] xs2 G1 G2 ((vZ x kk k).take k) ((vZ x kk k).drop (k + 1)), isF true FqNeed (.slice XI (((x[k]!).qV).length) XD) ((x[k]!).qV), isF true FqHave (.slice XM (((x[k]!).xh).length) XH) ((x[k]!).xh), isF true FqLack (.slice XJ (((x[k]!).xk).length) XE) ((x[k]!).xk), isF true FqHere (.slice XL (((x[k]!).xm).length) XG) ((x[k]!).xm), isF true FqOut (.slice aqOut (((x[k]!).zg).length) cqOut) ((x[k]!).zg), isF true FqInto (.slice XK (((x[k]!).qB).length) XF) ((x[k]!).qB)] := H
  refine qx (t_n (qm (qA ?_)))
  refine sp (.int .i64 r) ?_
  refine sw (vg r 1 rfl rfl (by (have := hc (by omega); have e := yx (x[k]!); omega)) ?_)
  refine sp (.int .i64 (r + 1)) ?_
  refine qx (t_n (qm (qA ?_)))
  refine sps [.slice (aa b4 o5) x.length cx, .int .i64 k, .int .i64 (r + 1)] ?_
  refine sw (xJ k Tryz.underlying34 ti110 rfl rfl (by omega) (by omega) ?_)
  refine sw (qN b4 (o5 + (k : Int).toNat * 9) 1 Tryz.underlying110 rfl rfl Tryz.sizeOf2 rfl ?_)
  refine sw (o_storeHole H N _ 1 hx (.int .i64 (r + 1)) Tryz.sizeOf2 rfl rfl rfl (Nat.le_of_ble_eq_true rfl) fun w9 W10 C11 H => ?_)
  replace C := C.trans (C11.mono (hole_sub _ _ _ _))
  replace H : St _ _ _ [XQ b4 o5 xs1 [.int .i64 r, .int .i64 (r + 1), .slice XI (((x[k]!).qV).length) XD, .slice XM (((x[k]!).xh).length) XH, .slice XJ (((x[k]!).xk).length) XE, .slice XL (((x[k]!).xm).length) XG, .slice aqOut (((x[k]!).zg).length) cqOut, .slice XK (((x[k]!).qB).length) XF, .bool ((x[k]!).xO)] xs2 G1 G2 ((vZ x kk k).take k) ((vZ x kk k).drop (k + 1)), isF true FqNeed (.slice XI (((x[k]!).qV).length) XD) ((x[k]!).qV), isF true FqHave (.slice XM (((x[k]!).xh).length) XH) ((x[k]!).xh), isF true FqLack (.slice XJ (((x[k]!).xk).length) XE) ((x[k]!).xk), isF true FqHere (.slice XL (((x[k]!).xm).length) XG) ((x[k]!).xm), isF true FqOut (.slice aqOut (((x[k]!).zg).length) cqOut) ((x[k]!).zg), isF true FqInto (.slice XK (((x[k]!).qB).length) XF) ((x[k]!).qB)] := H
  refine qx (t_n (qm (qA ?_)))
  refine sp (.int .i64 (r + 1)) ?_
  refine sw (vg (r + 1) 1 rfl rfl (by (have := hc (by omega); have e := yx (x[k]!); omega)) ?_)
  refine sp (.int .i64 ((r + 1) + 1)) ?_
  refine qx (t_n (qm (qA ?_)))
  refine sps [.slice (aa b4 o5) x.length cx, .int .i64 k] ?_
  refine sw (xJ k Tryz.underlying34 ti110 rfl rfl (by omega) (by omega) ?_)
  refine sw (qN b4 (o5 + (k : Int).toNat * 9) 2 Tryz.underlying110 rfl rfl Tryz.sizeOf22 rfl ?_)
  refine sw (qE (.slice XI (((x[k]!).qV).length) XD) Tryz.isAgg22 rfl (H.holeCell _ 2 hx rfl) ?_)
  refine sp (.int .i64 ((r + 1) + 1)) ?_
  refine sw (Xr #[.slice XI (((x[k]!).qV).length) XD, .int .i64 ((r + 1) + 1)] rfl rfl Tryz.call28 (Qe w9 ((x[k]!).qV) ((r + 1) + 1) XI XD FqNeed (H.get 1 rfl).1 (QE N 1 rfl) ((H.get 1 rfl).2 rfl) (by (have := hc (by omega); have e := yx (x[k]!); omega)) (by (have := hc (by omega); have e := yx (x[k]!); omega))) ?_)
  rintro _ w12 ⟨rfl, m16⟩ x14
  obtain ⟨W13, C15, H⟩ := H.chgAt N 1 rfl (isF true FqNeed (.slice XI (((x[k]!).qV).length) XD) (mrk ((x[k]!).qV) ((r + 1) + 1))) rfl x14 m16
  replace C := C.trans (C15.mono (by intro z hz; have hz : z ∈ FqNeed := hz; simp [hz]))
  replace H : St _ _ _ [XQ b4 o5 xs1 [.int .i64 r, .int .i64 (r + 1), .slice XI (((x[k]!).qV).length) XD, .slice XM (((x[k]!).xh).length) XH, .slice XJ (((x[k]!).xk).length) XE, .slice XL (((x[k]!).xm).length) XG, .slice aqOut (((x[k]!).zg).length) cqOut, .slice XK (((x[k]!).qB).length) XF, .bool ((x[k]!).xO)] xs2 G1 G2 ((vZ x kk k).take k) ((vZ x kk k).drop (k + 1)), isF true FqNeed (.slice XI (((x[k]!).qV).length) XD) (mrk ((x[k]!).qV) ((r + 1) + 1)), isF true FqHave (.slice XM (((x[k]!).xh).length) XH) ((x[k]!).xh), isF true FqLack (.slice XJ (((x[k]!).xk).length) XE) ((x[k]!).xk), isF true FqHere (.slice XL (((x[k]!).xm).length) XG) ((x[k]!).xm), isF true FqOut (.slice aqOut (((x[k]!).zg).length) cqOut) ((x[k]!).zg), isF true FqInto (.slice XK (((x[k]!).qB).length) XF) ((x[k]!).qB)] := H
  refine sp (.int .i64 ((r + 1) + 1 + (cnt ((x[k]!).qV) : Nat))) ?_
  refine qx (t_n (qm (qA ?_)))
  refine sps [.slice (aa b4 o5) x.length cx, .int .i64 k] ?_
  refine sw (xJ k Tryz.underlying34 ti110 rfl rfl (by omega) (by omega) ?_)
  refine sw (qN b4 (o5 + (k : Int).toNat * 9) 3 Tryz.underlying110 rfl rfl Tryz.sizeOf22 rfl ?_)
  refine sw (qE (.slice XM (((x[k]!).xh).length) XH) Tryz.isAgg22 rfl (H.holeCell _ 3 hx rfl) ?_)
  refine sp (.int .i64 ((r + 1) + 1 + (cnt ((x[k]!).qV) : Nat))) ?_
  refine sw (Xr #[.slice XM (((x[k]!).xh).length) XH, .int .i64 ((r + 1) + 1 + (cnt ((x[k]!).qV) : Nat))] rfl rfl Tryz.call28 (Qe w12 ((x[k]!).xh) ((r + 1) + 1 + (cnt ((x[k]!).qV) : Nat)) XM XH FqHave (H.get 2 rfl).1 (QE N 2 rfl) ((H.get 2 rfl).2 rfl) (by (have := hc (by omega); have e := yx (x[k]!); omega)) (by (have := hc (by omega); have e := yx (x[k]!); omega))) ?_)
  rintro _ w17 ⟨rfl, m21⟩ x19
  obtain ⟨W18, C20, H⟩ := H.chgAt N 2 rfl (isF true FqHave (.slice XM (((x[k]!).xh).length) XH) (mrk ((x[k]!).xh) ((r + 1) + 1 + (cnt ((x[k]!).qV) : Nat)))) rfl x19 m21
  replace C := C.trans (C20.mono (by intro z hz; have hz : z ∈ FqHave := hz; simp [hz]))
  replace H : St _ _ _ [XQ b4 o5 xs1 [.int .i64 r, .int .i64 (r + 1), .slice XI (((x[k]!).qV).length) XD, .slice XM (((x[k]!).xh).length) XH, .slice XJ (((x[k]!).xk).length) XE, .slice XL (((x[k]!).xm).length) XG, .slice aqOut (((x[k]!).zg).length) cqOut, .slice XK (((x[k]!).qB).length) XF, .bool ((x[k]!).xO)] xs2 G1 G2 ((vZ x kk k).take k) ((vZ x kk k).drop (k + 1)), isF true FqNeed (.slice XI (((x[k]!).qV).length) XD) (mrk ((x[k]!).qV) ((r + 1) + 1)), isF true FqHave (.slice XM (((x[k]!).xh).length) XH) (mrk ((x[k]!).xh) ((r + 1) + 1 + (cnt ((x[k]!).qV) : Nat))), isF true FqLack (.slice XJ (((x[k]!).xk).length) XE) ((x[k]!).xk), isF true FqHere (.slice XL (((x[k]!).xm).length) XG) ((x[k]!).xm), isF true FqOut (.slice aqOut (((x[k]!).zg).length) cqOut) ((x[k]!).zg), isF true FqInto (.slice XK (((x[k]!).qB).length) XF) ((x[k]!).qB)] := H
  refine sp (.int .i64 ((r + 1) + 1 + (cnt ((x[k]!).qV) : Nat) + (cnt ((x[k]!).xh) : Nat))) ?_
  refine qx (t_n (qm (qA ?_)))
  refine sps [.slice (aa b4 o5) x.length cx, .int .i64 k] ?_
  refine sw (xJ k Tryz.underlying34 ti110 rfl rfl (by omega) (by omega) ?_)
  refine sw (qN b4 (o5 + (k : Int).toNat * 9) 4 Tryz.underlying110 rfl rfl Tryz.sizeOf22 rfl ?_)
  refine sw (qE (.slice XJ (((x[k]!).xk).length) XE) Tryz.isAgg22 rfl (H.holeCell _ 4 hx rfl) ?_)
  refine sp (.int .i64 ((r + 1) + 1 + (cnt ((x[k]!).qV) : Nat) + (cnt ((x[k]!).xh) : Nat))) ?_
  refine sw (Xr #[.slice XJ (((x[k]!).xk).length) XE, .int .i64 ((r + 1) + 1 + (cnt ((x[k]!).qV) : Nat) + (cnt ((x[k]!).xh) : Nat))] rfl rfl Tryz.call28 (Qe w17 ((x[k]!).xk) ((r + 1) + 1 + (cnt ((x[k]!).qV) : Nat) + (cnt ((x[k]!).xh) : Nat)) XJ XE FqLack (H.get 3 rfl).1 (QE N 3 rfl) ((H.get 3 rfl).2 rfl) (by (have := hc (by omega); have e := yx (x[k]!); omega)) (by (have := hc (by omega); have e := yx (x[k]!); omega))) ?_)
  rintro _ w22 ⟨rfl, m26⟩ x24
  obtain ⟨W23, C25, H⟩ := H.chgAt N 3 rfl (isF true FqLack (.slice XJ (((x[k]!).xk).length) XE) (mrk ((x[k]!).xk) ((r + 1) + 1 + (cnt ((x[k]!).qV) : Nat) + (cnt ((x[k]!).xh) : Nat)))) rfl x24 m26
  replace C := C.trans (C25.mono (by intro z hz; have hz : z ∈ FqLack := hz; simp [hz]))
  replace H : St _ _ _ [XQ b4 o5 xs1 [.int .i64 r, .int .i64 (r + 1), .slice XI (((x[k]!).qV).length) XD, .slice XM (((x[k]!).xh).length) XH, .slice XJ (((x[k]!).xk).length) XE, .slice XL (((x[k]!).xm).length) XG, .slice aqOut (((x[k]!).zg).length) cqOut, .slice XK (((x[k]!).qB).length) XF, .bool ((x[k]!).xO)] xs2 G1 G2 ((vZ x kk k).take k) ((vZ x kk k).drop (k + 1)), isF true FqNeed (.slice XI (((x[k]!).qV).length) XD) (mrk ((x[k]!).qV) ((r + 1) + 1)), isF true FqHave (.slice XM (((x[k]!).xh).length) XH) (mrk ((x[k]!).xh) ((r + 1) + 1 + (cnt ((x[k]!).qV) : Nat))), isF true FqLack (.slice XJ (((x[k]!).xk).length) XE) (mrk ((x[k]!).xk) ((r + 1) + 1 + (cnt ((x[k]!).qV) : Nat) + (cnt ((x[k]!).xh) : Nat))), isF true FqHere (.slice XL (((x[k]!).xm).length) XG) ((x[k]!).xm), isF true FqOut (.slice aqOut (((x[k]!).zg).length) cqOut) ((x[k]!).zg), isF true FqInto (.slice XK (((x[k]!).qB).length) XF) ((x[k]!).qB)] := H
  refine sp (.int .i64 ((r + 1) + 1 + (cnt ((x[k]!).qV) : Nat) + (cnt ((x[k]!).xh) : Nat) + (cnt ((x[k]!).xk) : Nat))) ?_
  refine qx (t_n (qm (qA ?_)))
  refine sps [.slice (aa b4 o5) x.length cx, .int .i64 k] ?_
  refine sw (xJ k Tryz.underlying34 ti110 rfl rfl (by omega) (by omega) ?_)
  refine sw (qN b4 (o5 + (k : Int).toNat * 9) 5 Tryz.underlying110 rfl rfl Tryz.sizeOf22 rfl ?_)
  refine sw (qE (.slice XL (((x[k]!).xm).length) XG) Tryz.isAgg22 rfl (H.holeCell _ 5 hx rfl) ?_)
  refine sp (.int .i64 ((r + 1) + 1 + (cnt ((x[k]!).qV) : Nat) + (cnt ((x[k]!).xh) : Nat) + (cnt ((x[k]!).xk) : Nat))) ?_
  refine sw (Xr #[.slice XL (((x[k]!).xm).length) XG, .int .i64 ((r + 1) + 1 + (cnt ((x[k]!).qV) : Nat) + (cnt ((x[k]!).xh) : Nat) + (cnt ((x[k]!).xk) : Nat))] rfl rfl Tryz.call28 (Qe w22 ((x[k]!).xm) ((r + 1) + 1 + (cnt ((x[k]!).qV) : Nat) + (cnt ((x[k]!).xh) : Nat) + (cnt ((x[k]!).xk) : Nat)) XL XG FqHere (H.get 4 rfl).1 (QE N 4 rfl) ((H.get 4 rfl).2 rfl) (by (have := hc (by omega); have e := yx (x[k]!); omega)) (by (have := hc (by omega); have e := yx (x[k]!); omega))) ?_)
  rintro _ w27 ⟨rfl, m31⟩ x29
  obtain ⟨W28, C30, H⟩ := H.chgAt N 4 rfl (isF true FqHere (.slice XL (((x[k]!).xm).length) XG) (mrk ((x[k]!).xm) ((r + 1) + 1 + (cnt ((x[k]!).qV) : Nat) + (cnt ((x[k]!).xh) : Nat) + (cnt ((x[k]!).xk) : Nat)))) rfl x29 m31
  replace C := C.trans (C30.mono (by intro z hz; have hz : z ∈ FqHere := hz; simp [hz]))
  replace H : St _ _ _ [XQ b4 o5 xs1 [.int .i64 r, .int .i64 (r + 1), .slice XI (((x[k]!).qV).length) XD, .slice XM (((x[k]!).xh).length) XH, .slice XJ (((x[k]!).xk).length) XE, .slice XL (((x[k]!).xm).length) XG, .slice aqOut (((x[k]!).zg).length) cqOut, .slice XK (((x[k]!).qB).length) XF, .bool ((x[k]!).xO)] xs2 G1 G2 ((vZ x kk k).take k) ((vZ x kk k).drop (k + 1)), isF true FqNeed (.slice XI (((x[k]!).qV).length) XD) (mrk ((x[k]!).qV) ((r + 1) + 1)), isF true FqHave (.slice XM (((x[k]!).xh).length) XH) (mrk ((x[k]!).xh) ((r + 1) + 1 + (cnt ((x[k]!).qV) : Nat))), isF true FqLack (.slice XJ (((x[k]!).xk).length) XE) (mrk ((x[k]!).xk) ((r + 1) + 1 + (cnt ((x[k]!).qV) : Nat) + (cnt ((x[k]!).xh) : Nat))), isF true FqHere (.slice XL (((x[k]!).xm).length) XG) (mrk ((x[k]!).xm) ((r + 1) + 1 + (cnt ((x[k]!).qV) : Nat) + (cnt ((x[k]!).xh) : Nat) + (cnt ((x[k]!).xk) : Nat))), isF true FqOut (.slice aqOut (((x[k]!).zg).length) cqOut) ((x[k]!).zg), isF true FqInto (.slice XK (((x[k]!).qB).length) XF) ((x[k]!).qB)] := H
  refine sp (.int .i64 ((r + 1) + 1 + (cnt ((x[k]!).qV) : Nat) + (cnt ((x[k]!).xh) : Nat) + (cnt ((x[k]!).xk) : Nat) + (cnt ((x[k]!).xm) : Nat))) ?_
  refine qx (t_n (qm (qA ?_)))
  refine sps [.slice (aa b4 o5) x.length cx, .int .i64 k] ?_
  refine sw (xJ k Tryz.underlying34 ti110 rfl rfl (by omega) (by omega) ?_)
  refine sw (qN b4 (o5 + (k : Int).toNat * 9) 6 Tryz.underlying110 rfl rfl Tryz.sizeOf22 rfl ?_)
  refine sw (qE (.slice aqOut (((x[k]!).zg).length) cqOut) Tryz.isAgg22 rfl (H.holeCell _ 6 hx rfl) ?_)
  refine sp (.int .i64 ((r + 1) + 1 + (cnt ((x[k]!).qV) : Nat) + (cnt ((x[k]!).xh) : Nat) + (cnt ((x[k]!).xk) : Nat) + (cnt ((x[k]!).xm) : Nat))) ?_
  refine sw (Xr #[.slice aqOut (((x[k]!).zg).length) cqOut, .int .i64 ((r + 1) + 1 + (cnt ((x[k]!).qV) : Nat) + (cnt ((x[k]!).xh) : Nat) + (cnt ((x[k]!).xk) : Nat) + (cnt ((x[k]!).xm) : Nat))] rfl rfl Tryz.call28 (Qe w27 ((x[k]!).zg) ((r + 1) + 1 + (cnt ((x[k]!).qV) : Nat) + (cnt ((x[k]!).xh) : Nat) + (cnt ((x[k]!).xk) : Nat) + (cnt ((x[k]!).xm) : Nat)) aqOut cqOut FqOut (H.get 5 rfl).1 (QE N 5 rfl) ((H.get 5 rfl).2 rfl) (by (have := hc (by omega); have e := yx (x[k]!); omega)) (by (have := hc (by omega); have e := yx (x[k]!); omega))) ?_)
  rintro _ w32 ⟨rfl, m36⟩ x34
  obtain ⟨W33, C35, H⟩ := H.chgAt N 5 rfl (isF true FqOut (.slice aqOut (((x[k]!).zg).length) cqOut) (mrk ((x[k]!).zg) ((r + 1) + 1 + (cnt ((x[k]!).qV) : Nat) + (cnt ((x[k]!).xh) : Nat) + (cnt ((x[k]!).xk) : Nat) + (cnt ((x[k]!).xm) : Nat)))) rfl x34 m36
  replace C := C.trans (C35.mono (by intro z hz; have hz : z ∈ FqOut := hz; simp [hz]))
  replace H : St _ _ _ [XQ b4 o5 xs1 [.int .i64 r, .int .i64 (r + 1), .slice XI (((x[k]!).qV).length) XD, .slice XM (((x[k]!).xh).length) XH, .slice XJ (((x[k]!).xk).length) XE, .slice XL (((x[k]!).xm).length) XG, .slice aqOut (((x[k]!).zg).length) cqOut, .slice XK (((x[k]!).qB).length) XF, .bool ((x[k]!).xO)] xs2 G1 G2 ((vZ x kk k).take k) ((vZ x kk k).drop (k + 1)), isF true FqNeed (.slice XI (((x[k]!).qV).length) XD) (mrk ((x[k]!).qV) ((r + 1) + 1)), isF true FqHave (.slice XM (((x[k]!).xh).length) XH) (mrk ((x[k]!).xh) ((r + 1) + 1 + (cnt ((x[k]!).qV) : Nat))), isF true FqLack (.slice XJ (((x[k]!).xk).length) XE) (mrk ((x[k]!).xk) ((r + 1) + 1 + (cnt ((x[k]!).qV) : Nat) + (cnt ((x[k]!).xh) : Nat))), isF true FqHere (.slice XL (((x[k]!).xm).length) XG) (mrk ((x[k]!).xm) ((r + 1) + 1 + (cnt ((x[k]!).qV) : Nat) + (cnt ((x[k]!).xh) : Nat) + (cnt ((x[k]!).xk) : Nat))), isF true FqOut (.slice aqOut (((x[k]!).zg).length) cqOut) (mrk ((x[k]!).zg) ((r + 1) + 1 + (cnt ((x[k]!).qV) : Nat) + (cnt ((x[k]!).xh) : Nat) + (cnt ((x[k]!).xk) : Nat) + (cnt ((x[k]!).xm) : Nat))), isF true FqInto (.slice XK (((x[k]!).qB).length) XF) ((x[k]!).qB)] := H
  refine sp (.int .i64 ((r + 1) + 1 + (cnt ((x[k]!).qV) : Nat) + (cnt ((x[k]!).xh) : Nat) + (cnt ((x[k]!).xk) : Nat) + (cnt ((x[k]!).xm) : Nat) + (cnt ((x[k]!).zg) : Nat))) ?_
  refine qx (t_n (qm (qA ?_)))
  refine sps [.slice (aa b4 o5) x.length cx, .int .i64 k] ?_
  refine sw (xJ k Tryz.underlying34 ti110 rfl rfl (by omega) (by omega) ?_)
  refine sw (qN b4 (o5 + (k : Int).toNat * 9) 7 Tryz.underlying110 rfl rfl Tryz.sizeOf108 rfl ?_)
  refine sw (qE (.slice XK (((x[k]!).qB).length) XF) Tryz.isAgg108 rfl (H.holeCell _ 7 hx rfl) ?_)
  refine sp (.int .i64 ((r + 1) + 1 + (cnt ((x[k]!).qV) : Nat) + (cnt ((x[k]!).xh) : Nat) + (cnt ((x[k]!).xk) : Nat) + (cnt ((x[k]!).xm) : Nat) + (cnt ((x[k]!).zg) : Nat))) ?_
  refine sw (Xr #[.slice XK (((x[k]!).qB).length) XF, .int .i64 ((r + 1) + 1 + (cnt ((x[k]!).qV) : Nat) + (cnt ((x[k]!).xh) : Nat) + (cnt ((x[k]!).xk) : Nat) + (cnt ((x[k]!).xm) : Nat) + (cnt ((x[k]!).zg) : Nat))] rfl rfl Tryz.call105 (markIntoS_ok w32 ((x[k]!).qB) ((r + 1) + 1 + (cnt ((x[k]!).qV) : Nat) + (cnt ((x[k]!).xh) : Nat) + (cnt ((x[k]!).xk) : Nat) + (cnt ((x[k]!).xm) : Nat) + (cnt ((x[k]!).zg) : Nat)) XK XF FqInto (H.get 6 rfl).1 (QE N 6 rfl) ((H.get 6 rfl).2 rfl) (by (have := hc (by omega); have e := yx (x[k]!); omega)) (by (have := hc (by omega); have e := yx (x[k]!); omega))) ?_)
  rintro _ w37 ⟨rfl, m41⟩ x39
  obtain ⟨W38, C40, H⟩ := H.chgAt N 6 rfl (isF true FqInto (.slice XK (((x[k]!).qB).length) XF) (mrk ((x[k]!).qB) ((r + 1) + 1 + (cnt ((x[k]!).qV) : Nat) + (cnt ((x[k]!).xh) : Nat) + (cnt ((x[k]!).xk) : Nat) + (cnt ((x[k]!).xm) : Nat) + (cnt ((x[k]!).zg) : Nat)))) rfl x39 m41
  replace C := C.trans (C40.mono (by intro z hz; have hz : z ∈ FqInto := hz; simp [hz]))
  replace H : St _ _ _ [XQ b4 o5 xs1 [.int .i64 r, .int .i64 (r + 1), .slice XI (((x[k]!).qV).length) XD, .slice XM (((x[k]!).xh).length) XH, .slice XJ (((x[k]!).xk).length) XE, .slice XL (((x[k]!).xm).length) XG, .slice aqOut (((x[k]!).zg).length) cqOut, .slice XK (((x[k]!).qB).length) XF, .bool ((x[k]!).xO)] xs2 G1 G2 ((vZ x kk k).take k) ((vZ x kk k).drop (k + 1)), isF true FqNeed (.slice XI (((x[k]!).qV).length) XD) (mrk ((x[k]!).qV) ((r + 1) + 1)), isF true FqHave (.slice XM (((x[k]!).xh).length) XH) (mrk ((x[k]!).xh) ((r + 1) + 1 + (cnt ((x[k]!).qV) : Nat))), isF true FqLack (.slice XJ (((x[k]!).xk).length) XE) (mrk ((x[k]!).xk) ((r + 1) + 1 + (cnt ((x[k]!).qV) : Nat) + (cnt ((x[k]!).xh) : Nat))), isF true FqHere (.slice XL (((x[k]!).xm).length) XG) (mrk ((x[k]!).xm) ((r + 1) + 1 + (cnt ((x[k]!).qV) : Nat) + (cnt ((x[k]!).xh) : Nat) + (cnt ((x[k]!).xk) : Nat))), isF true FqOut (.slice aqOut (((x[k]!).zg).length) cqOut) (mrk ((x[k]!).zg) ((r + 1) + 1 + (cnt ((x[k]!).qV) : Nat) + (cnt ((x[k]!).xh) : Nat) + (cnt ((x[k]!).xk) : Nat) + (cnt ((x[k]!).xm) : Nat))), isF true FqInto (.slice XK (((x[k]!).qB).length) XF) (mrk ((x[k]!).qB) ((r + 1) + 1 + (cnt ((x[k]!).qV) : Nat) + (cnt ((x[k]!).xh) : Nat) + (cnt ((x[k]!).xk) : Nat) + (cnt ((x[k]!).xm) : Nat) + (cnt ((x[k]!).zg) : Nat)))] := H
  refine sp (.int .i64 ((r + 1) + 1 + (cnt ((x[k]!).qV) : Nat) + (cnt ((x[k]!).xh) : Nat) + (cnt ((x[k]!).xk) : Nat) + (cnt ((x[k]!).xm) : Nat) + (cnt ((x[k]!).zg) : Nat) + (cnt ((x[k]!).qB) : Nat))) ?_
  refine qx (t_n (qm (qA ?_)))
  refine sps [.slice (aa b4 o5) x.length cx, .int .i64 k, .int .i64 ((r + 1) + 1 + (cnt ((x[k]!).qV) : Nat) + (cnt ((x[k]!).xh) : Nat) + (cnt ((x[k]!).xk) : Nat) + (cnt ((x[k]!).xm) : Nat) + (cnt ((x[k]!).zg) : Nat) + (cnt ((x[k]!).qB) : Nat))] ?_
  refine sw (o_rem ((r + 1) + 1 + (cnt ((x[k]!).qV) : Nat) + (cnt ((x[k]!).xh) : Nat) + (cnt ((x[k]!).xk) : Nat) + (cnt ((x[k]!).xm) : Nat) + (cnt ((x[k]!).zg) : Nat) + (cnt ((x[k]!).qB) : Nat)) 3 rfl rfl (by (have := hc (by omega); have e := yx (x[k]!); omega)) (by omega) (by (have := hc (by omega); have e := yx (x[k]!); omega)) ?_)
  refine sp (.bool ((((r + 1) + 1 + (cnt ((x[k]!).qV) : Nat) + (cnt ((x[k]!).xh) : Nat) + (cnt ((x[k]!).xk) : Nat) + (cnt ((x[k]!).xm) : Nat) + (cnt ((x[k]!).zg) : Nat) + (cnt ((x[k]!).qB) : Nat)) % 3 : Int) == 0)) ?_
  refine sw (xJ k Tryz.underlying34 ti110 rfl rfl (by omega) (by omega) ?_)
  refine sw (qN b4 (o5 + (k : Int).toNat * 9) 8 Tryz.underlying110 rfl rfl Tryz.sizeOf4 rfl ?_)
  refine sw (o_storeHole H N _ 8 hx (.bool ((((r + 1) + 1 + (cnt ((x[k]!).qV) : Nat) + (cnt ((x[k]!).xh) : Nat) + (cnt ((x[k]!).xk) : Nat) + (cnt ((x[k]!).xm) : Nat) + (cnt ((x[k]!).zg) : Nat) + (cnt ((x[k]!).qB) : Nat)) % 3 : Int) == 0)) Tryz.sizeOf4 rfl rfl rfl (Nat.le_of_ble_eq_true rfl) fun w42 W43 C44 H => ?_)
  replace C := C.trans (C44.mono (hole_sub _ _ _ _))
  replace H : St _ _ _ [XQ b4 o5 xs1 [.int .i64 r, .int .i64 (r + 1), .slice XI (((x[k]!).qV).length) XD, .slice XM (((x[k]!).xh).length) XH, .slice XJ (((x[k]!).xk).length) XE, .slice XL (((x[k]!).xm).length) XG, .slice aqOut (((x[k]!).zg).length) cqOut, .slice XK (((x[k]!).qB).length) XF, .bool ((((r + 1) + 1 + (cnt ((x[k]!).qV) : Nat) + (cnt ((x[k]!).xh) : Nat) + (cnt ((x[k]!).xk) : Nat) + (cnt ((x[k]!).xm) : Nat) + (cnt ((x[k]!).zg) : Nat) + (cnt ((x[k]!).qB) : Nat)) % 3 : Int) == 0)] xs2 G1 G2 ((vZ x kk k).take k) ((vZ x kk k).drop (k + 1)), isF true FqNeed (.slice XI (((x[k]!).qV).length) XD) (mrk ((x[k]!).qV) ((r + 1) + 1)), isF true FqHave (.slice XM (((x[k]!).xh).length) XH) (mrk ((x[k]!).xh) ((r + 1) + 1 + (cnt ((x[k]!).qV) : Nat))), isF true FqLack (.slice XJ (((x[k]!).xk).length) XE) (mrk ((x[k]!).xk) ((r + 1) + 1 + (cnt ((x[k]!).qV) : Nat) + (cnt ((x[k]!).xh) : Nat))), isF true FqHere (.slice XL (((x[k]!).xm).length) XG) (mrk ((x[k]!).xm) ((r + 1) + 1 + (cnt ((x[k]!).qV) : Nat) + (cnt ((x[k]!).xh) : Nat) + (cnt ((x[k]!).xk) : Nat))), isF true FqOut (.slice aqOut (((x[k]!).zg).length) cqOut) (mrk ((x[k]!).zg) ((r + 1) + 1 + (cnt ((x[k]!).qV) : Nat) + (cnt ((x[k]!).xh) : Nat) + (cnt ((x[k]!).xk) : Nat) + (cnt ((x[k]!).xm) : Nat))), isF true FqInto (.slice XK (((x[k]!).qB).length) XF) (mrk ((x[k]!).qB) ((r + 1) + 1 + (cnt ((x[k]!).qV) : Nat) + (cnt ((x[k]!).xh) : Nat) + (cnt ((x[k]!).xk) : Nat) + (cnt ((x[k]!).xm) : Nat) + (cnt ((x[k]!).zg) : Nat)))] := H
  refine qx (t_n (qA ?_))
  refine sp (.int .i64 ((r + 1) + 1 + (cnt ((x[k]!).qV) : Nat) + (cnt ((x[k]!).xh) : Nat) + (cnt ((x[k]!).xk) : Nat) + (cnt ((x[k]!).xm) : Nat) + (cnt ((x[k]!).zg) : Nat) + (cnt ((x[k]!).qB) : Nat))) ?_
  refine sw (vg ((r + 1) + 1 + (cnt ((x[k]!).qV) : Nat) + (cnt ((x[k]!).xh) : Nat) + (cnt ((x[k]!).xk) : Nat) + (cnt ((x[k]!).xm) : Nat) + (cnt ((x[k]!).zg) : Nat) + (cnt ((x[k]!).qB) : Nat)) 1 rfl rfl (by (have := hc (by omega); have e := yx (x[k]!); omega)) ?_)
  refine sp (.int .i64 (((r + 1) + 1 + (cnt ((x[k]!).qV) : Nat) + (cnt ((x[k]!).xh) : Nat) + (cnt ((x[k]!).xk) : Nat) + (cnt ((x[k]!).xm) : Nat) + (cnt ((x[k]!).zg) : Nat) + (cnt ((x[k]!).qB) : Nat)) + 1)) ?_
  refine qx (b_n (t_n (qA ?_)))
  refine sp (.int .i64 k) ?_
  refine sw (vg k 1 rfl rfl (by (have := hc (by omega); have e := yx (x[k]!); omega)) ?_)
  refine sp (.int .i64 (k + 1)) ?_
  refine qx ?_
  replace H := H.closeAt (y := mrk (x[k]!) r) (m := x.length) (c := cx) ⟨_, _, _, _, _, _, _, _, _, _, _, _, rfl, rfl, (H.get 1 rfl).1, (H.get 2 rfl).1, (H.get 3 rfl).1, (H.get 4 rfl).1, (H.get 5 rfl).1, (H.get 6 rfl).1⟩ (((((((H.get 1 rfl).2 rfl).app ((H.get 2 rfl).2 rfl)).app ((H.get 3 rfl).2 rfl)).app ((H.get 4 rfl).2 rfl)).app ((H.get 5 rfl).2 rfl)).app ((H.get 6 rfl).2 rfl)) (XO (XO (XO (XO (XO (H.ltOwn 1 rfl) (H.ltOwn 2 rfl)) (H.ltOwn 3 rfl)) (H.ltOwn 4 rfl)) (H.ltOwn 5 rfl)) (H.ltOwn 6 rfl)) (vZ x kk (k + 1)) (by subst i1; exact markTo_step _ _ (by omega)) (jl _ _ (by omega)) (by rw [jl _ _ (by omega)]; exact nhx)
  refine xH (m' := x.length - (k + 1)) (by omega) ⟨_, k + 1, ((r + 1) + 1 + (cnt ((x[k]!).qV) : Nat) + (cnt ((x[k]!).xh) : Nat) + (cnt ((x[k]!).xk) : Nat) + (cnt ((x[k]!).xm) : Nat) + (cnt ((x[k]!).zg) : Nat) + (cnt ((x[k]!).qB) : Nat)) + 1, W43, (by exact qj (qj (qj (qj (rfl) rfl) rfl) rfl) rfl), ?_, ?_, ?_, rfl, H⟩
  · omega
  · rw [yR]; have e := yx (x[k]!); omega
  · exact C
 replace h3 := of_decide_eq_false h3
 refine zU (t_x (t_x (b_x (t_n (qm (qA ?_))))))
 refine sps [.int .i64 r, .int .i64 r] ?_
 refine qx (t_n (xB ?_))
 obtain rfl : k = x.length := by omega
 refine ret1 (.int .i64 r) rfl rfl ⟨_, rfl, ⟨?_, H.get 0 rfl⟩, C.trans (Chg.ofExt H.base)⟩
 first | rfl | (refine congrArg (Value.int .i64) ?_; rw [cnt_list]; omega)

theorem markSystem_ok (w : World) (x : qY) (kk : Int) (zH : Option Addr) (zG : Nat) (jW : List Nat) (jf : Option Addr) (je : Nat) (QL : List Nat) (Qy : qQ.rep w jW [.slice zH x.qf.length zG] x.qf) (XN : qQ.rep w QL [.slice jf x.qg.length je] x.qg) (nd : (jW ++ QL).Nodup) (fr : vw w (jW ++ QL)) (p0 : 0 ≤ kk) (p1 : kk + (cnt x.qf : Nat) + (cnt x.qg : Nat) ≤ 4611686018427387904) : Calls Tryz.prog 17 #[.agg #[.int .i64 x.qH, .slice zH x.qf.length zG, .slice jf x.qg.length je], .int .i64 kk] w (RetM (fun v w' => v = .int .i64 (kk + (cnt x.qf : Nat) + (cnt x.qg : Nat)) ∧ (isF true jW (.slice zH x.qf.length zG) (mrk x.qf kk)).φ w' ∧ (isF true QL (.slice jf x.qg.length je) (mrk x.qg (kk + (cnt x.qf : Nat)))).φ w') (jW ++ QL) w) := by
 refine enter (n := 14) Tryz.func17 rfl Tryz.ntmps17 (Nat.le_of_ble_eq_true rfl) ?_
 have H := St.start w
 replace H := H.add (isF true QL (.slice jf x.qg.length je) x.qg) ⟨XN, fun _ => fr.sub (by intro z hz; simp [hz])⟩ (start_lt XN)
 replace H := H.add (isF true jW (.slice zH x.qf.length zG) x.qf) ⟨Qy, fun _ => fr.sub (by intro z hz; simp [hz])⟩ (start_lt Qy)
 have nhxParents := qM Qy
 have nhxRules := qM XN
 clear Qy XN
 have C : Chg (jW ++ QL) w w := Chg.refl _ _
 have N : ([jW, QL] : List (List Nat)).flatten.Nodup := by simpa using nd
 refine qm (qA ?_)
 refine sw (o_box H (.agg #[.int .i64 x.qH, .slice zH x.qf.length zG, .slice jf x.qg.length je]) rfl fun b1 w2 H => ?_)
 replace H : St _ _ [.box b1 [.int .i64 x.qH, .slice zH x.qf.length zG, .slice jf x.qg.length je] 36] _ := H
 refine sp (.int .i64 0) ?_
 refine qx (t_n (qm (qA ?_)))
 refine sw (qN b1 (0) 1 Tryz.underlying36 rfl rfl Tryz.sizeOf22 rfl ?_)
 refine sw (qE (.slice zH x.qf.length zG) Tryz.isAgg22 rfl (H.cell 0 rfl rfl) ?_)
 refine sp (.int .i64 kk) ?_
 refine sw (Xr #[.slice zH x.qf.length zG, .int .i64 kk] rfl rfl Tryz.call28 (Qe w2 x.qf kk zH zG jW (H.get 0 rfl).1 (QE N 0 rfl) ((H.get 0 rfl).2 rfl) (by omega) (by omega)) ?_)
 rintro _ w3 ⟨rfl, m7⟩ x5
 obtain ⟨W4, C6, H⟩ := H.chgAt N 0 rfl (isF true jW (.slice zH x.qf.length zG) (mrk x.qf kk)) rfl x5 m7
 replace C := C.trans (C6.mono (by intro z hz; have hz : z ∈ jW := hz; simp [hz]))
 replace H : St _ _ _ [isF true jW (.slice zH x.qf.length zG) (mrk x.qf kk), isF true QL (.slice jf x.qg.length je) x.qg] := H
 refine sp (.int .i64 (kk + (cnt x.qf : Nat))) ?_
 refine qx (t_n (qm (qA ?_)))
 refine sw (qN b1 (0) 2 Tryz.underlying36 rfl rfl Tryz.sizeOf34 rfl ?_)
 refine sw (qE (.slice jf x.qg.length je) Tryz.isAgg34 rfl (H.cell 0 rfl rfl) ?_)
 refine sp (.int .i64 (kk + (cnt x.qf : Nat))) ?_
 refine sw (Xr #[.slice jf x.qg.length je, .int .i64 (kk + (cnt x.qf : Nat))] rfl rfl Tryz.call57 (markRuleS_ok w3 x.qg (kk + (cnt x.qf : Nat)) jf je QL (H.get 1 rfl).1 (QE N 1 rfl) ((H.get 1 rfl).2 rfl) (by omega) (by omega)) ?_)
 rintro _ w8 ⟨rfl, m12⟩ x10
 obtain ⟨W9, C11, H⟩ := H.chgAt N 1 rfl (isF true QL (.slice jf x.qg.length je) (mrk x.qg (kk + (cnt x.qf : Nat)))) rfl x10 m12
 replace C := C.trans (C11.mono (by intro z hz; have hz : z ∈ QL := hz; simp [hz]))
 replace H : St _ _ _ [isF true jW (.slice zH x.qf.length zG) (mrk x.qf kk), isF true QL (.slice jf x.qg.length je) (mrk x.qg (kk + (cnt x.qf : Nat)))] := H
 refine sp (.int .i64 (kk + (cnt x.qf : Nat) + (cnt x.qg : Nat))) ?_
 refine qx (t_n (qm (qA ?_)))
 refine sps [.int .i64 (kk + (cnt x.qf : Nat) + (cnt x.qg : Nat)), .int .i64 (kk + (cnt x.qf : Nat) + (cnt x.qg : Nat))] ?_
 refine qx (t_n (xB ?_))
 simp_all
 refine ret1 (.int .i64 (kk + (cnt x.qf : Nat) + (cnt x.qg : Nat))) rfl rfl ⟨_, rfl, ⟨?_, H.get 0 rfl, H.get 1 rfl⟩, C.trans (Chg.ofExt H.base)⟩
 first | rfl | (refine congrArg (Value.int .i64) ?_; rw [cnt_list]; omega)

theorem markState_ok (w : World) (x : qU) (kk : Int) (vF : Option Addr) (vC : Nat) (Qr : List Nat) (jB : Option Addr) (jA : Nat) (Q9 : List Nat) (zF : Option Addr) (zD : Nat) (yc : List Nat) (Q3 : qQ.rep w Qr [.slice vF x.qh.length vC] x.qh) (X7 : qQ.rep w Q9 [.slice jB x.qo.length jA] x.qo) (Qu : qQ.rep w yc [.slice zF x.ql.length zD] x.ql) (nd : (Qr ++ Q9 ++ yc).Nodup) (fr : vw w (Qr ++ Q9 ++ yc)) (p0 : 0 ≤ kk) (p1 : kk + (cnt x.qh : Nat) + (cnt x.qo : Nat) + (cnt x.ql : Nat) ≤ 4611686018427387904) : Calls Tryz.prog 18 #[.agg #[.slice vF x.qh.length vC, .slice jB x.qo.length jA, .slice zF x.ql.length zD], .int .i64 kk] w (RetM (fun v w' => v = .int .i64 (kk + (cnt x.qh : Nat) + (cnt x.qo : Nat) + (cnt x.ql : Nat)) ∧ (isF true Qr (.slice vF x.qh.length vC) (mrk x.qh kk)).φ w' ∧ (isF true Q9 (.slice jB x.qo.length jA) (mrk x.qo (kk + (cnt x.qh : Nat)))).φ w' ∧ (isF true yc (.slice zF x.ql.length zD) (mrk x.ql (kk + (cnt x.qh : Nat) + (cnt x.qo : Nat)))).φ w') (Qr ++ Q9 ++ yc) w) := by
 refine enter (n := 18) Tryz.func18 rfl Tryz.ntmps18 (Nat.le_of_ble_eq_true rfl) ?_
 have H := St.start w
 replace H := H.add (isF true yc (.slice zF x.ql.length zD) x.ql) ⟨Qu, fun _ => fr.sub (by intro z hz; simp [hz])⟩ (start_lt Qu)
 replace H := H.add (isF true Q9 (.slice jB x.qo.length jA) x.qo) ⟨X7, fun _ => fr.sub (by intro z hz; simp [hz])⟩ (start_lt X7)
 replace H := H.add (isF true Qr (.slice vF x.qh.length vC) x.qh) ⟨Q3, fun _ => fr.sub (by intro z hz; simp [hz])⟩ (start_lt Q3)
 have nhxAlive := qM Q3
 have nhxBags := qM X7
 have nhxAround := qM Qu
 clear Q3 X7 Qu
 have C : Chg (Qr ++ Q9 ++ yc) w w := Chg.refl _ _
 have N : ([Qr, Q9, yc] : List (List Nat)).flatten.Nodup := by simpa using nd
 refine qm (qA ?_)
 refine sw (o_box H (.agg #[.slice vF x.qh.length vC, .slice jB x.qo.length jA, .slice zF x.ql.length zD]) rfl fun b1 w2 H => ?_)
 replace H : St _ _ [.box b1 [.slice vF x.qh.length vC, .slice jB x.qo.length jA, .slice zF x.ql.length zD] 38] _ := H
 refine sp (.int .i64 0) ?_
 refine qx (t_n (qm (qA ?_)))
 refine sw (qN b1 (0) 0 Tryz.underlying38 rfl rfl Tryz.sizeOf26 rfl ?_)
 refine sw (qE (.slice vF x.qh.length vC) Tryz.isAgg26 rfl (H.cell 0 rfl rfl) ?_)
 refine sp (.int .i64 kk) ?_
 refine sw (Xr #[.slice vF x.qh.length vC, .int .i64 kk] rfl rfl Tryz.call58 (markBoolS_ok w2 x.qh kk vF vC Qr (H.get 0 rfl).1 (QE N 0 rfl) ((H.get 0 rfl).2 rfl) (by omega) (by omega)) ?_)
 rintro _ w3 ⟨rfl, m7⟩ x5
 obtain ⟨W4, C6, H⟩ := H.chgAt N 0 rfl (isF true Qr (.slice vF x.qh.length vC) (mrk x.qh kk)) rfl x5 m7
 replace C := C.trans (C6.mono (by intro z hz; have hz : z ∈ Qr := hz; simp [hz]))
 replace H : St _ _ _ [isF true Qr (.slice vF x.qh.length vC) (mrk x.qh kk), isF true Q9 (.slice jB x.qo.length jA) x.qo, isF true yc (.slice zF x.ql.length zD) x.ql] := H
 refine sp (.int .i64 (kk + (cnt x.qh : Nat))) ?_
 refine qx (t_n (qm (qA ?_)))
 refine sw (qN b1 (0) 1 Tryz.underlying38 rfl rfl Tryz.sizeOf27 rfl ?_)
 refine sw (qE (.slice jB x.qo.length jA) Tryz.isAgg27 rfl (H.cell 0 rfl rfl) ?_)
 refine sp (.int .i64 (kk + (cnt x.qh : Nat))) ?_
 refine sw (Xr #[.slice jB x.qo.length jA, .int .i64 (kk + (cnt x.qh : Nat))] rfl rfl Tryz.call19 (markInt64SS_ok w3 x.qo (kk + (cnt x.qh : Nat)) jB jA Q9 (H.get 1 rfl).1 (QE N 1 rfl) ((H.get 1 rfl).2 rfl) (by omega) (by omega)) ?_)
 rintro _ w8 ⟨rfl, m12⟩ x10
 obtain ⟨W9, C11, H⟩ := H.chgAt N 1 rfl (isF true Q9 (.slice jB x.qo.length jA) (mrk x.qo (kk + (cnt x.qh : Nat)))) rfl x10 m12
 replace C := C.trans (C11.mono (by intro z hz; have hz : z ∈ Q9 := hz; simp [hz]))
 replace H : St _ _ _ [isF true Qr (.slice vF x.qh.length vC) (mrk x.qh kk), isF true Q9 (.slice jB x.qo.length jA) (mrk x.qo (kk + (cnt x.qh : Nat))), isF true yc (.slice zF x.ql.length zD) x.ql] := H
 refine sp (.int .i64 (kk + (cnt x.qh : Nat) + (cnt x.qo : Nat))) ?_
 refine qx (t_n (qm (qA ?_)))
 refine sw (qN b1 (0) 2 Tryz.underlying38 rfl rfl Tryz.sizeOf22 rfl ?_)
 refine sw (qE (.slice zF x.ql.length zD) Tryz.isAgg22 rfl (H.cell 0 rfl rfl) ?_)
 refine sp (.int .i64 (kk + (cnt x.qh : Nat) + (cnt x.qo : Nat))) ?_
 refine sw (Xr #[.slice zF x.ql.length zD, .int .i64 (kk + (cnt x.qh : Nat) + (cnt x.qo : Nat))] rfl rfl Tryz.call28 (Qe w8 x.ql (kk + (cnt x.qh : Nat) + (cnt x.qo : Nat)) zF zD yc (H.get 2 rfl).1 (QE N 2 rfl) ((H.get 2 rfl).2 rfl) (by omega) (by omega)) ?_)
 rintro _ w13 ⟨rfl, m17⟩ x15
 obtain ⟨W14, C16, H⟩ := H.chgAt N 2 rfl (isF true yc (.slice zF x.ql.length zD) (mrk x.ql (kk + (cnt x.qh : Nat) + (cnt x.qo : Nat)))) rfl x15 m17
 replace C := C.trans (C16.mono (by intro z hz; have hz : z ∈ yc := hz; simp [hz]))
 replace H : St _ _ _ [isF true Qr (.slice vF x.qh.length vC) (mrk x.qh kk), isF true Q9 (.slice jB x.qo.length jA) (mrk x.qo (kk + (cnt x.qh : Nat))), isF true yc (.slice zF x.ql.length zD) (mrk x.ql (kk + (cnt x.qh : Nat) + (cnt x.qo : Nat)))] := H
 refine sp (.int .i64 (kk + (cnt x.qh : Nat) + (cnt x.qo : Nat) + (cnt x.ql : Nat))) ?_
 refine qx (t_n (qm (qA ?_)))
 refine sps [.int .i64 (kk + (cnt x.qh : Nat) + (cnt x.qo : Nat) + (cnt x.ql : Nat)), .int .i64 (kk + (cnt x.qh : Nat) + (cnt x.qo : Nat) + (cnt x.ql : Nat))] ?_
 refine qx (t_n (xB ?_))
 simp_all
 refine ret1 (.int .i64 (kk + (cnt x.qh : Nat) + (cnt x.qo : Nat) + (cnt x.ql : Nat))) rfl rfl ⟨_, rfl, ⟨?_, H.get 0 rfl, H.get 1 rfl, H.get 2 rfl⟩, C.trans (Chg.ofExt H.base)⟩
 first | rfl | (refine congrArg (Value.int .i64) ?_; rw [cnt_list]; omega)

theorem heldInt64S_ok (w : World) (x : List Int) (kk : Int) (ax : Option Addr) (cx : Nat) (Fx : List Nat) (hx : qQ.rep w Fx [.slice ax x.length cx] x) (m : mkd x kk) (p0 : 0 ≤ kk) (p1 : kk + (cnt x : Nat) ≤ 4611686018427387904) : Calls Tryz.prog 59 #[.slice ax x.length cx, .int .i64 kk] w (Ret (fun v w' => v = .int .i64 (kk + (cnt x : Nat))) w) := by
 refine enter (n := 21) Tryz.func59 rfl Tryz.ntmps59 (Nat.le_of_ble_eq_true rfl) ?_
 have H := (St.start w).arg hx
 have nhx := qM hx
 clear hx
 refine qm (qA ?_)
 refine sp (.int .i64 0) ?_
 refine qx (t_n (qm (qm (qA ?_))))
 refine sp (.int .i64 0) ?_
 refine qx (t_n (xE ?_))
 refine zX (fun m' ρ w1 => ∃ (junk : Env) (k : Nat) (r : Int), ρ = upd (upd (upd junk 0 (.slice ax x.length cx)) 1 (.int .i64 r)) 5 (.int .i64 k) ∧ (k ≤ x.length) ∧ (r = kk + (XZ x k : Nat)) ∧ m' = x.length - k ∧ St w w1 [] [isF false Fx (.slice ax x.length cx) x]) (x.length - 0) ⟨_, 0, kk, (by exact qj (qj (qj (rfl) rfl) rfl) rfl), (by omega), (by exact (Int.add_zero _).symm), rfl, H⟩ ?_
 clear H
 rintro m' ρ w2 ⟨junk, k, r, rfl, i0, i1, rfl, H⟩
 have hc := fun h => cnt_get (l := x) (k := k) h
 refine qm (qm (qA ?_))
 refine sps [.int .i64 k, .slice ax x.length cx] ?_
 refine sw (zZ Tryz.underlying22 ax x.length cx rfl ?_)
 refine sp (.bool (decide ((k : Int) < x.length))) ?_
 refine qx (t_n ?_)
 refine qW (decide ((k : Int) < x.length)) rfl (fun h3 => ?_) (fun h3 => ?_)
 ·skip
  replace h3 := of_decide_eq_true h3
  have m0 := m k (by omega)
  rw [← i1] at m0
  replace m0 : x[k]! = r := m0
  refine xu (t_n (qm (xE (qm (qm (qA ?_))))))
  refine sps [.slice ax x.length cx, .int .i64 k] ?_
  obtain ⟨b4, o5, rfl⟩ := H.addr 0 rfl (by omega)
  refine sw (xJ k Tryz.underlying22 ti2 rfl rfl (by omega) (by omega) ?_)
  refine sw (qE (.int .i64 (x[k]!)) Tryz.isAgg2 rfl (H.ja 0 rfl k (by omega) (by omega)) ?_)
  refine sps [.int .i64 r, .bool ((x[k]! : Int) != r)] ?_
  refine qx (t_n ?_)
  refine qW ((x[k]! : Int) != r) rfl (fun h6 => ?_) (fun h6 => ?_)
  ·skip
   replace h6 := bne_iff_ne.1 h6
   refine qm (qA ?_)
   refine sp (.int .i64 (-1)) ?_
   refine qx (t_n (xB (t_r (b_r (t_r (t_r (b_r (t_r ?_))))))))
   refine ret1 (.int .i64 (-1)) rfl rfl ⟨_, rfl, ?_, H.base⟩
   exfalso; first | omega | (exact absurd ‹_› ‹¬ _›) | simp_all
  replace h6 := xR h6
  refine xu (t_n (qA ?_))
  refine sp (.int .i64 r) ?_
  refine sw (vg r 1 rfl rfl (by (have := hc (by omega); have e : cnt (x[k]!) = 1 := rfl; omega)) ?_)
  refine sp (.int .i64 (r + 1)) ?_
  refine qx (b_n (t_n (qA ?_)))
  refine sp (.int .i64 k) ?_
  refine sw (vg k 1 rfl rfl (by (have := hc (by omega); have e : cnt (x[k]!) = 1 := rfl; omega)) ?_)
  refine sp (.int .i64 (k + 1)) ?_
  refine qx ?_
  refine xH (m' := x.length - (k + 1)) (by omega) ⟨_, k + 1, r + 1, (by exact qj (qj (qj (rfl) rfl) rfl) rfl), ?_, ?_, rfl, H⟩
  · omega
  · rw [yR]; have e : cnt (x[k]!) = 1 := rfl; omega
 replace h3 := of_decide_eq_false h3
 refine zU (t_x (t_x (b_x (t_n (qm (qA ?_))))))
 refine sps [.int .i64 r, .int .i64 r] ?_
 refine qx (t_n (xB ?_))
 refine ret1 (.int .i64 r) rfl rfl ⟨_, rfl, ?_, H.base⟩
 first | rfl | (refine congrArg (Value.int .i64) ?_; obtain rfl : k = x.length := (by omega); exact i1)

theorem heldBoolS_ok (w : World) (x : List Bool) (kk : Int) (ax : Option Addr) (cx : Nat) (Fx : List Nat) (hx : qQ.rep w Fx [.slice ax x.length cx] x) (m : mkd x kk) (p0 : 0 ≤ kk) (p1 : kk + (cnt x : Nat) ≤ 4611686018427387904) : Calls Tryz.prog 68 #[.slice ax x.length cx, .int .i64 kk] w (Ret (fun v w' => v = .int .i64 (kk + (cnt x : Nat))) w) := by
 refine enter (n := 23) Tryz.func68 rfl Tryz.ntmps68 (Nat.le_of_ble_eq_true rfl) ?_
 have H := (St.start w).arg hx
 have nhx := qM hx
 clear hx
 refine qm (qA ?_)
 refine sp (.int .i64 0) ?_
 refine qx (t_n (qm (qm (qA ?_))))
 refine sp (.int .i64 0) ?_
 refine qx (t_n (xE ?_))
 refine zX (fun m' ρ w1 => ∃ (junk : Env) (k : Nat) (r : Int), ρ = upd (upd (upd junk 0 (.slice ax x.length cx)) 1 (.int .i64 r)) 5 (.int .i64 k) ∧ (k ≤ x.length) ∧ (r = kk + (XZ x k : Nat)) ∧ m' = x.length - k ∧ St w w1 [] [isF false Fx (.slice ax x.length cx) x]) (x.length - 0) ⟨_, 0, kk, (by exact qj (qj (qj (rfl) rfl) rfl) rfl), (by omega), (by exact (Int.add_zero _).symm), rfl, H⟩ ?_
 clear H
 rintro m' ρ w2 ⟨junk, k, r, rfl, i0, i1, rfl, H⟩
 have hc := fun h => cnt_get (l := x) (k := k) h
 refine qm (qm (qA ?_))
 refine sps [.int .i64 k, .slice ax x.length cx] ?_
 refine sw (zZ Tryz.underlying26 ax x.length cx rfl ?_)
 refine sp (.bool (decide ((k : Int) < x.length))) ?_
 refine qx (t_n ?_)
 refine qW (decide ((k : Int) < x.length)) rfl (fun h3 => ?_) (fun h3 => ?_)
 ·skip
  replace h3 := of_decide_eq_true h3
  have m0 := m k (by omega)
  rw [← i1] at m0
  replace m0 : x[k]! = (r % 3 == 0) := m0
  refine xu (t_n (qm (xE (qm (qm (qA ?_))))))
  refine sps [.slice ax x.length cx, .int .i64 k] ?_
  obtain ⟨b4, o5, rfl⟩ := H.addr 0 rfl (by omega)
  refine sw (xJ k Tryz.underlying26 ti4 rfl rfl (by omega) (by omega) ?_)
  refine sw (qE (.bool (x[k]!)) Tryz.isAgg4 rfl (H.QT 0 rfl k (by omega) (by omega)) ?_)
  refine sp (.int .i64 r) ?_
  refine sw (o_rem r 3 rfl rfl (by (have := hc (by omega); have e : cnt (x[k]!) = 1 := rfl; omega)) (by omega) (by (have := hc (by omega); have e : cnt (x[k]!) = 1 := rfl; omega)) ?_)
  refine sp (.bool ((r % 3 : Int) == 0)) ?_
  refine sw (o_neB Tryz.underlying4 (x[k]!) ((r % 3 : Int) == 0) rfl rfl ?_)
  refine qx (t_n ?_)
  refine qW ((x[k]!) != ((r % 3 : Int) == 0)) rfl (fun h6 => ?_) (fun h6 => ?_)
  ·skip
   replace h6 := bne_iff_ne.1 h6
   refine qm (qA ?_)
   refine sp (.int .i64 (-1)) ?_
   refine qx (t_n (xB (t_r (b_r (t_r (t_r (b_r (t_r ?_))))))))
   refine ret1 (.int .i64 (-1)) rfl rfl ⟨_, rfl, ?_, H.base⟩
   exfalso; first | omega | (exact absurd ‹_› ‹¬ _›) | simp_all
  replace h6 := xR h6
  refine xu (t_n (qA ?_))
  refine sp (.int .i64 r) ?_
  refine sw (vg r 1 rfl rfl (by (have := hc (by omega); have e : cnt (x[k]!) = 1 := rfl; omega)) ?_)
  refine sp (.int .i64 (r + 1)) ?_
  refine qx (b_n (t_n (qA ?_)))
  refine sp (.int .i64 k) ?_
  refine sw (vg k 1 rfl rfl (by (have := hc (by omega); have e : cnt (x[k]!) = 1 := rfl; omega)) ?_)
  refine sp (.int .i64 (k + 1)) ?_
  refine qx ?_
  refine xH (m' := x.length - (k + 1)) (by omega) ⟨_, k + 1, r + 1, (by exact qj (qj (qj (rfl) rfl) rfl) rfl), ?_, ?_, rfl, H⟩
  · omega
  · rw [yR]; have e : cnt (x[k]!) = 1 := rfl; omega
 replace h3 := of_decide_eq_false h3
 refine zU (t_x (t_x (b_x (t_n (qm (qA ?_))))))
 refine sps [.int .i64 r, .int .i64 r] ?_
 refine qx (t_n (xB ?_))
 refine ret1 (.int .i64 r) rfl rfl ⟨_, rfl, ?_, H.base⟩
 first | rfl | (refine congrArg (Value.int .i64) ?_; obtain rfl : k = x.length := (by omega); exact i1)

theorem heldInt64SS_ok (w : World) (x : List (List Int)) (kk : Int) (ax : Option Addr) (cx : Nat) (Fx : List Nat) (hx : qQ.rep w Fx [.slice ax x.length cx] x) (m : mkd x kk) (p0 : 0 ≤ kk) (p1 : kk + (cnt x : Nat) ≤ 4611686018427387904) : Calls Tryz.prog 20 #[.slice ax x.length cx, .int .i64 kk] w (Ret (fun v w' => v = .int .i64 (kk + (cnt x : Nat))) w) := by
 refine enter (n := 21) Tryz.func20 rfl Tryz.ntmps20 (Nat.le_of_ble_eq_true rfl) ?_
 have H := (St.start w).arg hx
 have nhx := qM hx
 clear hx
 refine qm (qA ?_)
 refine sp (.int .i64 0) ?_
 refine qx (t_n (qm (qm (qA ?_))))
 refine sp (.int .i64 0) ?_
 refine qx (t_n (xE ?_))
 refine zX (fun m' ρ w1 => ∃ (junk : Env) (k : Nat) (r : Int), ρ = upd (upd (upd junk 0 (.slice ax x.length cx)) 1 (.int .i64 r)) 5 (.int .i64 k) ∧ (k ≤ x.length) ∧ (r = kk + (XZ x k : Nat)) ∧ m' = x.length - k ∧ St w w1 [] [isF false Fx (.slice ax x.length cx) x]) (x.length - 0) ⟨_, 0, kk, (by exact qj (qj (qj (rfl) rfl) rfl) rfl), (by omega), (by exact (Int.add_zero _).symm), rfl, H⟩ ?_
 clear H
 rintro m' ρ w2 ⟨junk, k, r, rfl, i0, i1, rfl, H⟩
 have hc := fun h => cnt_get (l := x) (k := k) h
 refine qm (qm (qA ?_))
 refine sps [.int .i64 k, .slice ax x.length cx] ?_
 refine sw (zZ Tryz.underlying27 ax x.length cx rfl ?_)
 refine sp (.bool (decide ((k : Int) < x.length))) ?_
 refine qx (t_n ?_)
 refine qW (decide ((k : Int) < x.length)) rfl (fun h3 => ?_) (fun h3 => ?_)
 ·skip
  replace h3 := of_decide_eq_true h3
  have m0 := m k (by omega)
  rw [← i1] at m0
  refine xu (t_n (qm (xE (qm (qA ?_)))))
  refine sps [.slice ax x.length cx, .int .i64 k] ?_
  obtain ⟨b4, o5, rfl⟩ := H.addr 0 rfl (by omega)
  obtain ⟨ae6, ce6, Fe6, H⟩ := H.Qg 0 rfl k k (by omega) (by omega) (by omega)
  refine sw (xJ k Tryz.underlying27 ti22 rfl rfl (by omega) (by omega) ?_)
  refine sw (qE (.slice ae6 ((x[k]!).length) ce6) Tryz.isAgg22 rfl (H.zh 1 rfl 0 rfl) ?_)
  refine sp (.int .i64 r) ?_
  refine sw (xe #[.slice ae6 ((x[k]!).length) ce6, .int .i64 r] rfl rfl Tryz.call59 (heldInt64S_ok w2 (x[k]!) r ae6 ce6 Fe6 (H.get 0 rfl).1 (by assumption) (by (have := hc (by omega); skip; omega)) (by (have := hc (by omega); skip; omega))) ?_)
  rintro _ w7 rfl x8
  replace H := H.ext x8
  refine sp (.int .i64 (r + (cnt (x[k]!) : Nat))) ?_
  refine qx (t_n (qm (qA ?_)))
  refine sps [.int .i64 (r + (cnt (x[k]!) : Nat)), .bool (decide ((r + (cnt (x[k]!) : Nat) : Int) < 0))] ?_
  refine qx (t_n ?_)
  refine qW (decide ((r + (cnt (x[k]!) : Nat) : Int) < 0)) rfl (fun h9 => ?_) (fun h9 => ?_)
  ·skip
   replace h9 := of_decide_eq_true h9
   refine qm (qA ?_)
   refine sp (.int .i64 (-1)) ?_
   refine qx (t_n (xB (b_r (t_r (t_r (b_r (t_r ?_)))))))
   refine ret1 (.int .i64 (-1)) rfl rfl ⟨_, rfl, ?_, H.base⟩
   exfalso; first | omega | (exact absurd ‹_› ‹¬ _›) | simp_all
  replace h9 := of_decide_eq_false h9
  refine xu (b_n (t_n (qA ?_)))
  refine sp (.int .i64 k) ?_
  refine sw (vg k 1 rfl rfl (by (have := hc (by omega); skip; omega)) ?_)
  refine sp (.int .i64 (k + 1)) ?_
  refine qx ?_
  refine xH (m' := x.length - (k + 1)) (by omega) ⟨_, k + 1, r + (cnt (x[k]!) : Nat), (by exact qj (qj (qj (rfl) rfl) rfl) rfl), ?_, ?_, rfl, H.sel _ (.refl _) _ (by simp)⟩
  · omega
  · rw [yR]; skip; omega
 replace h3 := of_decide_eq_false h3
 refine zU (t_x (t_x (b_x (t_n (qm (qA ?_))))))
 refine sps [.int .i64 r, .int .i64 r] ?_
 refine qx (t_n (xB ?_))
 refine ret1 (.int .i64 r) rfl rfl ⟨_, rfl, ?_, H.base⟩
 first | rfl | (refine congrArg (Value.int .i64) ?_; obtain rfl : k = x.length := (by omega); exact i1)

theorem heldState_ok (w : World) (x : qU) (kk : Int) (vF : Option Addr) (vC : Nat) (Qr : List Nat) (jB : Option Addr) (jA : Nat) (Q9 : List Nat) (zF : Option Addr) (zD : Nat) (yc : List Nat) (Q3 : qQ.rep w Qr [.slice vF x.qh.length vC] x.qh) (X7 : qQ.rep w Q9 [.slice jB x.qo.length jA] x.qo) (Qu : qQ.rep w yc [.slice zF x.ql.length zD] x.ql) (m0 : mkd x.qh (kk)) (m1 : mkd x.qo (kk + (cnt x.qh : Nat))) (m2 : mkd x.ql (kk + (cnt x.qh : Nat) + (cnt x.qo : Nat))) (p0 : 0 ≤ kk) (p1 : kk + (cnt x.qh : Nat) + (cnt x.qo : Nat) + (cnt x.ql : Nat) ≤ 4611686018427387904) : Calls Tryz.prog 23 #[.agg #[.slice vF x.qh.length vC, .slice jB x.qo.length jA, .slice zF x.ql.length zD], .int .i64 kk] w (Ret (fun v w' => v = .int .i64 (kk + (cnt x.qh : Nat) + (cnt x.qo : Nat) + (cnt x.ql : Nat))) w) := by
 refine enter (n := 24) Tryz.func23 rfl Tryz.ntmps23 (Nat.le_of_ble_eq_true rfl) ?_
 have H := (((St.start w).arg Qu).arg X7).arg Q3
 have nhxAlive := qM Q3
 have nhxBags := qM X7
 have nhxAround := qM Qu
 clear Q3 X7 Qu
 refine qm (qA ?_)
 refine sw (o_box H (.agg #[.slice vF x.qh.length vC, .slice jB x.qo.length jA, .slice zF x.ql.length zD]) rfl fun b1 w2 H => ?_)
 replace H : St _ _ [.box b1 [.slice vF x.qh.length vC, .slice jB x.qo.length jA, .slice zF x.ql.length zD] 38] _ := H
 refine sp (.int .i64 0) ?_
 refine qx (t_n (qm (qA ?_)))
 refine sw (qN b1 (0) 0 Tryz.underlying38 rfl rfl Tryz.sizeOf26 rfl ?_)
 refine sw (qE (.slice vF x.qh.length vC) Tryz.isAgg26 rfl (H.cell 0 rfl rfl) ?_)
 refine sp (.int .i64 kk) ?_
 refine sw (xe #[.slice vF x.qh.length vC, .int .i64 kk] rfl rfl Tryz.call68 (heldBoolS_ok w2 x.qh kk vF vC Qr (H.get 0 rfl).1 (by assumption) (by omega) (by omega)) ?_)
 rintro _ w3 rfl x4
 replace H := H.ext x4
 refine sp (.int .i64 (kk + (cnt x.qh : Nat))) ?_
 refine qx (t_n (qm (qm (qA ?_))))
 refine sps [.int .i64 (kk + (cnt x.qh : Nat)), .bool (decide ((kk + (cnt x.qh : Nat) : Int) < 0))] ?_
 refine qx (t_n ?_)
 refine qW (decide ((kk + (cnt x.qh : Nat) : Int) < 0)) rfl (fun h5 => ?_) (fun h5 => ?_)
 ·skip
  replace h5 := of_decide_eq_true h5
  refine qm (qA ?_)
  refine sp (.int .i64 (-1)) ?_
  refine qx (t_n (xB (t_r ?_)))
  refine ret1 (.int .i64 (-1)) rfl rfl ⟨_, rfl, ?_, H.base⟩
  exfalso; omega
 replace h5 := of_decide_eq_false h5
 refine xu (t_n (qm (qA ?_)))
 refine sw (qN b1 (0) 1 Tryz.underlying38 rfl rfl Tryz.sizeOf27 rfl ?_)
 refine sw (qE (.slice jB x.qo.length jA) Tryz.isAgg27 rfl (H.cell 0 rfl rfl) ?_)
 refine sp (.int .i64 (kk + (cnt x.qh : Nat))) ?_
 refine sw (xe #[.slice jB x.qo.length jA, .int .i64 (kk + (cnt x.qh : Nat))] rfl rfl Tryz.call20 (heldInt64SS_ok w3 x.qo (kk + (cnt x.qh : Nat)) jB jA Q9 (H.get 1 rfl).1 (by assumption) (by omega) (by omega)) ?_)
 rintro _ w6 rfl x7
 replace H := H.ext x7
 refine sp (.int .i64 ((kk + (cnt x.qh : Nat)) + (cnt x.qo : Nat))) ?_
 refine qx (t_n (qm (qm (qA ?_))))
 refine sps [.int .i64 ((kk + (cnt x.qh : Nat)) + (cnt x.qo : Nat)), .bool (decide (((kk + (cnt x.qh : Nat)) + (cnt x.qo : Nat) : Int) < 0))] ?_
 refine qx (t_n ?_)
 refine qW (decide (((kk + (cnt x.qh : Nat)) + (cnt x.qo : Nat) : Int) < 0)) rfl (fun h8 => ?_) (fun h8 => ?_)
 ·skip
  replace h8 := of_decide_eq_true h8
  refine qm (qA ?_)
  refine sp (.int .i64 (-1)) ?_
  refine qx (t_n (xB (t_r ?_)))
  refine ret1 (.int .i64 (-1)) rfl rfl ⟨_, rfl, ?_, H.base⟩
  exfalso; omega
 replace h8 := of_decide_eq_false h8
 refine xu (t_n (qm (qA ?_)))
 refine sw (qN b1 (0) 2 Tryz.underlying38 rfl rfl Tryz.sizeOf22 rfl ?_)
 refine sw (qE (.slice zF x.ql.length zD) Tryz.isAgg22 rfl (H.cell 0 rfl rfl) ?_)
 refine sp (.int .i64 ((kk + (cnt x.qh : Nat)) + (cnt x.qo : Nat))) ?_
 refine sw (xe #[.slice zF x.ql.length zD, .int .i64 ((kk + (cnt x.qh : Nat)) + (cnt x.qo : Nat))] rfl rfl Tryz.call59 (heldInt64S_ok w6 x.ql ((kk + (cnt x.qh : Nat)) + (cnt x.qo : Nat)) zF zD yc (H.get 2 rfl).1 (by assumption) (by omega) (by omega)) ?_)
 rintro _ w9 rfl x10
 replace H := H.ext x10
 refine sp (.int .i64 (((kk + (cnt x.qh : Nat)) + (cnt x.qo : Nat)) + (cnt x.ql : Nat))) ?_
 refine qx (t_n (qm (qm (qA ?_))))
 refine sps [.int .i64 (((kk + (cnt x.qh : Nat)) + (cnt x.qo : Nat)) + (cnt x.ql : Nat)), .bool (decide ((((kk + (cnt x.qh : Nat)) + (cnt x.qo : Nat)) + (cnt x.ql : Nat) : Int) < 0))] ?_
 refine qx (t_n ?_)
 refine qW (decide ((((kk + (cnt x.qh : Nat)) + (cnt x.qo : Nat)) + (cnt x.ql : Nat) : Int) < 0)) rfl (fun h11 => ?_) (fun h11 => ?_)
 ·skip
  replace h11 := of_decide_eq_true h11
  refine qm (qA ?_)
  refine sp (.int .i64 (-1)) ?_
  refine qx (t_n (xB (t_r ?_)))
  refine ret1 (.int .i64 (-1)) rfl rfl ⟨_, rfl, ?_, H.base⟩
  exfalso; omega
 replace h11 := of_decide_eq_false h11
 refine xu (t_n (qm (qA ?_)))
 refine sps [.int .i64 (((kk + (cnt x.qh : Nat)) + (cnt x.qo : Nat)) + (cnt x.ql : Nat)), .int .i64 (((kk + (cnt x.qh : Nat)) + (cnt x.qo : Nat)) + (cnt x.ql : Nat))] ?_
 refine qx (t_n (xB ?_))
 refine ret1 (.int .i64 (((kk + (cnt x.qh : Nat)) + (cnt x.qo : Nat)) + (cnt x.ql : Nat))) rfl rfl ⟨_, rfl, ?_, H.base⟩
 rfl

end Go.Proofs.YtkmlihdacnfhdaaGreat
