/- Walks, printed by program (wip/tools/gv.py): what each function comes to, for all arguments. -/
import Derived.Test.YtkmlihdacnfhdaaT1
namespace Go.Proofs.Ytkmlihdacnfhdaa
open Go.Proofs.Ytkmlihdacnfhdaa.Tot (tot)
open Go.Proofs.Ytkmlihdacnfhdaa.Mark (cnt mrk mkd mkd_mark cnt_mark)
open Go.RowKit
set_option linter.unusedVariables false
set_option linter.unusedSimpArgs false
set_option maxRecDepth 100000
set_option maxHeartbeats 4000000



theorem markInt64S_ok (w : World) (x : List Int) (kk : Int) (ax : Option Addr) (cx : Nat) (Fx : List Nat) (hx : GoRep.rep w Fx [.slice ax x.length cx] x) (nd : Fx.Nodup) (fr : FreeAll w Fx) (p0 : 0 ≤ kk) (p1 : kk + (cnt x : Nat) ≤ 4611686018427387904) : Calls Try.prog 47 #[.slice ax x.length cx, .int .i64 kk] w (RetM (fun v w' => v = .int .i64 (kk + (cnt x : Nat)) ∧ (isF true Fx (.slice ax x.length cx) (mrk x kk)).φ w') Fx w) := by
 refine enter (n := 19) Try.func47 rfl Try.ntmps47 (Nat.le_of_ble_eq_true rfl) ?_
 have H := St.start w
 replace H := H.add (isF true Fx (.slice ax x.length cx) x) ⟨hx, fun _ => fr.sub (by intro z hz; simp [hz])⟩ (start_lt hx)
 have nhx := rep_len hx
 clear hx
 have C : Chg Fx w w := Chg.refl _ _
 have N : ([Fx] : List (List Nat)).flatten.Nodup := by simpa using nd
 refine c_seq ?_
 refine c_reg ?_
 refine sp (.int .i64 0) ?_
 refine c_nil (t_n ?_)
 refine c_seq ?_
 refine c_seq ?_
 refine c_reg ?_
 refine sp (.int .i64 0) ?_
 refine c_nil (t_n ?_)
 refine c_block ?_
 replace H : St w w [] [isF true Fx (.slice ax x.length cx) (markTo x kk 0)] := by rw [markTo_zero]; exact H
 refine c_loop (fun m' ρ w1 => ∃ (junk : Env) (k : Nat) (r : Int) (W : World), ρ = upd (upd (upd (upd junk 0 (.slice ax x.length cx)) 1 (.int .i64 r)) 4 (.int .i64 0)) 5 (.int .i64 k) ∧ (k ≤ x.length) ∧ (r = kk + (cntTo x k : Nat)) ∧ (Chg Fx w W) ∧ m' = x.length - k ∧ St W w1 [] [isF true Fx (.slice ax x.length cx) (markTo x kk k)]) (x.length - 0) ⟨_, 0, kk, w, (by exact upd_eq (upd_eq (upd_eq (upd_eq (rfl) rfl) rfl) rfl) rfl), (by omega), (by exact (Int.add_zero _).symm), (by exact C), rfl, H⟩ ?_
 clear H
 rintro m' ρ w2 ⟨junk, k, r, W, rfl, i0, i1, C, rfl, H⟩
 have hc := fun h => cnt_get (l := x) (k := k) h
 refine c_seq ?_
 refine c_seq ?_
 refine c_reg ?_
 refine sp (.int .i64 k) ?_
 refine sp (.slice ax x.length cx) ?_
 refine sw (o_len Try.underlying22 ax x.length cx rfl ?_)
 refine sp (.bool (decide ((k : Int) < x.length))) ?_
 refine c_nil (t_n ?_)
 refine c_cond (decide ((k : Int) < x.length)) rfl (fun h3 => ?_) (fun h3 => ?_)
 ·skip
  replace h3 := of_decide_eq_true h3
  refine c_skip (t_n ?_)
  refine c_seq ?_
  refine c_block ?_
  refine c_seq ?_
  refine c_reg ?_
  refine sp (.slice ax x.length cx) ?_
  refine sp (.int .i64 k) ?_
  refine sp (.int .i64 r) ?_
  obtain ⟨b4, o5, rfl⟩ := H.addr 0 rfl (by rw [markTo_len _ _ (by omega)]; omega)
  obtain ⟨xs1, xs2, G1, G2, rfl, hx, H, N⟩ := H.open_Int nd k (by rw [markTo_len _ _ (by omega)]; omega) (markTo_get _ _ (by omega))
  refine sw (o_idxAt k Try.underlying22 ti2 rfl rfl (by omega) (by omega) ?_)
  refine sw (o_storeHole H N _ 0 hx (.int .i64 r) Try.sizeOf2 rfl rfl rfl (Nat.le_of_ble_eq_true rfl) fun w6 W7 C8 H => ?_)
  replace C := C.trans (C8.mono (hole_sub _ _ _ _))
  replace H : St _ _ _ [holeF b4 o5 xs1 [.int .i64 r] xs2 G1 G2 ((markTo x kk k).take k) ((markTo x kk k).drop (k + 1))] := H
  refine c_nil (t_n ?_)
  refine c_reg ?_
  refine sp (.int .i64 r) ?_
  refine sw (o_add r 1 rfl rfl (by (have := hc (by omega); have e : cnt (x[k]!) = 1 := rfl; omega)) ?_)
  refine sp (.int .i64 (r + 1)) ?_
  refine c_nil (b_n (t_n ?_))
  refine c_reg ?_
  refine sp (.int .i64 k) ?_
  refine sw (o_add k 1 rfl rfl (by (have := hc (by omega); have e : cnt (x[k]!) = 1 := rfl; omega)) ?_)
  refine sp (.int .i64 (k + 1)) ?_
  refine c_nil (?_)
  replace H := H.closeAt (y := mrk (x[k]!) r) (m := x.length) (c := cx) ⟨rfl, rfl⟩ (FreeAll.nil _) (by intro z hz; simp at hz) (markTo x kk (k + 1)) (by subst i1; exact markTo_step _ _ (by omega)) (markTo_len _ _ (by omega)) (by rw [markTo_len _ _ (by omega)]; exact nhx)
  refine loop_end (m' := x.length - (k + 1)) (by omega) ⟨_, k + 1, r + 1, W7, (by exact upd_eq (upd_eq (upd_eq (upd_eq (rfl) rfl) rfl) rfl) rfl), ?_, ?_, ?_, rfl, H⟩
  · omega
  · rw [cntTo_succ]; have e : cnt (x[k]!) = 1 := rfl; omega
  · exact C
 ·skip
  replace h3 := of_decide_eq_false h3
  refine c_exit (t_x (t_x (b_x (t_n ?_))))
  refine c_seq ?_
  refine c_reg ?_
  refine sp (.int .i64 r) ?_
  refine sp (.int .i64 r) ?_
  refine c_nil (t_n ?_)
  refine c_ret (?_)
  obtain rfl : k = x.length := by omega
  refine ret1 (.int .i64 r) rfl rfl ⟨_, rfl, ⟨?_, H.get 0 rfl⟩, C.trans (Chg.ofExt H.base)⟩
  first | rfl | (refine congrArg (Value.int .i64) ?_; rw [cnt_list]; omega)

theorem markBoolS_ok (w : World) (x : List Bool) (kk : Int) (ax : Option Addr) (cx : Nat) (Fx : List Nat) (hx : GoRep.rep w Fx [.slice ax x.length cx] x) (nd : Fx.Nodup) (fr : FreeAll w Fx) (p0 : 0 ≤ kk) (p1 : kk + (cnt x : Nat) ≤ 4611686018427387904) : Calls Try.prog 49 #[.slice ax x.length cx, .int .i64 kk] w (RetM (fun v w' => v = .int .i64 (kk + (cnt x : Nat)) ∧ (isF true Fx (.slice ax x.length cx) (mrk x kk)).φ w') Fx w) := by
 refine enter (n := 21) Try.func49 rfl Try.ntmps49 (Nat.le_of_ble_eq_true rfl) ?_
 have H := St.start w
 replace H := H.add (isF true Fx (.slice ax x.length cx) x) ⟨hx, fun _ => fr.sub (by intro z hz; simp [hz])⟩ (start_lt hx)
 have nhx := rep_len hx
 clear hx
 have C : Chg Fx w w := Chg.refl _ _
 have N : ([Fx] : List (List Nat)).flatten.Nodup := by simpa using nd
 refine c_seq ?_
 refine c_reg ?_
 refine sp (.int .i64 0) ?_
 refine c_nil (t_n ?_)
 refine c_seq ?_
 refine c_seq ?_
 refine c_reg ?_
 refine sp (.int .i64 0) ?_
 refine c_nil (t_n ?_)
 refine c_block ?_
 replace H : St w w [] [isF true Fx (.slice ax x.length cx) (markTo x kk 0)] := by rw [markTo_zero]; exact H
 refine c_loop (fun m' ρ w1 => ∃ (junk : Env) (k : Nat) (r : Int) (W : World), ρ = upd (upd (upd (upd junk 0 (.slice ax x.length cx)) 1 (.int .i64 r)) 4 (.int .i64 0)) 5 (.int .i64 k) ∧ (k ≤ x.length) ∧ (r = kk + (cntTo x k : Nat)) ∧ (Chg Fx w W) ∧ m' = x.length - k ∧ St W w1 [] [isF true Fx (.slice ax x.length cx) (markTo x kk k)]) (x.length - 0) ⟨_, 0, kk, w, (by exact upd_eq (upd_eq (upd_eq (upd_eq (rfl) rfl) rfl) rfl) rfl), (by omega), (by exact (Int.add_zero _).symm), (by exact C), rfl, H⟩ ?_
 clear H
 rintro m' ρ w2 ⟨junk, k, r, W, rfl, i0, i1, C, rfl, H⟩
 have hc := fun h => cnt_get (l := x) (k := k) h
 refine c_seq ?_
 refine c_seq ?_
 refine c_reg ?_
 refine sp (.int .i64 k) ?_
 refine sp (.slice ax x.length cx) ?_
 refine sw (o_len Try.underlying36 ax x.length cx rfl ?_)
 refine sp (.bool (decide ((k : Int) < x.length))) ?_
 refine c_nil (t_n ?_)
 refine c_cond (decide ((k : Int) < x.length)) rfl (fun h3 => ?_) (fun h3 => ?_)
 ·skip
  replace h3 := of_decide_eq_true h3
  refine c_skip (t_n ?_)
  refine c_seq ?_
  refine c_block ?_
  refine c_seq ?_
  refine c_reg ?_
  refine sp (.slice ax x.length cx) ?_
  refine sp (.int .i64 k) ?_
  refine sp (.int .i64 r) ?_
  refine sw (o_rem r 3 rfl rfl (by (have := hc (by omega); have e : cnt (x[k]!) = 1 := rfl; omega)) (by omega) (by (have := hc (by omega); have e : cnt (x[k]!) = 1 := rfl; omega)) ?_)
  refine sp (.bool ((r % 3 : Int) == 0)) ?_
  obtain ⟨b4, o5, rfl⟩ := H.addr 0 rfl (by rw [markTo_len _ _ (by omega)]; omega)
  obtain ⟨xs1, xs2, G1, G2, rfl, hx, H, N⟩ := H.open_Bool nd k (by rw [markTo_len _ _ (by omega)]; omega) (markTo_get _ _ (by omega))
  refine sw (o_idxAt k Try.underlying36 ti4 rfl rfl (by omega) (by omega) ?_)
  refine sw (o_storeHole H N _ 0 hx (.bool ((r % 3 : Int) == 0)) Try.sizeOf4 rfl rfl rfl (Nat.le_of_ble_eq_true rfl) fun w6 W7 C8 H => ?_)
  replace C := C.trans (C8.mono (hole_sub _ _ _ _))
  replace H : St _ _ _ [holeF b4 o5 xs1 [.bool ((r % 3 : Int) == 0)] xs2 G1 G2 ((markTo x kk k).take k) ((markTo x kk k).drop (k + 1))] := H
  refine c_nil (t_n ?_)
  refine c_reg ?_
  refine sp (.int .i64 r) ?_
  refine sw (o_add r 1 rfl rfl (by (have := hc (by omega); have e : cnt (x[k]!) = 1 := rfl; omega)) ?_)
  refine sp (.int .i64 (r + 1)) ?_
  refine c_nil (b_n (t_n ?_))
  refine c_reg ?_
  refine sp (.int .i64 k) ?_
  refine sw (o_add k 1 rfl rfl (by (have := hc (by omega); have e : cnt (x[k]!) = 1 := rfl; omega)) ?_)
  refine sp (.int .i64 (k + 1)) ?_
  refine c_nil (?_)
  replace H := H.closeAt (y := mrk (x[k]!) r) (m := x.length) (c := cx) ⟨rfl, rfl⟩ (FreeAll.nil _) (by intro z hz; simp at hz) (markTo x kk (k + 1)) (by subst i1; exact markTo_step _ _ (by omega)) (markTo_len _ _ (by omega)) (by rw [markTo_len _ _ (by omega)]; exact nhx)
  refine loop_end (m' := x.length - (k + 1)) (by omega) ⟨_, k + 1, r + 1, W7, (by exact upd_eq (upd_eq (upd_eq (upd_eq (rfl) rfl) rfl) rfl) rfl), ?_, ?_, ?_, rfl, H⟩
  · omega
  · rw [cntTo_succ]; have e : cnt (x[k]!) = 1 := rfl; omega
  · exact C
 ·skip
  replace h3 := of_decide_eq_false h3
  refine c_exit (t_x (t_x (b_x (t_n ?_))))
  refine c_seq ?_
  refine c_reg ?_
  refine sp (.int .i64 r) ?_
  refine sp (.int .i64 r) ?_
  refine c_nil (t_n ?_)
  refine c_ret (?_)
  obtain rfl : k = x.length := by omega
  refine ret1 (.int .i64 r) rfl rfl ⟨_, rfl, ⟨?_, H.get 0 rfl⟩, C.trans (Chg.ofExt H.base)⟩
  first | rfl | (refine congrArg (Value.int .i64) ?_; rw [cnt_list]; omega)

theorem markInt64SS_ok (w : World) (x : List (List Int)) (kk : Int) (ax : Option Addr) (cx : Nat) (Fx : List Nat) (hx : GoRep.rep w Fx [.slice ax x.length cx] x) (nd : Fx.Nodup) (fr : FreeAll w Fx) (p0 : 0 ≤ kk) (p1 : kk + (cnt x : Nat) ≤ 4611686018427387904) : Calls Try.prog 50 #[.slice ax x.length cx, .int .i64 kk] w (RetM (fun v w' => v = .int .i64 (kk + (cnt x : Nat)) ∧ (isF true Fx (.slice ax x.length cx) (mrk x kk)).φ w') Fx w) := by
 refine enter (n := 19) Try.func50 rfl Try.ntmps50 (Nat.le_of_ble_eq_true rfl) ?_
 have H := St.start w
 replace H := H.add (isF true Fx (.slice ax x.length cx) x) ⟨hx, fun _ => fr.sub (by intro z hz; simp [hz])⟩ (start_lt hx)
 have nhx := rep_len hx
 clear hx
 have C : Chg Fx w w := Chg.refl _ _
 have N : ([Fx] : List (List Nat)).flatten.Nodup := by simpa using nd
 refine c_seq ?_
 refine c_reg ?_
 refine sp (.int .i64 0) ?_
 refine c_nil (t_n ?_)
 refine c_seq ?_
 refine c_seq ?_
 refine c_reg ?_
 refine sp (.int .i64 0) ?_
 refine c_nil (t_n ?_)
 refine c_block ?_
 replace H : St w w [] [isF true Fx (.slice ax x.length cx) (markTo x kk 0)] := by rw [markTo_zero]; exact H
 refine c_loop (fun m' ρ w1 => ∃ (junk : Env) (k : Nat) (r : Int) (W : World), ρ = upd (upd (upd (upd junk 0 (.slice ax x.length cx)) 1 (.int .i64 r)) 4 (.int .i64 0)) 5 (.int .i64 k) ∧ (k ≤ x.length) ∧ (r = kk + (cntTo x k : Nat)) ∧ (Chg Fx w W) ∧ m' = x.length - k ∧ St W w1 [] [isF true Fx (.slice ax x.length cx) (markTo x kk k)]) (x.length - 0) ⟨_, 0, kk, w, (by exact upd_eq (upd_eq (upd_eq (upd_eq (rfl) rfl) rfl) rfl) rfl), (by omega), (by exact (Int.add_zero _).symm), (by exact C), rfl, H⟩ ?_
 clear H
 rintro m' ρ w2 ⟨junk, k, r, W, rfl, i0, i1, C, rfl, H⟩
 have hc := fun h => cnt_get (l := x) (k := k) h
 refine c_seq ?_
 refine c_seq ?_
 refine c_reg ?_
 refine sp (.int .i64 k) ?_
 refine sp (.slice ax x.length cx) ?_
 refine sw (o_len Try.underlying37 ax x.length cx rfl ?_)
 refine sp (.bool (decide ((k : Int) < x.length))) ?_
 refine c_nil (t_n ?_)
 refine c_cond (decide ((k : Int) < x.length)) rfl (fun h3 => ?_) (fun h3 => ?_)
 ·skip
  replace h3 := of_decide_eq_true h3
  refine c_skip (t_n ?_)
  refine c_seq ?_
  refine c_block ?_
  refine c_reg ?_
  refine sp (.slice ax x.length cx) ?_
  refine sp (.int .i64 k) ?_
  obtain ⟨b4, o5, rfl⟩ := H.addr 0 rfl (by rw [markTo_len _ _ (by omega)]; omega)
  obtain ⟨xs1, xs2, G1, G2, aq, cq, Fq, rfl, hx, H, N⟩ := H.open_List nd k (by rw [markTo_len _ _ (by omega)]; omega) (markTo_get _ _ (by omega))
  refine sw (o_idxAt k Try.underlying37 ti22 rfl rfl (by omega) (by omega) ?_)
  refine sw (o_load1 (.slice aq ((x[k]!).length) cq) Try.isAgg22 rfl (H.holeCell _ 0 hx rfl) ?_)
  refine sp (.int .i64 r) ?_
  refine sw (o_callM #[.slice aq ((x[k]!).length) cq, .int .i64 r] rfl rfl Try.call47 (markInt64S_ok w2 (x[k]!) r aq cq Fq (H.get 1 rfl).1 (flat_nodup N 1 rfl) ((H.get 1 rfl).2 rfl) (by (have := hc (by omega); skip; omega)) (by (have := hc (by omega); skip; omega))) ?_)
  rintro _ w6 ⟨rfl, m10⟩ x8
  obtain ⟨W7, C9, H⟩ := H.chgAt N 1 rfl (isF true Fq (.slice aq ((x[k]!).length) cq) (mrk (x[k]!) r)) rfl x8 m10
  replace C := C.trans (C9.mono (by intro z hz; have hz : z ∈ Fq := hz; simp [hz]))
  replace H : St _ _ _ [holeF b4 o5 xs1 [.slice aq ((x[k]!).length) cq] xs2 G1 G2 ((markTo x kk k).take k) ((markTo x kk k).drop (k + 1)), isF true Fq (.slice aq ((x[k]!).length) cq) (mrk (x[k]!) r)] := H
  refine sp (.int .i64 (r + (cnt (x[k]!) : Nat))) ?_
  refine c_nil (b_n (t_n ?_))
  refine c_reg ?_
  refine sp (.int .i64 k) ?_
  refine sw (o_add k 1 rfl rfl (by (have := hc (by omega); skip; omega)) ?_)
  refine sp (.int .i64 (k + 1)) ?_
  refine c_nil (?_)
  replace H := H.closeAt (y := mrk (x[k]!) r) (m := x.length) (c := cx) (H.get 1 rfl).1 ((H.get 1 rfl).2 rfl) (H.ltOwn 1 rfl) (markTo x kk (k + 1)) (by subst i1; exact markTo_step _ _ (by omega)) (markTo_len _ _ (by omega)) (by rw [markTo_len _ _ (by omega)]; exact nhx)
  refine loop_end (m' := x.length - (k + 1)) (by omega) ⟨_, k + 1, r + (cnt (x[k]!) : Nat), W7, (by exact upd_eq (upd_eq (upd_eq (upd_eq (rfl) rfl) rfl) rfl) rfl), ?_, ?_, ?_, rfl, H⟩
  · omega
  · rw [cntTo_succ]; skip; omega
  · exact C
 ·skip
  replace h3 := of_decide_eq_false h3
  refine c_exit (t_x (t_x (b_x (t_n ?_))))
  refine c_seq ?_
  refine c_reg ?_
  refine sp (.int .i64 r) ?_
  refine sp (.int .i64 r) ?_
  refine c_nil (t_n ?_)
  refine c_ret (?_)
  obtain rfl : k = x.length := by omega
  refine ret1 (.int .i64 r) rfl rfl ⟨_, rfl, ⟨?_, H.get 0 rfl⟩, C.trans (Chg.ofExt H.base)⟩
  first | rfl | (refine congrArg (Value.int .i64) ?_; rw [cnt_list]; omega)

theorem markIntoS_ok (w : World) (x : List IntoD) (kk : Int) (ax : Option Addr) (cx : Nat) (Fx : List Nat) (hx : GoRep.rep w Fx [.slice ax x.length cx] x) (nd : Fx.Nodup) (fr : FreeAll w Fx) (p0 : 0 ≤ kk) (p1 : kk + (cnt x : Nat) ≤ 4611686018427387904) : Calls Try.prog 85 #[.slice ax x.length cx, .int .i64 kk] w (RetM (fun v w' => v = .int .i64 (kk + (cnt x : Nat)) ∧ (isF true Fx (.slice ax x.length cx) (mrk x kk)).φ w') Fx w) := by
 refine enter (n := 27) Try.func85 rfl Try.ntmps85 (Nat.le_of_ble_eq_true rfl) ?_
 have H := St.start w
 replace H := H.add (isF true Fx (.slice ax x.length cx) x) ⟨hx, fun _ => fr.sub (by intro z hz; simp [hz])⟩ (start_lt hx)
 have nhx := rep_len hx
 clear hx
 have C : Chg Fx w w := Chg.refl _ _
 have N : ([Fx] : List (List Nat)).flatten.Nodup := by simpa using nd
 refine c_seq ?_
 refine c_reg ?_
 refine sp (.int .i64 0) ?_
 refine c_nil (t_n ?_)
 refine c_seq ?_
 refine c_seq ?_
 refine c_reg ?_
 refine sp (.int .i64 0) ?_
 refine c_nil (t_n ?_)
 refine c_block ?_
 replace H : St w w [] [isF true Fx (.slice ax x.length cx) (markTo x kk 0)] := by rw [markTo_zero]; exact H
 refine c_loop (fun m' ρ w1 => ∃ (junk : Env) (k : Nat) (r : Int) (W : World), ρ = upd (upd (upd (upd junk 0 (.slice ax x.length cx)) 1 (.int .i64 r)) 4 (.int .i64 0)) 5 (.int .i64 k) ∧ (k ≤ x.length) ∧ (r = kk + (cntTo x k : Nat)) ∧ (Chg Fx w W) ∧ m' = x.length - k ∧ St W w1 [] [isF true Fx (.slice ax x.length cx) (markTo x kk k)]) (x.length - 0) ⟨_, 0, kk, w, (by exact upd_eq (upd_eq (upd_eq (upd_eq (rfl) rfl) rfl) rfl) rfl), (by omega), (by exact (Int.add_zero _).symm), (by exact C), rfl, H⟩ ?_
 clear H
 rintro m' ρ w2 ⟨junk, k, r, W, rfl, i0, i1, C, rfl, H⟩
 have hc := fun h => cnt_get (l := x) (k := k) h
 refine c_seq ?_
 refine c_seq ?_
 refine c_reg ?_
 refine sp (.int .i64 k) ?_
 refine sp (.slice ax x.length cx) ?_
 refine sw (o_len Try.underlying90 ax x.length cx rfl ?_)
 refine sp (.bool (decide ((k : Int) < x.length))) ?_
 refine c_nil (t_n ?_)
 refine c_cond (decide ((k : Int) < x.length)) rfl (fun h3 => ?_) (fun h3 => ?_)
 ·skip
  replace h3 := of_decide_eq_true h3
  refine c_skip (t_n ?_)
  refine c_seq ?_
  refine c_block ?_
  refine c_seq ?_
  refine c_reg ?_
  refine sp (.slice ax x.length cx) ?_
  refine sp (.int .i64 k) ?_
  refine sp (.int .i64 r) ?_
  obtain ⟨b4, o5, rfl⟩ := H.addr 0 rfl (by rw [markTo_len _ _ (by omega)]; omega)
  obtain ⟨xs1, xs2, G1, G2, aqBag, cqBag, FqBag, rfl, hx, H, N⟩ := H.open_IntoD nd k (by rw [markTo_len _ _ (by omega)]; omega) (markTo_get _ _ (by omega))
  refine sw (o_idxAt k Try.underlying90 ti108 rfl rfl (by omega) (by omega) ?_)
  refine sw (o_field b4 (o5 + (k : Int).toNat * 2) 0 Try.underlying108 rfl rfl Try.sizeOf2 rfl ?_)
  refine sw (o_storeHole H N _ 0 hx (.int .i64 r) Try.sizeOf2 rfl rfl rfl (Nat.le_of_ble_eq_true rfl) fun w6 W7 C8 H => ?_)
  replace C := C.trans (C8.mono (hole_sub _ _ _ _))
  replace H : St _ _ _ [holeF b4 o5 xs1 [.int .i64 r, .slice aqBag (((x[k]!).fBag).length) cqBag] xs2 G1 G2 ((markTo x kk k).take k) ((markTo x kk k).drop (k + 1)), isF true FqBag (.slice aqBag (((x[k]!).fBag).length) cqBag) ((x[k]!).fBag)] := H
  refine c_nil (t_n ?_)
  refine c_seq ?_
  refine c_reg ?_
  refine sp (.int .i64 r) ?_
  refine sw (o_add r 1 rfl rfl (by (have := hc (by omega); have e := cnt_IntoD (x[k]!); omega)) ?_)
  refine sp (.int .i64 (r + 1)) ?_
  refine c_nil (t_n ?_)
  refine c_reg ?_
  refine sp (.slice (some ⟨b4, o5, none⟩) x.length cx) ?_
  refine sp (.int .i64 k) ?_
  refine sw (o_idxAt k Try.underlying90 ti108 rfl rfl (by omega) (by omega) ?_)
  refine sw (o_field b4 (o5 + (k : Int).toNat * 2) 1 Try.underlying108 rfl rfl Try.sizeOf22 rfl ?_)
  refine sw (o_load1 (.slice aqBag (((x[k]!).fBag).length) cqBag) Try.isAgg22 rfl (H.holeCell _ 1 hx rfl) ?_)
  refine sp (.int .i64 (r + 1)) ?_
  refine sw (o_callM #[.slice aqBag (((x[k]!).fBag).length) cqBag, .int .i64 (r + 1)] rfl rfl Try.call47 (markInt64S_ok w6 ((x[k]!).fBag) (r + 1) aqBag cqBag FqBag (H.get 1 rfl).1 (flat_nodup N 1 rfl) ((H.get 1 rfl).2 rfl) (by (have := hc (by omega); have e := cnt_IntoD (x[k]!); omega)) (by (have := hc (by omega); have e := cnt_IntoD (x[k]!); omega))) ?_)
  rintro _ w9 ⟨rfl, m13⟩ x11
  obtain ⟨W10, C12, H⟩ := H.chgAt N 1 rfl (isF true FqBag (.slice aqBag (((x[k]!).fBag).length) cqBag) (mrk ((x[k]!).fBag) (r + 1))) rfl x11 m13
  replace C := C.trans (C12.mono (by intro z hz; have hz : z ∈ FqBag := hz; simp [hz]))
  replace H : St _ _ _ [holeF b4 o5 xs1 [.int .i64 r, .slice aqBag (((x[k]!).fBag).length) cqBag] xs2 G1 G2 ((markTo x kk k).take k) ((markTo x kk k).drop (k + 1)), isF true FqBag (.slice aqBag (((x[k]!).fBag).length) cqBag) (mrk ((x[k]!).fBag) (r + 1))] := H
  refine sp (.int .i64 (r + 1 + (cnt ((x[k]!).fBag) : Nat))) ?_
  refine c_nil (b_n (t_n ?_))
  refine c_reg ?_
  refine sp (.int .i64 k) ?_
  refine sw (o_add k 1 rfl rfl (by (have := hc (by omega); have e := cnt_IntoD (x[k]!); omega)) ?_)
  refine sp (.int .i64 (k + 1)) ?_
  refine c_nil (?_)
  replace H := H.closeAt (y := mrk (x[k]!) r) (m := x.length) (c := cx) ⟨_, _, rfl, rfl, (H.get 1 rfl).1⟩ ((H.get 1 rfl).2 rfl) (H.ltOwn 1 rfl) (markTo x kk (k + 1)) (by subst i1; exact markTo_step _ _ (by omega)) (markTo_len _ _ (by omega)) (by rw [markTo_len _ _ (by omega)]; exact nhx)
  refine loop_end (m' := x.length - (k + 1)) (by omega) ⟨_, k + 1, r + 1 + (cnt ((x[k]!).fBag) : Nat), W10, (by exact upd_eq (upd_eq (upd_eq (upd_eq (rfl) rfl) rfl) rfl) rfl), ?_, ?_, ?_, rfl, H⟩
  · omega
  · rw [cntTo_succ]; have e := cnt_IntoD (x[k]!); omega
  · exact C
 ·skip
  replace h3 := of_decide_eq_false h3
  refine c_exit (t_x (t_x (b_x (t_n ?_))))
  refine c_seq ?_
  refine c_reg ?_
  refine sp (.int .i64 r) ?_
  refine sp (.int .i64 r) ?_
  refine c_nil (t_n ?_)
  refine c_ret (?_)
  obtain rfl : k = x.length := by omega
  refine ret1 (.int .i64 r) rfl rfl ⟨_, rfl, ⟨?_, H.get 0 rfl⟩, C.trans (Chg.ofExt H.base)⟩
  first | rfl | (refine congrArg (Value.int .i64) ?_; rw [cnt_list]; omega)

theorem markRuleS_ok (w : World) (x : List RuleD) (kk : Int) (ax : Option Addr) (cx : Nat) (Fx : List Nat) (hx : GoRep.rep w Fx [.slice ax x.length cx] x) (nd : Fx.Nodup) (fr : FreeAll w Fx) (p0 : 0 ≤ kk) (p1 : kk + (cnt x : Nat) ≤ 4611686018427387904) : Calls Try.prog 48 #[.slice ax x.length cx, .int .i64 kk] w (RetM (fun v w' => v = .int .i64 (kk + (cnt x : Nat)) ∧ (isF true Fx (.slice ax x.length cx) (mrk x kk)).φ w') Fx w) := by
 refine enter (n := 78) Try.func48 rfl Try.ntmps48 (Nat.le_of_ble_eq_true rfl) ?_
 have H := St.start w
 replace H := H.add (isF true Fx (.slice ax x.length cx) x) ⟨hx, fun _ => fr.sub (by intro z hz; simp [hz])⟩ (start_lt hx)
 have nhx := rep_len hx
 clear hx
 have C : Chg Fx w w := Chg.refl _ _
 have N : ([Fx] : List (List Nat)).flatten.Nodup := by simpa using nd
 refine c_seq ?_
 refine c_reg ?_
 refine sp (.int .i64 0) ?_
 refine c_nil (t_n ?_)
 refine c_seq ?_
 refine c_seq ?_
 refine c_reg ?_
 refine sp (.int .i64 0) ?_
 refine c_nil (t_n ?_)
 refine c_block ?_
 replace H : St w w [] [isF true Fx (.slice ax x.length cx) (markTo x kk 0)] := by rw [markTo_zero]; exact H
 refine c_loop (fun m' ρ w1 => ∃ (junk : Env) (k : Nat) (r : Int) (W : World), ρ = upd (upd (upd (upd junk 0 (.slice ax x.length cx)) 1 (.int .i64 r)) 4 (.int .i64 0)) 5 (.int .i64 k) ∧ (k ≤ x.length) ∧ (r = kk + (cntTo x k : Nat)) ∧ (Chg Fx w W) ∧ m' = x.length - k ∧ St W w1 [] [isF true Fx (.slice ax x.length cx) (markTo x kk k)]) (x.length - 0) ⟨_, 0, kk, w, (by exact upd_eq (upd_eq (upd_eq (upd_eq (rfl) rfl) rfl) rfl) rfl), (by omega), (by exact (Int.add_zero _).symm), (by exact C), rfl, H⟩ ?_
 clear H
 rintro m' ρ w2 ⟨junk, k, r, W, rfl, i0, i1, C, rfl, H⟩
 have hc := fun h => cnt_get (l := x) (k := k) h
 refine c_seq ?_
 refine c_seq ?_
 refine c_reg ?_
 refine sp (.int .i64 k) ?_
 refine sp (.slice ax x.length cx) ?_
 refine sw (o_len Try.underlying28 ax x.length cx rfl ?_)
 refine sp (.bool (decide ((k : Int) < x.length))) ?_
 refine c_nil (t_n ?_)
 refine c_cond (decide ((k : Int) < x.length)) rfl (fun h3 => ?_) (fun h3 => ?_)
 ·skip
  replace h3 := of_decide_eq_true h3
  refine c_skip (t_n ?_)
  refine c_seq ?_
  refine c_block ?_
  refine c_seq ?_
  refine c_reg ?_
  refine sp (.slice ax x.length cx) ?_
  refine sp (.int .i64 k) ?_
  refine sp (.int .i64 r) ?_
  obtain ⟨b4, o5, rfl⟩ := H.addr 0 rfl (by rw [markTo_len _ _ (by omega)]; omega)
  obtain ⟨xs1, xs2, G1, G2, aqNeed, cqNeed, FqNeed, aqHave, cqHave, FqHave, aqLack, cqLack, FqLack, aqHere, cqHere, FqHere, aqOut, cqOut, FqOut, aqInto, cqInto, FqInto, rfl, hx, H, N⟩ := H.open_RuleD nd k (by rw [markTo_len _ _ (by omega)]; omega) (markTo_get _ _ (by omega))
  refine sw (o_idxAt k Try.underlying28 ti92 rfl rfl (by omega) (by omega) ?_)
  refine sw (o_field b4 (o5 + (k : Int).toNat * 9) 0 Try.underlying92 rfl rfl Try.sizeOf2 rfl ?_)
  refine sw (o_storeHole H N _ 0 hx (.int .i64 r) Try.sizeOf2 rfl rfl rfl (Nat.le_of_ble_eq_true rfl) fun w6 W7 C8 H => ?_)
  replace C := C.trans (C8.mono (hole_sub _ _ _ _))
  replace H : St _ _ _ [holeF b4 o5 xs1 [.int .i64 r, .int .i64 ((x[k]!).fRank), .slice aqNeed (((x[k]!).fNeed).length) cqNeed, .slice aqHave (((x[k]!).fHave).length) cqHave, .slice aqLack (((x[k]!).fLack).length) cqLack, .slice aqHere (((x[k]!).fHere).length) cqHere, .slice aqOut (((x[k]!).fOut).length) cqOut, .slice aqInto (((x[k]!).fInto).length) cqInto, .bool ((x[k]!).fMelts)] xs2 G1 G2 ((markTo x kk k).take k) ((markTo x kk k).drop (k + 1)), isF true FqNeed (.slice aqNeed (((x[k]!).fNeed).length) cqNeed) ((x[k]!).fNeed), isF true FqHave (.slice aqHave (((x[k]!).fHave).length) cqHave) ((x[k]!).fHave), isF true FqLack (.slice aqLack (((x[k]!).fLack).length) cqLack) ((x[k]!).fLack), isF true FqHere (.slice aqHere (((x[k]!).fHere).length) cqHere) ((x[k]!).fHere), isF true FqOut (.slice aqOut (((x[k]!).fOut).length) cqOut) ((x[k]!).fOut), isF true FqInto (.slice aqInto (((x[k]!).fInto).length) cqInto) ((x[k]!).fInto)] := H
  refine c_nil (t_n ?_)
  refine c_seq ?_
  refine c_reg ?_
  refine sp (.int .i64 r) ?_
  refine sw (o_add r 1 rfl rfl (by (have := hc (by omega); have e := cnt_RuleD (x[k]!); omega)) ?_)
  refine sp (.int .i64 (r + 1)) ?_
  refine c_nil (t_n ?_)
  refine c_seq ?_
  refine c_reg ?_
  refine sp (.slice (some ⟨b4, o5, none⟩) x.length cx) ?_
  refine sp (.int .i64 k) ?_
  refine sp (.int .i64 (r + 1)) ?_
  refine sw (o_idxAt k Try.underlying28 ti92 rfl rfl (by omega) (by omega) ?_)
  refine sw (o_field b4 (o5 + (k : Int).toNat * 9) 1 Try.underlying92 rfl rfl Try.sizeOf2 rfl ?_)
  refine sw (o_storeHole H N _ 1 hx (.int .i64 (r + 1)) Try.sizeOf2 rfl rfl rfl (Nat.le_of_ble_eq_true rfl) fun w9 W10 C11 H => ?_)
  replace C := C.trans (C11.mono (hole_sub _ _ _ _))
  replace H : St _ _ _ [holeF b4 o5 xs1 [.int .i64 r, .int .i64 (r + 1), .slice aqNeed (((x[k]!).fNeed).length) cqNeed, .slice aqHave (((x[k]!).fHave).length) cqHave, .slice aqLack (((x[k]!).fLack).length) cqLack, .slice aqHere (((x[k]!).fHere).length) cqHere, .slice aqOut (((x[k]!).fOut).length) cqOut, .slice aqInto (((x[k]!).fInto).length) cqInto, .bool ((x[k]!).fMelts)] xs2 G1 G2 ((markTo x kk k).take k) ((markTo x kk k).drop (k + 1)), isF true FqNeed (.slice aqNeed (((x[k]!).fNeed).length) cqNeed) ((x[k]!).fNeed), isF true FqHave (.slice aqHave (((x[k]!).fHave).length) cqHave) ((x[k]!).fHave), isF true FqLack (.slice aqLack (((x[k]!).fLack).length) cqLack) ((x[k]!).fLack), isF true FqHere (.slice aqHere (((x[k]!).fHere).length) cqHere) ((x[k]!).fHere), isF true FqOut (.slice aqOut (((x[k]!).fOut).length) cqOut) ((x[k]!).fOut), isF true FqInto (.slice aqInto (((x[k]!).fInto).length) cqInto) ((x[k]!).fInto)] := H
  refine c_nil (t_n ?_)
  refine c_seq ?_
  refine c_reg ?_
  refine sp (.int .i64 (r + 1)) ?_
  refine sw (o_add (r + 1) 1 rfl rfl (by (have := hc (by omega); have e := cnt_RuleD (x[k]!); omega)) ?_)
  refine sp (.int .i64 ((r + 1) + 1)) ?_
  refine c_nil (t_n ?_)
  refine c_seq ?_
  refine c_reg ?_
  refine sp (.slice (some ⟨b4, o5, none⟩) x.length cx) ?_
  refine sp (.int .i64 k) ?_
  refine sw (o_idxAt k Try.underlying28 ti92 rfl rfl (by omega) (by omega) ?_)
  refine sw (o_field b4 (o5 + (k : Int).toNat * 9) 2 Try.underlying92 rfl rfl Try.sizeOf22 rfl ?_)
  refine sw (o_load1 (.slice aqNeed (((x[k]!).fNeed).length) cqNeed) Try.isAgg22 rfl (H.holeCell _ 2 hx rfl) ?_)
  refine sp (.int .i64 ((r + 1) + 1)) ?_
  refine sw (o_callM #[.slice aqNeed (((x[k]!).fNeed).length) cqNeed, .int .i64 ((r + 1) + 1)] rfl rfl Try.call47 (markInt64S_ok w9 ((x[k]!).fNeed) ((r + 1) + 1) aqNeed cqNeed FqNeed (H.get 1 rfl).1 (flat_nodup N 1 rfl) ((H.get 1 rfl).2 rfl) (by (have := hc (by omega); have e := cnt_RuleD (x[k]!); omega)) (by (have := hc (by omega); have e := cnt_RuleD (x[k]!); omega))) ?_)
  rintro _ w12 ⟨rfl, m16⟩ x14
  obtain ⟨W13, C15, H⟩ := H.chgAt N 1 rfl (isF true FqNeed (.slice aqNeed (((x[k]!).fNeed).length) cqNeed) (mrk ((x[k]!).fNeed) ((r + 1) + 1))) rfl x14 m16
  replace C := C.trans (C15.mono (by intro z hz; have hz : z ∈ FqNeed := hz; simp [hz]))
  replace H : St _ _ _ [holeF b4 o5 xs1 [.int .i64 r, .int .i64 (r + 1), .slice aqNeed (((x[k]!).fNeed).length) cqNeed, .slice aqHave (((x[k]!).fHave).length) cqHave, .slice aqLack (((x[k]!).fLack).length) cqLack, .slice aqHere (((x[k]!).fHere).length) cqHere, .slice aqOut (((x[k]!).fOut).length) cqOut, .slice aqInto (((x[k]!).fInto).length) cqInto, .bool ((x[k]!).fMelts)] xs2 G1 G2 ((markTo x kk k).take k) ((markTo x kk k).drop (k + 1)), isF true FqNeed (.slice aqNeed (((x[k]!).fNeed).length) cqNeed) (mrk ((x[k]!).fNeed) ((r + 1) + 1)), isF true FqHave (.slice aqHave (((x[k]!).fHave).length) cqHave) ((x[k]!).fHave), isF true FqLack (.slice aqLack (((x[k]!).fLack).length) cqLack) ((x[k]!).fLack), isF true FqHere (.slice aqHere (((x[k]!).fHere).length) cqHere) ((x[k]!).fHere), isF true FqOut (.slice aqOut (((x[k]!).fOut).length) cqOut) ((x[k]!).fOut), isF true FqInto (.slice aqInto (((x[k]!).fInto).length) cqInto) ((x[k]!).fInto)] := H
  refine sp (.int .i64 ((r + 1) + 1 + (cnt ((x[k]!).fNeed) : Nat))) ?_
  refine c_nil (t_n ?_)
  refine c_seq ?_
  refine c_reg ?_
  refine sp (.slice (some ⟨b4, o5, none⟩) x.length cx) ?_
  refine sp (.int .i64 k) ?_
  refine sw (o_idxAt k Try.underlying28 ti92 rfl rfl (by omega) (by omega) ?_)
  refine sw (o_field b4 (o5 + (k : Int).toNat * 9) 3 Try.underlying92 rfl rfl Try.sizeOf22 rfl ?_)
  refine sw (o_load1 (.slice aqHave (((x[k]!).fHave).length) cqHave) Try.isAgg22 rfl (H.holeCell _ 3 hx rfl) ?_)
  refine sp (.int .i64 ((r + 1) + 1 + (cnt ((x[k]!).fNeed) : Nat))) ?_
  refine sw (o_callM #[.slice aqHave (((x[k]!).fHave).length) cqHave, .int .i64 ((r + 1) + 1 + (cnt ((x[k]!).fNeed) : Nat))] rfl rfl Try.call47 (markInt64S_ok w12 ((x[k]!).fHave) ((r + 1) + 1 + (cnt ((x[k]!).fNeed) : Nat)) aqHave cqHave FqHave (H.get 2 rfl).1 (flat_nodup N 2 rfl) ((H.get 2 rfl).2 rfl) (by (have := hc (by omega); have e := cnt_RuleD (x[k]!); omega)) (by (have := hc (by omega); have e := cnt_RuleD (x[k]!); omega))) ?_)
  rintro _ w17 ⟨rfl, m21⟩ x19
  obtain ⟨W18, C20, H⟩ := H.chgAt N 2 rfl (isF true FqHave (.slice aqHave (((x[k]!).fHave).length) cqHave) (mrk ((x[k]!).fHave) ((r + 1) + 1 + (cnt ((x[k]!).fNeed) : Nat)))) rfl x19 m21
  replace C := C.trans (C20.mono (by intro z hz; have hz : z ∈ FqHave := hz; simp [hz]))
  replace H : St _ _ _ [holeF b4 o5 xs1 [.int .i64 r, .int .i64 (r + 1), .slice aqNeed (((x[k]!).fNeed).length) cqNeed, .slice aqHave (((x[k]!).fHave).length) cqHave, .slice aqLack (((x[k]!).fLack).length) cqLack, .slice aqHere (((x[k]!).fHere).length) cqHere, .slice aqOut (((x[k]!).fOut).length) cqOut, .slice aqInto (((x[k]!).fInto).length) cqInto, .bool ((x[k]!).fMelts)] xs2 G1 G2 ((markTo x kk k).take k) ((markTo x kk k).drop (k + 1)), isF true FqNeed (.slice aqNeed (((x[k]!).fNeed).length) cqNeed) (mrk ((x[k]!).fNeed) ((r + 1) + 1)), isF true FqHave (.slice aqHave (((x[k]!).fHave).length) cqHave) (mrk ((x[k]!).fHave) ((r + 1) + 1 + (cnt ((x[k]!).fNeed) : Nat))), isF true FqLack (.slice aqLack (((x[k]!).fLack).length) cqLack) ((x[k]!).fLack), isF true FqHere (.slice aqHere (((x[k]!).fHere).length) cqHere) ((x[k]!).fHere), isF true FqOut (.slice aqOut (((x[k]!).fOut).length) cqOut) ((x[k]!).fOut), isF true FqInto (.slice aqInto (((x[k]!).fInto).length) cqInto) ((x[k]!).fInto)] := H
  refine sp (.int .i64 ((r + 1) + 1 + (cnt ((x[k]!).fNeed) : Nat) + (cnt ((x[k]!).fHave) : Nat))) ?_
  refine c_nil (t_n ?_)
  refine c_seq ?_
  refine c_reg ?_
  refine sp (.slice (some ⟨b4, o5, none⟩) x.length cx) ?_
  refine sp (.int .i64 k) ?_
  refine sw (o_idxAt k Try.underlying28 ti92 rfl rfl (by omega) (by omega) ?_)
  refine sw (o_field b4 (o5 + (k : Int).toNat * 9) 4 Try.underlying92 rfl rfl Try.sizeOf22 rfl ?_)
  refine sw (o_load1 (.slice aqLack (((x[k]!).fLack).length) cqLack) Try.isAgg22 rfl (H.holeCell _ 4 hx rfl) ?_)
  refine sp (.int .i64 ((r + 1) + 1 + (cnt ((x[k]!).fNeed) : Nat) + (cnt ((x[k]!).fHave) : Nat))) ?_
  refine sw (o_callM #[.slice aqLack (((x[k]!).fLack).length) cqLack, .int .i64 ((r + 1) + 1 + (cnt ((x[k]!).fNeed) : Nat) + (cnt ((x[k]!).fHave) : Nat))] rfl rfl Try.call47 (markInt64S_ok w17 ((x[k]!).fLack) ((r + 1) + 1 + (cnt ((x[k]!).fNeed) : Nat) + (cnt ((x[k]!).fHave) : Nat)) aqLack cqLack FqLack (H.get 3 rfl).1 (flat_nodup N 3 rfl) ((H.get 3 rfl).2 rfl) (by (have := hc (by omega); have e := cnt_RuleD (x[k]!); omega)) (by (have := hc (by omega); have e := cnt_RuleD (x[k]!); omega))) ?_)
  rintro _ w22 ⟨rfl, m26⟩ x24
  obtain ⟨W23, C25, H⟩ := H.chgAt N 3 rfl (isF true FqLack (.slice aqLack (((x[k]!).fLack).length) cqLack) (mrk ((x[k]!).fLack) ((r + 1) + 1 + (cnt ((x[k]!).fNeed) : Nat) + (cnt ((x[k]!).fHave) : Nat)))) rfl x24 m26
  replace C := C.trans (C25.mono (by intro z hz; have hz : z ∈ FqLack := hz; simp [hz]))
  replace H : St _ _ _ [holeF b4 o5 xs1 [.int .i64 r, .int .i64 (r + 1), .slice aqNeed (((x[k]!).fNeed).length) cqNeed, .slice aqHave (((x[k]!).fHave).length) cqHave, .slice aqLack (((x[k]!).fLack).length) cqLack, .slice aqHere (((x[k]!).fHere).length) cqHere, .slice aqOut (((x[k]!).fOut).length) cqOut, .slice aqInto (((x[k]!).fInto).length) cqInto, .bool ((x[k]!).fMelts)] xs2 G1 G2 ((markTo x kk k).take k) ((markTo x kk k).drop (k + 1)), isF true FqNeed (.slice aqNeed (((x[k]!).fNeed).length) cqNeed) (mrk ((x[k]!).fNeed) ((r + 1) + 1)), isF true FqHave (.slice aqHave (((x[k]!).fHave).length) cqHave) (mrk ((x[k]!).fHave) ((r + 1) + 1 + (cnt ((x[k]!).fNeed) : Nat))), isF true FqLack (.slice aqLack (((x[k]!).fLack).length) cqLack) (mrk ((x[k]!).fLack) ((r + 1) + 1 + (cnt ((x[k]!).fNeed) : Nat) + (cnt ((x[k]!).fHave) : Nat))), isF true FqHere (.slice aqHere (((x[k]!).fHere).length) cqHere) ((x[k]!).fHere), isF true FqOut (.slice aqOut (((x[k]!).fOut).length) cqOut) ((x[k]!).fOut), isF true FqInto (.slice aqInto (((x[k]!).fInto).length) cqInto) ((x[k]!).fInto)] := H
  refine sp (.int .i64 ((r + 1) + 1 + (cnt ((x[k]!).fNeed) : Nat) + (cnt ((x[k]!).fHave) : Nat) + (cnt ((x[k]!).fLack) : Nat))) ?_
  refine c_nil (t_n ?_)
  refine c_seq ?_
  refine c_reg ?_
  refine sp (.slice (some ⟨b4, o5, none⟩) x.length cx) ?_
  refine sp (.int .i64 k) ?_
  refine sw (o_idxAt k Try.underlying28 ti92 rfl rfl (by omega) (by omega) ?_)
  refine sw (o_field b4 (o5 + (k : Int).toNat * 9) 5 Try.underlying92 rfl rfl Try.sizeOf22 rfl ?_)
  refine sw (o_load1 (.slice aqHere (((x[k]!).fHere).length) cqHere) Try.isAgg22 rfl (H.holeCell _ 5 hx rfl) ?_)
  refine sp (.int .i64 ((r + 1) + 1 + (cnt ((x[k]!).fNeed) : Nat) + (cnt ((x[k]!).fHave) : Nat) + (cnt ((x[k]!).fLack) : Nat))) ?_
  refine sw (o_callM #[.slice aqHere (((x[k]!).fHere).length) cqHere, .int .i64 ((r + 1) + 1 + (cnt ((x[k]!).fNeed) : Nat) + (cnt ((x[k]!).fHave) : Nat) + (cnt ((x[k]!).fLack) : Nat))] rfl rfl Try.call47 (markInt64S_ok w22 ((x[k]!).fHere) ((r + 1) + 1 + (cnt ((x[k]!).fNeed) : Nat) + (cnt ((x[k]!).fHave) : Nat) + (cnt ((x[k]!).fLack) : Nat)) aqHere cqHere FqHere (H.get 4 rfl).1 (flat_nodup N 4 rfl) ((H.get 4 rfl).2 rfl) (by (have := hc (by omega); have e := cnt_RuleD (x[k]!); omega)) (by (have := hc (by omega); have e := cnt_RuleD (x[k]!); omega))) ?_)
  rintro _ w27 ⟨rfl, m31⟩ x29
  obtain ⟨W28, C30, H⟩ := H.chgAt N 4 rfl (isF true FqHere (.slice aqHere (((x[k]!).fHere).length) cqHere) (mrk ((x[k]!).fHere) ((r + 1) + 1 + (cnt ((x[k]!).fNeed) : Nat) + (cnt ((x[k]!).fHave) : Nat) + (cnt ((x[k]!).fLack) : Nat)))) rfl x29 m31
  replace C := C.trans (C30.mono (by intro z hz; have hz : z ∈ FqHere := hz; simp [hz]))
  replace H : St _ _ _ [holeF b4 o5 xs1 [.int .i64 r, .int .i64 (r + 1), .slice aqNeed (((x[k]!).fNeed).length) cqNeed, .slice aqHave (((x[k]!).fHave).length) cqHave, .slice aqLack (((x[k]!).fLack).length) cqLack, .slice aqHere (((x[k]!).fHere).length) cqHere, .slice aqOut (((x[k]!).fOut).length) cqOut, .slice aqInto (((x[k]!).fInto).length) cqInto, .bool ((x[k]!).fMelts)] xs2 G1 G2 ((markTo x kk k).take k) ((markTo x kk k).drop (k + 1)), isF true FqNeed (.slice aqNeed (((x[k]!).fNeed).length) cqNeed) (mrk ((x[k]!).fNeed) ((r + 1) + 1)), isF true FqHave (.slice aqHave (((x[k]!).fHave).length) cqHave) (mrk ((x[k]!).fHave) ((r + 1) + 1 + (cnt ((x[k]!).fNeed) : Nat))), isF true FqLack (.slice aqLack (((x[k]!).fLack).length) cqLack) (mrk ((x[k]!).fLack) ((r + 1) + 1 + (cnt ((x[k]!).fNeed) : Nat) + (cnt ((x[k]!).fHave) : Nat))), isF true FqHere (.slice aqHere (((x[k]!).fHere).length) cqHere) (mrk ((x[k]!).fHere) ((r + 1) + 1 + (cnt ((x[k]!).fNeed) : Nat) + (cnt ((x[k]!).fHave) : Nat) + (cnt ((x[k]!).fLack) : Nat))), isF true FqOut (.slice aqOut (((x[k]!).fOut).length) cqOut) ((x[k]!).fOut), isF true FqInto (.slice aqInto (((x[k]!).fInto).length) cqInto) ((x[k]!).fInto)] := H
  refine sp (.int .i64 ((r + 1) + 1 + (cnt ((x[k]!).fNeed) : Nat) + (cnt ((x[k]!).fHave) : Nat) + (cnt ((x[k]!).fLack) : Nat) + (cnt ((x[k]!).fHere) : Nat))) ?_
  refine c_nil (t_n ?_)
  refine c_seq ?_
  refine c_reg ?_
  refine sp (.slice (some ⟨b4, o5, none⟩) x.length cx) ?_
  refine sp (.int .i64 k) ?_
  refine sw (o_idxAt k Try.underlying28 ti92 rfl rfl (by omega) (by omega) ?_)
  refine sw (o_field b4 (o5 + (k : Int).toNat * 9) 6 Try.underlying92 rfl rfl Try.sizeOf22 rfl ?_)
  refine sw (o_load1 (.slice aqOut (((x[k]!).fOut).length) cqOut) Try.isAgg22 rfl (H.holeCell _ 6 hx rfl) ?_)
  refine sp (.int .i64 ((r + 1) + 1 + (cnt ((x[k]!).fNeed) : Nat) + (cnt ((x[k]!).fHave) : Nat) + (cnt ((x[k]!).fLack) : Nat) + (cnt ((x[k]!).fHere) : Nat))) ?_
  refine sw (o_callM #[.slice aqOut (((x[k]!).fOut).length) cqOut, .int .i64 ((r + 1) + 1 + (cnt ((x[k]!).fNeed) : Nat) + (cnt ((x[k]!).fHave) : Nat) + (cnt ((x[k]!).fLack) : Nat) + (cnt ((x[k]!).fHere) : Nat))] rfl rfl Try.call47 (markInt64S_ok w27 ((x[k]!).fOut) ((r + 1) + 1 + (cnt ((x[k]!).fNeed) : Nat) + (cnt ((x[k]!).fHave) : Nat) + (cnt ((x[k]!).fLack) : Nat) + (cnt ((x[k]!).fHere) : Nat)) aqOut cqOut FqOut (H.get 5 rfl).1 (flat_nodup N 5 rfl) ((H.get 5 rfl).2 rfl) (by (have := hc (by omega); have e := cnt_RuleD (x[k]!); omega)) (by (have := hc (by omega); have e := cnt_RuleD (x[k]!); omega))) ?_)
  rintro _ w32 ⟨rfl, m36⟩ x34
  obtain ⟨W33, C35, H⟩ := H.chgAt N 5 rfl (isF true FqOut (.slice aqOut (((x[k]!).fOut).length) cqOut) (mrk ((x[k]!).fOut) ((r + 1) + 1 + (cnt ((x[k]!).fNeed) : Nat) + (cnt ((x[k]!).fHave) : Nat) + (cnt ((x[k]!).fLack) : Nat) + (cnt ((x[k]!).fHere) : Nat)))) rfl x34 m36
  replace C := C.trans (C35.mono (by intro z hz; have hz : z ∈ FqOut := hz; simp [hz]))
  replace H : St _ _ _ [holeF b4 o5 xs1 [.int .i64 r, .int .i64 (r + 1), .slice aqNeed (((x[k]!).fNeed).length) cqNeed, .slice aqHave (((x[k]!).fHave).length) cqHave, .slice aqLack (((x[k]!).fLack).length) cqLack, .slice aqHere (((x[k]!).fHere).length) cqHere, .slice aqOut (((x[k]!).fOut).length) cqOut, .slice aqInto (((x[k]!).fInto).length) cqInto, .bool ((x[k]!).fMelts)] xs2 G1 G2 ((markTo x kk k).take k) ((markTo x kk k).drop (k + 1)), isF true FqNeed (.slice aqNeed (((x[k]!).fNeed).length) cqNeed) (mrk ((x[k]!).fNeed) ((r + 1) + 1)), isF true FqHave (.slice aqHave (((x[k]!).fHave).length) cqHave) (mrk ((x[k]!).fHave) ((r + 1) + 1 + (cnt ((x[k]!).fNeed) : Nat))), isF true FqLack (.slice aqLack (((x[k]!).fLack).length) cqLack) (mrk ((x[k]!).fLack) ((r + 1) + 1 + (cnt ((x[k]!).fNeed) : Nat) + (cnt ((x[k]!).fHave) : Nat))), isF true FqHere (.slice aqHere (((x[k]!).fHere).length) cqHere) (mrk ((x[k]!).fHere) ((r + 1) + 1 + (cnt ((x[k]!).fNeed) : Nat) + (cnt ((x[k]!).fHave) : Nat) + (cnt ((x[k]!).fLack) : Nat))), isF true FqOut (.slice aqOut (((x[k]!).fOut).length) cqOut) (mrk ((x[k]!).fOut) ((r + 1) + 1 + (cnt ((x[k]!).fNeed) : Nat) + (cnt ((x[k]!).fHave) : Nat) + (cnt ((x[k]!).fLack) : Nat) + (cnt ((x[k]!).fHere) : Nat))), isF true FqInto (.slice aqInto (((x[k]!).fInto).length) cqInto) ((x[k]!).fInto)] := H
  refine sp (.int .i64 ((r + 1) + 1 + (cnt ((x[k]!).fNeed) : Nat) + (cnt ((x[k]!).fHave) : Nat) + (cnt ((x[k]!).fLack) : Nat) + (cnt ((x[k]!).fHere) : Nat) + (cnt ((x[k]!).fOut) : Nat))) ?_
  refine c_nil (t_n ?_)
  refine c_seq ?_
  refine c_reg ?_
  refine sp (.slice (some ⟨b4, o5, none⟩) x.length cx) ?_
  refine sp (.int .i64 k) ?_
  refine sw (o_idxAt k Try.underlying28 ti92 rfl rfl (by omega) (by omega) ?_)
  refine sw (o_field b4 (o5 + (k : Int).toNat * 9) 7 Try.underlying92 rfl rfl Try.sizeOf90 rfl ?_)
  refine sw (o_load1 (.slice aqInto (((x[k]!).fInto).length) cqInto) Try.isAgg90 rfl (H.holeCell _ 7 hx rfl) ?_)
  refine sp (.int .i64 ((r + 1) + 1 + (cnt ((x[k]!).fNeed) : Nat) + (cnt ((x[k]!).fHave) : Nat) + (cnt ((x[k]!).fLack) : Nat) + (cnt ((x[k]!).fHere) : Nat) + (cnt ((x[k]!).fOut) : Nat))) ?_
  refine sw (o_callM #[.slice aqInto (((x[k]!).fInto).length) cqInto, .int .i64 ((r + 1) + 1 + (cnt ((x[k]!).fNeed) : Nat) + (cnt ((x[k]!).fHave) : Nat) + (cnt ((x[k]!).fLack) : Nat) + (cnt ((x[k]!).fHere) : Nat) + (cnt ((x[k]!).fOut) : Nat))] rfl rfl Try.call85 (markIntoS_ok w32 ((x[k]!).fInto) ((r + 1) + 1 + (cnt ((x[k]!).fNeed) : Nat) + (cnt ((x[k]!).fHave) : Nat) + (cnt ((x[k]!).fLack) : Nat) + (cnt ((x[k]!).fHere) : Nat) + (cnt ((x[k]!).fOut) : Nat)) aqInto cqInto FqInto (H.get 6 rfl).1 (flat_nodup N 6 rfl) ((H.get 6 rfl).2 rfl) (by (have := hc (by omega); have e := cnt_RuleD (x[k]!); omega)) (by (have := hc (by omega); have e := cnt_RuleD (x[k]!); omega))) ?_)
  rintro _ w37 ⟨rfl, m41⟩ x39
  obtain ⟨W38, C40, H⟩ := H.chgAt N 6 rfl (isF true FqInto (.slice aqInto (((x[k]!).fInto).length) cqInto) (mrk ((x[k]!).fInto) ((r + 1) + 1 + (cnt ((x[k]!).fNeed) : Nat) + (cnt ((x[k]!).fHave) : Nat) + (cnt ((x[k]!).fLack) : Nat) + (cnt ((x[k]!).fHere) : Nat) + (cnt ((x[k]!).fOut) : Nat)))) rfl x39 m41
  replace C := C.trans (C40.mono (by intro z hz; have hz : z ∈ FqInto := hz; simp [hz]))
  replace H : St _ _ _ [holeF b4 o5 xs1 [.int .i64 r, .int .i64 (r + 1), .slice aqNeed (((x[k]!).fNeed).length) cqNeed, .slice aqHave (((x[k]!).fHave).length) cqHave, .slice aqLack (((x[k]!).fLack).length) cqLack, .slice aqHere (((x[k]!).fHere).length) cqHere, .slice aqOut (((x[k]!).fOut).length) cqOut, .slice aqInto (((x[k]!).fInto).length) cqInto, .bool ((x[k]!).fMelts)] xs2 G1 G2 ((markTo x kk k).take k) ((markTo x kk k).drop (k + 1)), isF true FqNeed (.slice aqNeed (((x[k]!).fNeed).length) cqNeed) (mrk ((x[k]!).fNeed) ((r + 1) + 1)), isF true FqHave (.slice aqHave (((x[k]!).fHave).length) cqHave) (mrk ((x[k]!).fHave) ((r + 1) + 1 + (cnt ((x[k]!).fNeed) : Nat))), isF true FqLack (.slice aqLack (((x[k]!).fLack).length) cqLack) (mrk ((x[k]!).fLack) ((r + 1) + 1 + (cnt ((x[k]!).fNeed) : Nat) + (cnt ((x[k]!).fHave) : Nat))), isF true FqHere (.slice aqHere (((x[k]!).fHere).length) cqHere) (mrk ((x[k]!).fHere) ((r + 1) + 1 + (cnt ((x[k]!).fNeed) : Nat) + (cnt ((x[k]!).fHave) : Nat) + (cnt ((x[k]!).fLack) : Nat))), isF true FqOut (.slice aqOut (((x[k]!).fOut).length) cqOut) (mrk ((x[k]!).fOut) ((r + 1) + 1 + (cnt ((x[k]!).fNeed) : Nat) + (cnt ((x[k]!).fHave) : Nat) + (cnt ((x[k]!).fLack) : Nat) + (cnt ((x[k]!).fHere) : Nat))), isF true FqInto (.slice aqInto (((x[k]!).fInto).length) cqInto) (mrk ((x[k]!).fInto) ((r + 1) + 1 + (cnt ((x[k]!).fNeed) : Nat) + (cnt ((x[k]!).fHave) : Nat) + (cnt ((x[k]!).fLack) : Nat) + (cnt ((x[k]!).fHere) : Nat) + (cnt ((x[k]!).fOut) : Nat)))] := H
  refine sp (.int .i64 ((r + 1) + 1 + (cnt ((x[k]!).fNeed) : Nat) + (cnt ((x[k]!).fHave) : Nat) + (cnt ((x[k]!).fLack) : Nat) + (cnt ((x[k]!).fHere) : Nat) + (cnt ((x[k]!).fOut) : Nat) + (cnt ((x[k]!).fInto) : Nat))) ?_
  refine c_nil (t_n ?_)
  refine c_seq ?_
  refine c_reg ?_
  refine sp (.slice (some ⟨b4, o5, none⟩) x.length cx) ?_
  refine sp (.int .i64 k) ?_
  refine sp (.int .i64 ((r + 1) + 1 + (cnt ((x[k]!).fNeed) : Nat) + (cnt ((x[k]!).fHave) : Nat) + (cnt ((x[k]!).fLack) : Nat) + (cnt ((x[k]!).fHere) : Nat) + (cnt ((x[k]!).fOut) : Nat) + (cnt ((x[k]!).fInto) : Nat))) ?_
  refine sw (o_rem ((r + 1) + 1 + (cnt ((x[k]!).fNeed) : Nat) + (cnt ((x[k]!).fHave) : Nat) + (cnt ((x[k]!).fLack) : Nat) + (cnt ((x[k]!).fHere) : Nat) + (cnt ((x[k]!).fOut) : Nat) + (cnt ((x[k]!).fInto) : Nat)) 3 rfl rfl (by (have := hc (by omega); have e := cnt_RuleD (x[k]!); omega)) (by omega) (by (have := hc (by omega); have e := cnt_RuleD (x[k]!); omega)) ?_)
  refine sp (.bool ((((r + 1) + 1 + (cnt ((x[k]!).fNeed) : Nat) + (cnt ((x[k]!).fHave) : Nat) + (cnt ((x[k]!).fLack) : Nat) + (cnt ((x[k]!).fHere) : Nat) + (cnt ((x[k]!).fOut) : Nat) + (cnt ((x[k]!).fInto) : Nat)) % 3 : Int) == 0)) ?_
  refine sw (o_idxAt k Try.underlying28 ti92 rfl rfl (by omega) (by omega) ?_)
  refine sw (o_field b4 (o5 + (k : Int).toNat * 9) 8 Try.underlying92 rfl rfl Try.sizeOf4 rfl ?_)
  refine sw (o_storeHole H N _ 8 hx (.bool ((((r + 1) + 1 + (cnt ((x[k]!).fNeed) : Nat) + (cnt ((x[k]!).fHave) : Nat) + (cnt ((x[k]!).fLack) : Nat) + (cnt ((x[k]!).fHere) : Nat) + (cnt ((x[k]!).fOut) : Nat) + (cnt ((x[k]!).fInto) : Nat)) % 3 : Int) == 0)) Try.sizeOf4 rfl rfl rfl (Nat.le_of_ble_eq_true rfl) fun w42 W43 C44 H => ?_)
  replace C := C.trans (C44.mono (hole_sub _ _ _ _))
  replace H : St _ _ _ [holeF b4 o5 xs1 [.int .i64 r, .int .i64 (r + 1), .slice aqNeed (((x[k]!).fNeed).length) cqNeed, .slice aqHave (((x[k]!).fHave).length) cqHave, .slice aqLack (((x[k]!).fLack).length) cqLack, .slice aqHere (((x[k]!).fHere).length) cqHere, .slice aqOut (((x[k]!).fOut).length) cqOut, .slice aqInto (((x[k]!).fInto).length) cqInto, .bool ((((r + 1) + 1 + (cnt ((x[k]!).fNeed) : Nat) + (cnt ((x[k]!).fHave) : Nat) + (cnt ((x[k]!).fLack) : Nat) + (cnt ((x[k]!).fHere) : Nat) + (cnt ((x[k]!).fOut) : Nat) + (cnt ((x[k]!).fInto) : Nat)) % 3 : Int) == 0)] xs2 G1 G2 ((markTo x kk k).take k) ((markTo x kk k).drop (k + 1)), isF true FqNeed (.slice aqNeed (((x[k]!).fNeed).length) cqNeed) (mrk ((x[k]!).fNeed) ((r + 1) + 1)), isF true FqHave (.slice aqHave (((x[k]!).fHave).length) cqHave) (mrk ((x[k]!).fHave) ((r + 1) + 1 + (cnt ((x[k]!).fNeed) : Nat))), isF true FqLack (.slice aqLack (((x[k]!).fLack).length) cqLack) (mrk ((x[k]!).fLack) ((r + 1) + 1 + (cnt ((x[k]!).fNeed) : Nat) + (cnt ((x[k]!).fHave) : Nat))), isF true FqHere (.slice aqHere (((x[k]!).fHere).length) cqHere) (mrk ((x[k]!).fHere) ((r + 1) + 1 + (cnt ((x[k]!).fNeed) : Nat) + (cnt ((x[k]!).fHave) : Nat) + (cnt ((x[k]!).fLack) : Nat))), isF true FqOut (.slice aqOut (((x[k]!).fOut).length) cqOut) (mrk ((x[k]!).fOut) ((r + 1) + 1 + (cnt ((x[k]!).fNeed) : Nat) + (cnt ((x[k]!).fHave) : Nat) + (cnt ((x[k]!).fLack) : Nat) + (cnt ((x[k]!).fHere) : Nat))), isF true FqInto (.slice aqInto (((x[k]!).fInto).length) cqInto) (mrk ((x[k]!).fInto) ((r + 1) + 1 + (cnt ((x[k]!).fNeed) : Nat) + (cnt ((x[k]!).fHave) : Nat) + (cnt ((x[k]!).fLack) : Nat) + (cnt ((x[k]!).fHere) : Nat) + (cnt ((x[k]!).fOut) : Nat)))] := H
  refine c_nil (t_n ?_)
  refine c_reg ?_
  refine sp (.int .i64 ((r + 1) + 1 + (cnt ((x[k]!).fNeed) : Nat) + (cnt ((x[k]!).fHave) : Nat) + (cnt ((x[k]!).fLack) : Nat) + (cnt ((x[k]!).fHere) : Nat) + (cnt ((x[k]!).fOut) : Nat) + (cnt ((x[k]!).fInto) : Nat))) ?_
  refine sw (o_add ((r + 1) + 1 + (cnt ((x[k]!).fNeed) : Nat) + (cnt ((x[k]!).fHave) : Nat) + (cnt ((x[k]!).fLack) : Nat) + (cnt ((x[k]!).fHere) : Nat) + (cnt ((x[k]!).fOut) : Nat) + (cnt ((x[k]!).fInto) : Nat)) 1 rfl rfl (by (have := hc (by omega); have e := cnt_RuleD (x[k]!); omega)) ?_)
  refine sp (.int .i64 (((r + 1) + 1 + (cnt ((x[k]!).fNeed) : Nat) + (cnt ((x[k]!).fHave) : Nat) + (cnt ((x[k]!).fLack) : Nat) + (cnt ((x[k]!).fHere) : Nat) + (cnt ((x[k]!).fOut) : Nat) + (cnt ((x[k]!).fInto) : Nat)) + 1)) ?_
  refine c_nil (b_n (t_n ?_))
  refine c_reg ?_
  refine sp (.int .i64 k) ?_
  refine sw (o_add k 1 rfl rfl (by (have := hc (by omega); have e := cnt_RuleD (x[k]!); omega)) ?_)
  refine sp (.int .i64 (k + 1)) ?_
  refine c_nil (?_)
  replace H := H.closeAt (y := mrk (x[k]!) r) (m := x.length) (c := cx) ⟨_, _, _, _, _, _, _, _, _, _, _, _, rfl, rfl, (H.get 1 rfl).1, (H.get 2 rfl).1, (H.get 3 rfl).1, (H.get 4 rfl).1, (H.get 5 rfl).1, (H.get 6 rfl).1⟩ (((((((H.get 1 rfl).2 rfl).app ((H.get 2 rfl).2 rfl)).app ((H.get 3 rfl).2 rfl)).app ((H.get 4 rfl).2 rfl)).app ((H.get 5 rfl).2 rfl)).app ((H.get 6 rfl).2 rfl)) (all_app (all_app (all_app (all_app (all_app (H.ltOwn 1 rfl) (H.ltOwn 2 rfl)) (H.ltOwn 3 rfl)) (H.ltOwn 4 rfl)) (H.ltOwn 5 rfl)) (H.ltOwn 6 rfl)) (markTo x kk (k + 1)) (by subst i1; exact markTo_step _ _ (by omega)) (markTo_len _ _ (by omega)) (by rw [markTo_len _ _ (by omega)]; exact nhx)
  refine loop_end (m' := x.length - (k + 1)) (by omega) ⟨_, k + 1, ((r + 1) + 1 + (cnt ((x[k]!).fNeed) : Nat) + (cnt ((x[k]!).fHave) : Nat) + (cnt ((x[k]!).fLack) : Nat) + (cnt ((x[k]!).fHere) : Nat) + (cnt ((x[k]!).fOut) : Nat) + (cnt ((x[k]!).fInto) : Nat)) + 1, W43, (by exact upd_eq (upd_eq (upd_eq (upd_eq (rfl) rfl) rfl) rfl) rfl), ?_, ?_, ?_, rfl, H⟩
  · omega
  · rw [cntTo_succ]; have e := cnt_RuleD (x[k]!); omega
  · exact C
 ·skip
  replace h3 := of_decide_eq_false h3
  refine c_exit (t_x (t_x (b_x (t_n ?_))))
  refine c_seq ?_
  refine c_reg ?_
  refine sp (.int .i64 r) ?_
  refine sp (.int .i64 r) ?_
  refine c_nil (t_n ?_)
  refine c_ret (?_)
  obtain rfl : k = x.length := by omega
  refine ret1 (.int .i64 r) rfl rfl ⟨_, rfl, ⟨?_, H.get 0 rfl⟩, C.trans (Chg.ofExt H.base)⟩
  first | rfl | (refine congrArg (Value.int .i64) ?_; rw [cnt_list]; omega)

theorem markSystem_ok (w : World) (x : SystemD) (kk : Int) (axParents : Option Addr) (cxParents : Nat) (FxParents : List Nat) (axRules : Option Addr) (cxRules : Nat) (FxRules : List Nat) (hxParents : GoRep.rep w FxParents [.slice axParents x.fParents.length cxParents] x.fParents) (hxRules : GoRep.rep w FxRules [.slice axRules x.fRules.length cxRules] x.fRules) (nd : (FxParents ++ FxRules).Nodup) (fr : FreeAll w (FxParents ++ FxRules)) (p0 : 0 ≤ kk) (p1 : kk + (cnt x.fParents : Nat) + (cnt x.fRules : Nat) ≤ 4611686018427387904) : Calls Try.prog 18 #[.agg #[.int .i64 x.fKinds, .slice axParents x.fParents.length cxParents, .slice axRules x.fRules.length cxRules], .int .i64 kk] w (RetM (fun v w' => v = .int .i64 (kk + (cnt x.fParents : Nat) + (cnt x.fRules : Nat)) ∧ (isF true FxParents (.slice axParents x.fParents.length cxParents) (mrk x.fParents kk)).φ w' ∧ (isF true FxRules (.slice axRules x.fRules.length cxRules) (mrk x.fRules (kk + (cnt x.fParents : Nat)))).φ w') (FxParents ++ FxRules) w) := by
 refine enter (n := 14) Try.func18 rfl Try.ntmps18 (Nat.le_of_ble_eq_true rfl) ?_
 have H := St.start w
 replace H := H.add (isF true FxRules (.slice axRules x.fRules.length cxRules) x.fRules) ⟨hxRules, fun _ => fr.sub (by intro z hz; simp [hz])⟩ (start_lt hxRules)
 replace H := H.add (isF true FxParents (.slice axParents x.fParents.length cxParents) x.fParents) ⟨hxParents, fun _ => fr.sub (by intro z hz; simp [hz])⟩ (start_lt hxParents)
 have nhxParents := rep_len hxParents
 have nhxRules := rep_len hxRules
 clear hxParents hxRules
 have C : Chg (FxParents ++ FxRules) w w := Chg.refl _ _
 have N : ([FxParents, FxRules] : List (List Nat)).flatten.Nodup := by simpa using nd
 refine c_seq ?_
 refine c_reg ?_
 refine sw (o_box H (.agg #[.int .i64 x.fKinds, .slice axParents x.fParents.length cxParents, .slice axRules x.fRules.length cxRules]) rfl fun b1 w2 H => ?_)
 replace H : St _ _ [.box b1 [.int .i64 x.fKinds, .slice axParents x.fParents.length cxParents, .slice axRules x.fRules.length cxRules] 30] _ := H
 refine sp (.int .i64 0) ?_
 refine c_nil (t_n ?_)
 refine c_seq ?_
 refine c_reg ?_
 refine sw (o_field b1 (0) 1 Try.underlying30 rfl rfl Try.sizeOf22 rfl ?_)
 refine sw (o_load1 (.slice axParents x.fParents.length cxParents) Try.isAgg22 rfl (H.cell 0 rfl rfl) ?_)
 refine sp (.int .i64 kk) ?_
 refine sw (o_callM #[.slice axParents x.fParents.length cxParents, .int .i64 kk] rfl rfl Try.call47 (markInt64S_ok w2 x.fParents kk axParents cxParents FxParents (H.get 0 rfl).1 (flat_nodup N 0 rfl) ((H.get 0 rfl).2 rfl) (by omega) (by omega)) ?_)
 rintro _ w3 ⟨rfl, m7⟩ x5
 obtain ⟨W4, C6, H⟩ := H.chgAt N 0 rfl (isF true FxParents (.slice axParents x.fParents.length cxParents) (mrk x.fParents kk)) rfl x5 m7
 replace C := C.trans (C6.mono (by intro z hz; have hz : z ∈ FxParents := hz; simp [hz]))
 replace H : St _ _ _ [isF true FxParents (.slice axParents x.fParents.length cxParents) (mrk x.fParents kk), isF true FxRules (.slice axRules x.fRules.length cxRules) x.fRules] := H
 refine sp (.int .i64 (kk + (cnt x.fParents : Nat))) ?_
 refine c_nil (t_n ?_)
 refine c_seq ?_
 refine c_reg ?_
 refine sw (o_field b1 (0) 2 Try.underlying30 rfl rfl Try.sizeOf28 rfl ?_)
 refine sw (o_load1 (.slice axRules x.fRules.length cxRules) Try.isAgg28 rfl (H.cell 0 rfl rfl) ?_)
 refine sp (.int .i64 (kk + (cnt x.fParents : Nat))) ?_
 refine sw (o_callM #[.slice axRules x.fRules.length cxRules, .int .i64 (kk + (cnt x.fParents : Nat))] rfl rfl Try.call48 (markRuleS_ok w3 x.fRules (kk + (cnt x.fParents : Nat)) axRules cxRules FxRules (H.get 1 rfl).1 (flat_nodup N 1 rfl) ((H.get 1 rfl).2 rfl) (by omega) (by omega)) ?_)
 rintro _ w8 ⟨rfl, m12⟩ x10
 obtain ⟨W9, C11, H⟩ := H.chgAt N 1 rfl (isF true FxRules (.slice axRules x.fRules.length cxRules) (mrk x.fRules (kk + (cnt x.fParents : Nat)))) rfl x10 m12
 replace C := C.trans (C11.mono (by intro z hz; have hz : z ∈ FxRules := hz; simp [hz]))
 replace H : St _ _ _ [isF true FxParents (.slice axParents x.fParents.length cxParents) (mrk x.fParents kk), isF true FxRules (.slice axRules x.fRules.length cxRules) (mrk x.fRules (kk + (cnt x.fParents : Nat)))] := H
 refine sp (.int .i64 (kk + (cnt x.fParents : Nat) + (cnt x.fRules : Nat))) ?_
 refine c_nil (t_n ?_)
 refine c_seq ?_
 refine c_reg ?_
 refine sp (.int .i64 (kk + (cnt x.fParents : Nat) + (cnt x.fRules : Nat))) ?_
 refine sp (.int .i64 (kk + (cnt x.fParents : Nat) + (cnt x.fRules : Nat))) ?_
 refine c_nil (t_n ?_)
 refine c_ret (?_)
 simp_all
 refine ret1 (.int .i64 (kk + (cnt x.fParents : Nat) + (cnt x.fRules : Nat))) rfl rfl ⟨_, rfl, ⟨?_, H.get 0 rfl, H.get 1 rfl⟩, C.trans (Chg.ofExt H.base)⟩
 first | rfl | (refine congrArg (Value.int .i64) ?_; rw [cnt_list]; omega)

theorem markState_ok (w : World) (x : StateD) (kk : Int) (axAlive : Option Addr) (cxAlive : Nat) (FxAlive : List Nat) (axBags : Option Addr) (cxBags : Nat) (FxBags : List Nat) (axAround : Option Addr) (cxAround : Nat) (FxAround : List Nat) (hxAlive : GoRep.rep w FxAlive [.slice axAlive x.fAlive.length cxAlive] x.fAlive) (hxBags : GoRep.rep w FxBags [.slice axBags x.fBags.length cxBags] x.fBags) (hxAround : GoRep.rep w FxAround [.slice axAround x.fAround.length cxAround] x.fAround) (nd : (FxAlive ++ FxBags ++ FxAround).Nodup) (fr : FreeAll w (FxAlive ++ FxBags ++ FxAround)) (p0 : 0 ≤ kk) (p1 : kk + (cnt x.fAlive : Nat) + (cnt x.fBags : Nat) + (cnt x.fAround : Nat) ≤ 4611686018427387904) : Calls Try.prog 19 #[.agg #[.slice axAlive x.fAlive.length cxAlive, .slice axBags x.fBags.length cxBags, .slice axAround x.fAround.length cxAround], .int .i64 kk] w (RetM (fun v w' => v = .int .i64 (kk + (cnt x.fAlive : Nat) + (cnt x.fBags : Nat) + (cnt x.fAround : Nat)) ∧ (isF true FxAlive (.slice axAlive x.fAlive.length cxAlive) (mrk x.fAlive kk)).φ w' ∧ (isF true FxBags (.slice axBags x.fBags.length cxBags) (mrk x.fBags (kk + (cnt x.fAlive : Nat)))).φ w' ∧ (isF true FxAround (.slice axAround x.fAround.length cxAround) (mrk x.fAround (kk + (cnt x.fAlive : Nat) + (cnt x.fBags : Nat)))).φ w') (FxAlive ++ FxBags ++ FxAround) w) := by
 refine enter (n := 18) Try.func19 rfl Try.ntmps19 (Nat.le_of_ble_eq_true rfl) ?_
 have H := St.start w
 replace H := H.add (isF true FxAround (.slice axAround x.fAround.length cxAround) x.fAround) ⟨hxAround, fun _ => fr.sub (by intro z hz; simp [hz])⟩ (start_lt hxAround)
 replace H := H.add (isF true FxBags (.slice axBags x.fBags.length cxBags) x.fBags) ⟨hxBags, fun _ => fr.sub (by intro z hz; simp [hz])⟩ (start_lt hxBags)
 replace H := H.add (isF true FxAlive (.slice axAlive x.fAlive.length cxAlive) x.fAlive) ⟨hxAlive, fun _ => fr.sub (by intro z hz; simp [hz])⟩ (start_lt hxAlive)
 have nhxAlive := rep_len hxAlive
 have nhxBags := rep_len hxBags
 have nhxAround := rep_len hxAround
 clear hxAlive hxBags hxAround
 have C : Chg (FxAlive ++ FxBags ++ FxAround) w w := Chg.refl _ _
 have N : ([FxAlive, FxBags, FxAround] : List (List Nat)).flatten.Nodup := by simpa using nd
 refine c_seq ?_
 refine c_reg ?_
 refine sw (o_box H (.agg #[.slice axAlive x.fAlive.length cxAlive, .slice axBags x.fBags.length cxBags, .slice axAround x.fAround.length cxAround]) rfl fun b1 w2 H => ?_)
 replace H : St _ _ [.box b1 [.slice axAlive x.fAlive.length cxAlive, .slice axBags x.fBags.length cxBags, .slice axAround x.fAround.length cxAround] 41] _ := H
 refine sp (.int .i64 0) ?_
 refine c_nil (t_n ?_)
 refine c_seq ?_
 refine c_reg ?_
 refine sw (o_field b1 (0) 0 Try.underlying41 rfl rfl Try.sizeOf36 rfl ?_)
 refine sw (o_load1 (.slice axAlive x.fAlive.length cxAlive) Try.isAgg36 rfl (H.cell 0 rfl rfl) ?_)
 refine sp (.int .i64 kk) ?_
 refine sw (o_callM #[.slice axAlive x.fAlive.length cxAlive, .int .i64 kk] rfl rfl Try.call49 (markBoolS_ok w2 x.fAlive kk axAlive cxAlive FxAlive (H.get 0 rfl).1 (flat_nodup N 0 rfl) ((H.get 0 rfl).2 rfl) (by omega) (by omega)) ?_)
 rintro _ w3 ⟨rfl, m7⟩ x5
 obtain ⟨W4, C6, H⟩ := H.chgAt N 0 rfl (isF true FxAlive (.slice axAlive x.fAlive.length cxAlive) (mrk x.fAlive kk)) rfl x5 m7
 replace C := C.trans (C6.mono (by intro z hz; have hz : z ∈ FxAlive := hz; simp [hz]))
 replace H : St _ _ _ [isF true FxAlive (.slice axAlive x.fAlive.length cxAlive) (mrk x.fAlive kk), isF true FxBags (.slice axBags x.fBags.length cxBags) x.fBags, isF true FxAround (.slice axAround x.fAround.length cxAround) x.fAround] := H
 refine sp (.int .i64 (kk + (cnt x.fAlive : Nat))) ?_
 refine c_nil (t_n ?_)
 refine c_seq ?_
 refine c_reg ?_
 refine sw (o_field b1 (0) 1 Try.underlying41 rfl rfl Try.sizeOf37 rfl ?_)
 refine sw (o_load1 (.slice axBags x.fBags.length cxBags) Try.isAgg37 rfl (H.cell 0 rfl rfl) ?_)
 refine sp (.int .i64 (kk + (cnt x.fAlive : Nat))) ?_
 refine sw (o_callM #[.slice axBags x.fBags.length cxBags, .int .i64 (kk + (cnt x.fAlive : Nat))] rfl rfl Try.call50 (markInt64SS_ok w3 x.fBags (kk + (cnt x.fAlive : Nat)) axBags cxBags FxBags (H.get 1 rfl).1 (flat_nodup N 1 rfl) ((H.get 1 rfl).2 rfl) (by omega) (by omega)) ?_)
 rintro _ w8 ⟨rfl, m12⟩ x10
 obtain ⟨W9, C11, H⟩ := H.chgAt N 1 rfl (isF true FxBags (.slice axBags x.fBags.length cxBags) (mrk x.fBags (kk + (cnt x.fAlive : Nat)))) rfl x10 m12
 replace C := C.trans (C11.mono (by intro z hz; have hz : z ∈ FxBags := hz; simp [hz]))
 replace H : St _ _ _ [isF true FxAlive (.slice axAlive x.fAlive.length cxAlive) (mrk x.fAlive kk), isF true FxBags (.slice axBags x.fBags.length cxBags) (mrk x.fBags (kk + (cnt x.fAlive : Nat))), isF true FxAround (.slice axAround x.fAround.length cxAround) x.fAround] := H
 refine sp (.int .i64 (kk + (cnt x.fAlive : Nat) + (cnt x.fBags : Nat))) ?_
 refine c_nil (t_n ?_)
 refine c_seq ?_
 refine c_reg ?_
 refine sw (o_field b1 (0) 2 Try.underlying41 rfl rfl Try.sizeOf22 rfl ?_)
 refine sw (o_load1 (.slice axAround x.fAround.length cxAround) Try.isAgg22 rfl (H.cell 0 rfl rfl) ?_)
 refine sp (.int .i64 (kk + (cnt x.fAlive : Nat) + (cnt x.fBags : Nat))) ?_
 refine sw (o_callM #[.slice axAround x.fAround.length cxAround, .int .i64 (kk + (cnt x.fAlive : Nat) + (cnt x.fBags : Nat))] rfl rfl Try.call47 (markInt64S_ok w8 x.fAround (kk + (cnt x.fAlive : Nat) + (cnt x.fBags : Nat)) axAround cxAround FxAround (H.get 2 rfl).1 (flat_nodup N 2 rfl) ((H.get 2 rfl).2 rfl) (by omega) (by omega)) ?_)
 rintro _ w13 ⟨rfl, m17⟩ x15
 obtain ⟨W14, C16, H⟩ := H.chgAt N 2 rfl (isF true FxAround (.slice axAround x.fAround.length cxAround) (mrk x.fAround (kk + (cnt x.fAlive : Nat) + (cnt x.fBags : Nat)))) rfl x15 m17
 replace C := C.trans (C16.mono (by intro z hz; have hz : z ∈ FxAround := hz; simp [hz]))
 replace H : St _ _ _ [isF true FxAlive (.slice axAlive x.fAlive.length cxAlive) (mrk x.fAlive kk), isF true FxBags (.slice axBags x.fBags.length cxBags) (mrk x.fBags (kk + (cnt x.fAlive : Nat))), isF true FxAround (.slice axAround x.fAround.length cxAround) (mrk x.fAround (kk + (cnt x.fAlive : Nat) + (cnt x.fBags : Nat)))] := H
 refine sp (.int .i64 (kk + (cnt x.fAlive : Nat) + (cnt x.fBags : Nat) + (cnt x.fAround : Nat))) ?_
 refine c_nil (t_n ?_)
 refine c_seq ?_
 refine c_reg ?_
 refine sp (.int .i64 (kk + (cnt x.fAlive : Nat) + (cnt x.fBags : Nat) + (cnt x.fAround : Nat))) ?_
 refine sp (.int .i64 (kk + (cnt x.fAlive : Nat) + (cnt x.fBags : Nat) + (cnt x.fAround : Nat))) ?_
 refine c_nil (t_n ?_)
 refine c_ret (?_)
 simp_all
 refine ret1 (.int .i64 (kk + (cnt x.fAlive : Nat) + (cnt x.fBags : Nat) + (cnt x.fAround : Nat))) rfl rfl ⟨_, rfl, ⟨?_, H.get 0 rfl, H.get 1 rfl, H.get 2 rfl⟩, C.trans (Chg.ofExt H.base)⟩
 first | rfl | (refine congrArg (Value.int .i64) ?_; rw [cnt_list]; omega)

theorem heldInt64S_ok (w : World) (x : List Int) (kk : Int) (ax : Option Addr) (cx : Nat) (Fx : List Nat) (hx : GoRep.rep w Fx [.slice ax x.length cx] x) (m : mkd x kk) (p0 : 0 ≤ kk) (p1 : kk + (cnt x : Nat) ≤ 4611686018427387904) : Calls Try.prog 53 #[.slice ax x.length cx, .int .i64 kk] w (Ret (fun v w' => v = .int .i64 (kk + (cnt x : Nat))) w) := by
 refine enter (n := 21) Try.func53 rfl Try.ntmps53 (Nat.le_of_ble_eq_true rfl) ?_
 have H := St.start w
 replace H := H.add (isF false Fx (.slice ax x.length cx) x) ⟨hx, by simp⟩ (start_lt hx)
 have nhx := rep_len hx
 clear hx
 refine c_seq ?_
 refine c_reg ?_
 refine sp (.int .i64 0) ?_
 refine c_nil (t_n ?_)
 refine c_seq ?_
 refine c_seq ?_
 refine c_reg ?_
 refine sp (.int .i64 0) ?_
 refine c_nil (t_n ?_)
 refine c_block ?_
 refine c_loop (fun m' ρ w1 => ∃ (junk : Env) (k : Nat) (r : Int), ρ = upd (upd (upd junk 0 (.slice ax x.length cx)) 1 (.int .i64 r)) 5 (.int .i64 k) ∧ (k ≤ x.length) ∧ (r = kk + (cntTo x k : Nat)) ∧ m' = x.length - k ∧ St w w1 [] [isF false Fx (.slice ax x.length cx) x]) (x.length - 0) ⟨_, 0, kk, (by exact upd_eq (upd_eq (upd_eq (rfl) rfl) rfl) rfl), (by omega), (by exact (Int.add_zero _).symm), rfl, H⟩ ?_
 clear H
 rintro m' ρ w2 ⟨junk, k, r, rfl, i0, i1, rfl, H⟩
 have hc := fun h => cnt_get (l := x) (k := k) h
 refine c_seq ?_
 refine c_seq ?_
 refine c_reg ?_
 refine sp (.int .i64 k) ?_
 refine sp (.slice ax x.length cx) ?_
 refine sw (o_len Try.underlying22 ax x.length cx rfl ?_)
 refine sp (.bool (decide ((k : Int) < x.length))) ?_
 refine c_nil (t_n ?_)
 refine c_cond (decide ((k : Int) < x.length)) rfl (fun h3 => ?_) (fun h3 => ?_)
 ·skip
  replace h3 := of_decide_eq_true h3
  have m0 := m k (by omega)
  rw [← i1] at m0
  replace m0 : x[k]! = r := m0
  refine c_skip (t_n ?_)
  refine c_seq ?_
  refine c_block ?_
  refine c_seq ?_
  refine c_seq ?_
  refine c_reg ?_
  refine sp (.slice ax x.length cx) ?_
  refine sp (.int .i64 k) ?_
  obtain ⟨b4, o5, rfl⟩ := H.addr 0 rfl (by omega)
  refine sw (o_idxAt k Try.underlying22 ti2 rfl rfl (by omega) (by omega) ?_)
  refine sw (o_load1 (.int .i64 (x[k]!)) Try.isAgg2 rfl (H.elemInt 0 rfl k (by omega) (by omega)) ?_)
  refine sp (.int .i64 r) ?_
  refine sp (.bool ((x[k]! : Int) != r)) ?_
  refine c_nil (t_n ?_)
  refine c_cond ((x[k]! : Int) != r) rfl (fun h6 => ?_) (fun h6 => ?_)
  ·skip
   replace h6 := bne_iff_ne.1 h6
   refine c_seq ?_
   refine c_reg ?_
   refine sp (.int .i64 (-1)) ?_
   refine c_nil (t_n ?_)
   refine c_ret (t_r (b_r (t_r (t_r (b_r (t_r (?_)))))))
   refine ret1 (.int .i64 (-1)) rfl rfl ⟨_, rfl, ?_, H.base⟩
   exfalso; first | omega | (exact absurd ‹_› ‹¬ _›) | simp_all
  ·skip
   replace h6 := eq_of_bne_false h6
   refine c_skip (t_n ?_)
   refine c_reg ?_
   refine sp (.int .i64 r) ?_
   refine sw (o_add r 1 rfl rfl (by (have := hc (by omega); have e : cnt (x[k]!) = 1 := rfl; omega)) ?_)
   refine sp (.int .i64 (r + 1)) ?_
   refine c_nil (b_n (t_n ?_))
   refine c_reg ?_
   refine sp (.int .i64 k) ?_
   refine sw (o_add k 1 rfl rfl (by (have := hc (by omega); have e : cnt (x[k]!) = 1 := rfl; omega)) ?_)
   refine sp (.int .i64 (k + 1)) ?_
   refine c_nil (?_)
   refine loop_end (m' := x.length - (k + 1)) (by omega) ⟨_, k + 1, r + 1, (by exact upd_eq (upd_eq (upd_eq (rfl) rfl) rfl) rfl), ?_, ?_, rfl, H⟩
   · omega
   · rw [cntTo_succ]; have e : cnt (x[k]!) = 1 := rfl; omega
 ·skip
  replace h3 := of_decide_eq_false h3
  refine c_exit (t_x (t_x (b_x (t_n ?_))))
  refine c_seq ?_
  refine c_reg ?_
  refine sp (.int .i64 r) ?_
  refine sp (.int .i64 r) ?_
  refine c_nil (t_n ?_)
  refine c_ret (?_)
  refine ret1 (.int .i64 r) rfl rfl ⟨_, rfl, ?_, H.base⟩
  first | rfl | (refine congrArg (Value.int .i64) ?_; obtain rfl : k = x.length := (by omega); exact i1)

theorem heldBoolS_ok (w : World) (x : List Bool) (kk : Int) (ax : Option Addr) (cx : Nat) (Fx : List Nat) (hx : GoRep.rep w Fx [.slice ax x.length cx] x) (m : mkd x kk) (p0 : 0 ≤ kk) (p1 : kk + (cnt x : Nat) ≤ 4611686018427387904) : Calls Try.prog 51 #[.slice ax x.length cx, .int .i64 kk] w (Ret (fun v w' => v = .int .i64 (kk + (cnt x : Nat))) w) := by
 refine enter (n := 23) Try.func51 rfl Try.ntmps51 (Nat.le_of_ble_eq_true rfl) ?_
 have H := St.start w
 replace H := H.add (isF false Fx (.slice ax x.length cx) x) ⟨hx, by simp⟩ (start_lt hx)
 have nhx := rep_len hx
 clear hx
 refine c_seq ?_
 refine c_reg ?_
 refine sp (.int .i64 0) ?_
 refine c_nil (t_n ?_)
 refine c_seq ?_
 refine c_seq ?_
 refine c_reg ?_
 refine sp (.int .i64 0) ?_
 refine c_nil (t_n ?_)
 refine c_block ?_
 refine c_loop (fun m' ρ w1 => ∃ (junk : Env) (k : Nat) (r : Int), ρ = upd (upd (upd junk 0 (.slice ax x.length cx)) 1 (.int .i64 r)) 5 (.int .i64 k) ∧ (k ≤ x.length) ∧ (r = kk + (cntTo x k : Nat)) ∧ m' = x.length - k ∧ St w w1 [] [isF false Fx (.slice ax x.length cx) x]) (x.length - 0) ⟨_, 0, kk, (by exact upd_eq (upd_eq (upd_eq (rfl) rfl) rfl) rfl), (by omega), (by exact (Int.add_zero _).symm), rfl, H⟩ ?_
 clear H
 rintro m' ρ w2 ⟨junk, k, r, rfl, i0, i1, rfl, H⟩
 have hc := fun h => cnt_get (l := x) (k := k) h
 refine c_seq ?_
 refine c_seq ?_
 refine c_reg ?_
 refine sp (.int .i64 k) ?_
 refine sp (.slice ax x.length cx) ?_
 refine sw (o_len Try.underlying36 ax x.length cx rfl ?_)
 refine sp (.bool (decide ((k : Int) < x.length))) ?_
 refine c_nil (t_n ?_)
 refine c_cond (decide ((k : Int) < x.length)) rfl (fun h3 => ?_) (fun h3 => ?_)
 ·skip
  replace h3 := of_decide_eq_true h3
  have m0 := m k (by omega)
  rw [← i1] at m0
  replace m0 : x[k]! = (r % 3 == 0) := m0
  refine c_skip (t_n ?_)
  refine c_seq ?_
  refine c_block ?_
  refine c_seq ?_
  refine c_seq ?_
  refine c_reg ?_
  refine sp (.slice ax x.length cx) ?_
  refine sp (.int .i64 k) ?_
  obtain ⟨b4, o5, rfl⟩ := H.addr 0 rfl (by omega)
  refine sw (o_idxAt k Try.underlying36 ti4 rfl rfl (by omega) (by omega) ?_)
  refine sw (o_load1 (.bool (x[k]!)) Try.isAgg4 rfl (H.elemBool 0 rfl k (by omega) (by omega)) ?_)
  refine sp (.int .i64 r) ?_
  refine sw (o_rem r 3 rfl rfl (by (have := hc (by omega); have e : cnt (x[k]!) = 1 := rfl; omega)) (by omega) (by (have := hc (by omega); have e : cnt (x[k]!) = 1 := rfl; omega)) ?_)
  refine sp (.bool ((r % 3 : Int) == 0)) ?_
  refine sw (o_neB Try.underlying4 (x[k]!) ((r % 3 : Int) == 0) rfl rfl ?_)
  refine c_nil (t_n ?_)
  refine c_cond ((x[k]!) != ((r % 3 : Int) == 0)) rfl (fun h6 => ?_) (fun h6 => ?_)
  ·skip
   replace h6 := bne_iff_ne.1 h6
   refine c_seq ?_
   refine c_reg ?_
   refine sp (.int .i64 (-1)) ?_
   refine c_nil (t_n ?_)
   refine c_ret (t_r (b_r (t_r (t_r (b_r (t_r (?_)))))))
   refine ret1 (.int .i64 (-1)) rfl rfl ⟨_, rfl, ?_, H.base⟩
   exfalso; first | omega | (exact absurd ‹_› ‹¬ _›) | simp_all
  ·skip
   replace h6 := eq_of_bne_false h6
   refine c_skip (t_n ?_)
   refine c_reg ?_
   refine sp (.int .i64 r) ?_
   refine sw (o_add r 1 rfl rfl (by (have := hc (by omega); have e : cnt (x[k]!) = 1 := rfl; omega)) ?_)
   refine sp (.int .i64 (r + 1)) ?_
   refine c_nil (b_n (t_n ?_))
   refine c_reg ?_
   refine sp (.int .i64 k) ?_
   refine sw (o_add k 1 rfl rfl (by (have := hc (by omega); have e : cnt (x[k]!) = 1 := rfl; omega)) ?_)
   refine sp (.int .i64 (k + 1)) ?_
   refine c_nil (?_)
   refine loop_end (m' := x.length - (k + 1)) (by omega) ⟨_, k + 1, r + 1, (by exact upd_eq (upd_eq (upd_eq (rfl) rfl) rfl) rfl), ?_, ?_, rfl, H⟩
   · omega
   · rw [cntTo_succ]; have e : cnt (x[k]!) = 1 := rfl; omega
 ·skip
  replace h3 := of_decide_eq_false h3
  refine c_exit (t_x (t_x (b_x (t_n ?_))))
  refine c_seq ?_
  refine c_reg ?_
  refine sp (.int .i64 r) ?_
  refine sp (.int .i64 r) ?_
  refine c_nil (t_n ?_)
  refine c_ret (?_)
  refine ret1 (.int .i64 r) rfl rfl ⟨_, rfl, ?_, H.base⟩
  first | rfl | (refine congrArg (Value.int .i64) ?_; obtain rfl : k = x.length := (by omega); exact i1)

theorem heldInt64SS_ok (w : World) (x : List (List Int)) (kk : Int) (ax : Option Addr) (cx : Nat) (Fx : List Nat) (hx : GoRep.rep w Fx [.slice ax x.length cx] x) (m : mkd x kk) (p0 : 0 ≤ kk) (p1 : kk + (cnt x : Nat) ≤ 4611686018427387904) : Calls Try.prog 52 #[.slice ax x.length cx, .int .i64 kk] w (Ret (fun v w' => v = .int .i64 (kk + (cnt x : Nat))) w) := by
 refine enter (n := 21) Try.func52 rfl Try.ntmps52 (Nat.le_of_ble_eq_true rfl) ?_
 have H := St.start w
 replace H := H.add (isF false Fx (.slice ax x.length cx) x) ⟨hx, by simp⟩ (start_lt hx)
 have nhx := rep_len hx
 clear hx
 refine c_seq ?_
 refine c_reg ?_
 refine sp (.int .i64 0) ?_
 refine c_nil (t_n ?_)
 refine c_seq ?_
 refine c_seq ?_
 refine c_reg ?_
 refine sp (.int .i64 0) ?_
 refine c_nil (t_n ?_)
 refine c_block ?_
 refine c_loop (fun m' ρ w1 => ∃ (junk : Env) (k : Nat) (r : Int), ρ = upd (upd (upd junk 0 (.slice ax x.length cx)) 1 (.int .i64 r)) 5 (.int .i64 k) ∧ (k ≤ x.length) ∧ (r = kk + (cntTo x k : Nat)) ∧ m' = x.length - k ∧ St w w1 [] [isF false Fx (.slice ax x.length cx) x]) (x.length - 0) ⟨_, 0, kk, (by exact upd_eq (upd_eq (upd_eq (rfl) rfl) rfl) rfl), (by omega), (by exact (Int.add_zero _).symm), rfl, H⟩ ?_
 clear H
 rintro m' ρ w2 ⟨junk, k, r, rfl, i0, i1, rfl, H⟩
 have hc := fun h => cnt_get (l := x) (k := k) h
 refine c_seq ?_
 refine c_seq ?_
 refine c_reg ?_
 refine sp (.int .i64 k) ?_
 refine sp (.slice ax x.length cx) ?_
 refine sw (o_len Try.underlying37 ax x.length cx rfl ?_)
 refine sp (.bool (decide ((k : Int) < x.length))) ?_
 refine c_nil (t_n ?_)
 refine c_cond (decide ((k : Int) < x.length)) rfl (fun h3 => ?_) (fun h3 => ?_)
 ·skip
  replace h3 := of_decide_eq_true h3
  have m0 := m k (by omega)
  rw [← i1] at m0
  refine c_skip (t_n ?_)
  refine c_seq ?_
  refine c_block ?_
  refine c_seq ?_
  refine c_reg ?_
  refine sp (.slice ax x.length cx) ?_
  refine sp (.int .i64 k) ?_
  obtain ⟨b4, o5, rfl⟩ := H.addr 0 rfl (by omega)
  obtain ⟨ae6, ce6, Fe6, H⟩ := H.elemList 0 rfl k k (by omega) (by omega) (by omega)
  refine sw (o_idxAt k Try.underlying37 ti22 rfl rfl (by omega) (by omega) ?_)
  refine sw (o_load1 (.slice ae6 ((x[k]!).length) ce6) Try.isAgg22 rfl (H.cellF 1 rfl 0 rfl) ?_)
  refine sp (.int .i64 r) ?_
  refine sw (o_call #[.slice ae6 ((x[k]!).length) ce6, .int .i64 r] rfl rfl Try.call53 (heldInt64S_ok w2 (x[k]!) r ae6 ce6 Fe6 (H.get 0 rfl).1 (by assumption) (by (have := hc (by omega); skip; omega)) (by (have := hc (by omega); skip; omega))) ?_)
  rintro _ w7 rfl x8
  replace H := H.ext x8
  refine sp (.int .i64 (r + (cnt (x[k]!) : Nat))) ?_
  refine c_nil (t_n ?_)
  refine c_seq ?_
  refine c_reg ?_
  refine sp (.int .i64 (r + (cnt (x[k]!) : Nat))) ?_
  refine sp (.bool (decide ((r + (cnt (x[k]!) : Nat) : Int) < 0))) ?_
  refine c_nil (t_n ?_)
  refine c_cond (decide ((r + (cnt (x[k]!) : Nat) : Int) < 0)) rfl (fun h9 => ?_) (fun h9 => ?_)
  ·skip
   replace h9 := of_decide_eq_true h9
   refine c_seq ?_
   refine c_reg ?_
   refine sp (.int .i64 (-1)) ?_
   refine c_nil (t_n ?_)
   refine c_ret (b_r (t_r (t_r (b_r (t_r (?_))))))
   refine ret1 (.int .i64 (-1)) rfl rfl ⟨_, rfl, ?_, H.base⟩
   exfalso; first | omega | (exact absurd ‹_› ‹¬ _›) | simp_all
  ·skip
   replace h9 := of_decide_eq_false h9
   refine c_skip (b_n (t_n ?_))
   refine c_reg ?_
   refine sp (.int .i64 k) ?_
   refine sw (o_add k 1 rfl rfl (by (have := hc (by omega); skip; omega)) ?_)
   refine sp (.int .i64 (k + 1)) ?_
   refine c_nil (?_)
   refine loop_end (m' := x.length - (k + 1)) (by omega) ⟨_, k + 1, r + (cnt (x[k]!) : Nat), (by exact upd_eq (upd_eq (upd_eq (rfl) rfl) rfl) rfl), ?_, ?_, rfl, H.sel _ (.refl _) _ (by simp)⟩
   · omega
   · rw [cntTo_succ]; skip; omega
 ·skip
  replace h3 := of_decide_eq_false h3
  refine c_exit (t_x (t_x (b_x (t_n ?_))))
  refine c_seq ?_
  refine c_reg ?_
  refine sp (.int .i64 r) ?_
  refine sp (.int .i64 r) ?_
  refine c_nil (t_n ?_)
  refine c_ret (?_)
  refine ret1 (.int .i64 r) rfl rfl ⟨_, rfl, ?_, H.base⟩
  first | rfl | (refine congrArg (Value.int .i64) ?_; obtain rfl : k = x.length := (by omega); exact i1)

theorem heldState_ok (w : World) (x : StateD) (kk : Int) (axAlive : Option Addr) (cxAlive : Nat) (FxAlive : List Nat) (axBags : Option Addr) (cxBags : Nat) (FxBags : List Nat) (axAround : Option Addr) (cxAround : Nat) (FxAround : List Nat) (hxAlive : GoRep.rep w FxAlive [.slice axAlive x.fAlive.length cxAlive] x.fAlive) (hxBags : GoRep.rep w FxBags [.slice axBags x.fBags.length cxBags] x.fBags) (hxAround : GoRep.rep w FxAround [.slice axAround x.fAround.length cxAround] x.fAround) (m0 : mkd x.fAlive (kk)) (m1 : mkd x.fBags (kk + (cnt x.fAlive : Nat))) (m2 : mkd x.fAround (kk + (cnt x.fAlive : Nat) + (cnt x.fBags : Nat))) (p0 : 0 ≤ kk) (p1 : kk + (cnt x.fAlive : Nat) + (cnt x.fBags : Nat) + (cnt x.fAround : Nat) ≤ 4611686018427387904) : Calls Try.prog 20 #[.agg #[.slice axAlive x.fAlive.length cxAlive, .slice axBags x.fBags.length cxBags, .slice axAround x.fAround.length cxAround], .int .i64 kk] w (Ret (fun v w' => v = .int .i64 (kk + (cnt x.fAlive : Nat) + (cnt x.fBags : Nat) + (cnt x.fAround : Nat))) w) := by
 refine enter (n := 24) Try.func20 rfl Try.ntmps20 (Nat.le_of_ble_eq_true rfl) ?_
 have H := St.start w
 replace H := H.add (isF false FxAround (.slice axAround x.fAround.length cxAround) x.fAround) ⟨hxAround, by simp⟩ (start_lt hxAround)
 replace H := H.add (isF false FxBags (.slice axBags x.fBags.length cxBags) x.fBags) ⟨hxBags, by simp⟩ (start_lt hxBags)
 replace H := H.add (isF false FxAlive (.slice axAlive x.fAlive.length cxAlive) x.fAlive) ⟨hxAlive, by simp⟩ (start_lt hxAlive)
 have nhxAlive := rep_len hxAlive
 have nhxBags := rep_len hxBags
 have nhxAround := rep_len hxAround
 clear hxAlive hxBags hxAround
 refine c_seq ?_
 refine c_reg ?_
 refine sw (o_box H (.agg #[.slice axAlive x.fAlive.length cxAlive, .slice axBags x.fBags.length cxBags, .slice axAround x.fAround.length cxAround]) rfl fun b1 w2 H => ?_)
 replace H : St _ _ [.box b1 [.slice axAlive x.fAlive.length cxAlive, .slice axBags x.fBags.length cxBags, .slice axAround x.fAround.length cxAround] 41] _ := H
 refine sp (.int .i64 0) ?_
 refine c_nil (t_n ?_)
 refine c_seq ?_
 refine c_reg ?_
 refine sw (o_field b1 (0) 0 Try.underlying41 rfl rfl Try.sizeOf36 rfl ?_)
 refine sw (o_load1 (.slice axAlive x.fAlive.length cxAlive) Try.isAgg36 rfl (H.cell 0 rfl rfl) ?_)
 refine sp (.int .i64 kk) ?_
 refine sw (o_call #[.slice axAlive x.fAlive.length cxAlive, .int .i64 kk] rfl rfl Try.call51 (heldBoolS_ok w2 x.fAlive kk axAlive cxAlive FxAlive (H.get 0 rfl).1 (by assumption) (by omega) (by omega)) ?_)
 rintro _ w3 rfl x4
 replace H := H.ext x4
 refine sp (.int .i64 (kk + (cnt x.fAlive : Nat))) ?_
 refine c_nil (t_n ?_)
 refine c_seq ?_
 refine c_seq ?_
 refine c_reg ?_
 refine sp (.int .i64 (kk + (cnt x.fAlive : Nat))) ?_
 refine sp (.bool (decide ((kk + (cnt x.fAlive : Nat) : Int) < 0))) ?_
 refine c_nil (t_n ?_)
 refine c_cond (decide ((kk + (cnt x.fAlive : Nat) : Int) < 0)) rfl (fun h5 => ?_) (fun h5 => ?_)
 ·skip
  replace h5 := of_decide_eq_true h5
  refine c_seq ?_
  refine c_reg ?_
  refine sp (.int .i64 (-1)) ?_
  refine c_nil (t_n ?_)
  refine c_ret (t_r (?_))
  refine ret1 (.int .i64 (-1)) rfl rfl ⟨_, rfl, ?_, H.base⟩
  exfalso; omega
 ·skip
  replace h5 := of_decide_eq_false h5
  refine c_skip (t_n ?_)
  refine c_seq ?_
  refine c_reg ?_
  refine sw (o_field b1 (0) 1 Try.underlying41 rfl rfl Try.sizeOf37 rfl ?_)
  refine sw (o_load1 (.slice axBags x.fBags.length cxBags) Try.isAgg37 rfl (H.cell 0 rfl rfl) ?_)
  refine sp (.int .i64 (kk + (cnt x.fAlive : Nat))) ?_
  refine sw (o_call #[.slice axBags x.fBags.length cxBags, .int .i64 (kk + (cnt x.fAlive : Nat))] rfl rfl Try.call52 (heldInt64SS_ok w3 x.fBags (kk + (cnt x.fAlive : Nat)) axBags cxBags FxBags (H.get 1 rfl).1 (by assumption) (by omega) (by omega)) ?_)
  rintro _ w6 rfl x7
  replace H := H.ext x7
  refine sp (.int .i64 ((kk + (cnt x.fAlive : Nat)) + (cnt x.fBags : Nat))) ?_
  refine c_nil (t_n ?_)
  refine c_seq ?_
  refine c_seq ?_
  refine c_reg ?_
  refine sp (.int .i64 ((kk + (cnt x.fAlive : Nat)) + (cnt x.fBags : Nat))) ?_
  refine sp (.bool (decide (((kk + (cnt x.fAlive : Nat)) + (cnt x.fBags : Nat) : Int) < 0))) ?_
  refine c_nil (t_n ?_)
  refine c_cond (decide (((kk + (cnt x.fAlive : Nat)) + (cnt x.fBags : Nat) : Int) < 0)) rfl (fun h8 => ?_) (fun h8 => ?_)
  ·skip
   replace h8 := of_decide_eq_true h8
   refine c_seq ?_
   refine c_reg ?_
   refine sp (.int .i64 (-1)) ?_
   refine c_nil (t_n ?_)
   refine c_ret (t_r (?_))
   refine ret1 (.int .i64 (-1)) rfl rfl ⟨_, rfl, ?_, H.base⟩
   exfalso; omega
  ·skip
   replace h8 := of_decide_eq_false h8
   refine c_skip (t_n ?_)
   refine c_seq ?_
   refine c_reg ?_
   refine sw (o_field b1 (0) 2 Try.underlying41 rfl rfl Try.sizeOf22 rfl ?_)
   refine sw (o_load1 (.slice axAround x.fAround.length cxAround) Try.isAgg22 rfl (H.cell 0 rfl rfl) ?_)
   refine sp (.int .i64 ((kk + (cnt x.fAlive : Nat)) + (cnt x.fBags : Nat))) ?_
   refine sw (o_call #[.slice axAround x.fAround.length cxAround, .int .i64 ((kk + (cnt x.fAlive : Nat)) + (cnt x.fBags : Nat))] rfl rfl Try.call53 (heldInt64S_ok w6 x.fAround ((kk + (cnt x.fAlive : Nat)) + (cnt x.fBags : Nat)) axAround cxAround FxAround (H.get 2 rfl).1 (by assumption) (by omega) (by omega)) ?_)
   rintro _ w9 rfl x10
   replace H := H.ext x10
   refine sp (.int .i64 (((kk + (cnt x.fAlive : Nat)) + (cnt x.fBags : Nat)) + (cnt x.fAround : Nat))) ?_
   refine c_nil (t_n ?_)
   refine c_seq ?_
   refine c_seq ?_
   refine c_reg ?_
   refine sp (.int .i64 (((kk + (cnt x.fAlive : Nat)) + (cnt x.fBags : Nat)) + (cnt x.fAround : Nat))) ?_
   refine sp (.bool (decide ((((kk + (cnt x.fAlive : Nat)) + (cnt x.fBags : Nat)) + (cnt x.fAround : Nat) : Int) < 0))) ?_
   refine c_nil (t_n ?_)
   refine c_cond (decide ((((kk + (cnt x.fAlive : Nat)) + (cnt x.fBags : Nat)) + (cnt x.fAround : Nat) : Int) < 0)) rfl (fun h11 => ?_) (fun h11 => ?_)
   ·skip
    replace h11 := of_decide_eq_true h11
    refine c_seq ?_
    refine c_reg ?_
    refine sp (.int .i64 (-1)) ?_
    refine c_nil (t_n ?_)
    refine c_ret (t_r (?_))
    refine ret1 (.int .i64 (-1)) rfl rfl ⟨_, rfl, ?_, H.base⟩
    exfalso; omega
   ·skip
    replace h11 := of_decide_eq_false h11
    refine c_skip (t_n ?_)
    refine c_seq ?_
    refine c_reg ?_
    refine sp (.int .i64 (((kk + (cnt x.fAlive : Nat)) + (cnt x.fBags : Nat)) + (cnt x.fAround : Nat))) ?_
    refine sp (.int .i64 (((kk + (cnt x.fAlive : Nat)) + (cnt x.fBags : Nat)) + (cnt x.fAround : Nat))) ?_
    refine c_nil (t_n ?_)
    refine c_ret (?_)
    refine ret1 (.int .i64 (((kk + (cnt x.fAlive : Nat)) + (cnt x.fBags : Nat)) + (cnt x.fAround : Nat))) rfl rfl ⟨_, rfl, ?_, H.base⟩
    rfl

end Go.Proofs.Ytkmlihdacnfhdaa
