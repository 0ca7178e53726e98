/- Walks, printed by program (wip/tools/gv.py): what each function comes to, for all arguments. -/
import Derived.Test.YtkmlihdacnfhdaaGreatG24
namespace Go.Proofs.YtkmlihdacnfhdaaGreat
open Go.Proofs.YtkmlihdacnfhdaaGreat.Tot (tot)
open Go.Proofs.YtkmlihdacnfhdaaGreat.Mark (cnt mrk mkd mkd_mark cnt_mark)
open Go.RowKit
set_option linter.unusedVariables false
set_option linter.unusedSimpArgs false
set_option maxRecDepth 100000
set_option maxHeartbeats 4000000



theorem l00Same_ok (w : World) (a : List Int) (b : List Int) (aa : Option Addr) (ca : Nat) (Fa : List Nat) (ab : Option Addr) (cb : Nat) (Fb : List Nat) (ha : qQ.rep w Fa [.slice aa a.length ca] a) (hb : qQ.rep w Fb [.slice ab b.length cb] b) : Calls Tryz.prog 165 #[.slice aa a.length ca, .slice ab b.length cb] w (Ret (fun v w' => v = .bool (decide (a = b))) w) := by
 refine enter (n := 26) Tryz.func165 rfl Tryz.ntmps165 (Nat.le_of_ble_eq_true rfl) ?_
 have H := ((St.start w).arg hb).arg ha
 have nha := qJ ha
 have nhb := qJ hb
 clear ha hb
 have N := Fresh.nil w.heap.size
 refine qm (qy ?_)
 refine sp (.bool false) ?_
 refine qw (t_n (qm (qm (qy ?_))))
 refine sp (.slice aa a.length ca) ?_
 refine sw (zD Tryz.underlying22 aa a.length ca rfl ?_)
 refine sp (.slice ab b.length cb) ?_
 refine sw (zD Tryz.underlying22 ab b.length cb rfl ?_)
 refine sp (.bool ((a.length : Int) != b.length)) ?_
 refine qw (t_n ?_)
 refine qV ((a.length : Int) != b.length) rfl (fun h1 => ?_) (fun h1 => ?_)
 ·skip
  replace h1 := bne_iff_ne.1 h1
  refine qm (qy ?_)
  refine sp (.bool false) ?_
  refine qw (t_n (xx (t_r ?_)))
  refine ret1 (.bool false) rfl rfl ⟨_, rfl, ?_, H.base⟩
  first | rw [decide_eq_false (fun e => by subst e; omega)] | rw [decide_eq_false (zX (k := i) ‹_›)] | rw [decide_eq_false (zX (k := i) (by simpa using ‹_›))]
 replace h1 := xI h1
 refine xh (t_n (qm (qm (qy ?_))))
 refine sp (.int .i64 0) ?_
 refine qw (t_n (xu ?_))
 refine zG (fun m' ρ w2 => ∃ (junk : Env) (i : Nat), ρ = upd (upd (upd junk 0 (.slice aa a.length ca)) 1 (.slice ab b.length cb)) 5 (.int .i64 i) ∧ ((i : Int) ≤ a.length) ∧ (a.take i = b.take i) ∧ m' = (a.length - (i : Int)).toNat ∧ Fresh w.heap.size [] ∧ St w w2 [] [isF false Fa (.slice aa a.length ca) a, isF false Fb (.slice ab b.length cb) b]) ((a.length - (0 : Int)).toNat) ⟨_, 0, (by exact qj (qj (qj (rfl) rfl) rfl) rfl), (by omega), (by rfl), rfl, N, H⟩ ?_
 clear H N
 rintro m' ρ w3 ⟨junk, i, rfl, i0, i1, rfl, N, H⟩
 refine qm (qm (qy ?_))
 refine sps [.int .i64 i, .slice aa a.length ca] ?_
 refine sw (zD Tryz.underlying22 aa a.length ca rfl ?_)
 refine sp (.bool (decide ((i : Int) < a.length))) ?_
 refine qw (t_n ?_)
 refine qV (decide ((i : Int) < a.length)) rfl (fun h4 => ?_) (fun h4 => ?_)
 ·skip
  replace h4 := of_decide_eq_true h4
  refine xh (t_n (qm (xu (qm ?_))))
  refine jk rfl H fun H => ?_
  refine rtp 0 (.slice aa a.length ca) H ?_
  refine rtp 1 (.int .i64 i) H ?_
  obtain ⟨b6, o7, rfl⟩ := H.addr 0 rfl (by omega)
  refine rt 2 (pp b6 (o7 + (i : Int).toNat * 1)) (xN b6 (o7) a.length ca i Tryz.underlying22 ti2 rfl rfl (by omega) (by omega)) H ?_
  refine rt 3 (.int .i64 (a[i]!)) (xm Tryz.isAgg2 rfl (fun _ h => h.vP 0 rfl i (by omega) (by omega))) H ?_
  refine rtp 4 (.slice ab b.length cb) H ?_
  refine rtp 5 (.int .i64 i) H ?_
  obtain ⟨b9, o10, rfl⟩ := H.addr 1 rfl (by omega)
  refine rt 6 (pp b9 (o10 + (i : Int).toNat * 1)) (xN b9 (o10) b.length cb i Tryz.underlying22 ti2 rfl rfl (by omega) (by omega)) H ?_
  refine rt 7 (.int .i64 (b[i]!)) (xm Tryz.isAgg2 rfl (fun _ h => h.vP 1 rfl i (by omega) (by omega))) H ?_
  refine rtp 8 (.bool ((a[i]! : Int) != (b[i]!))) H ?_
  refine xO (by kernel_rfl) (t_n ?_)
  refine qV ((a[i]! : Int) != (b[i]!)) rfl (fun h12 => ?_) (fun h12 => ?_)
  ·skip
   replace h12 := bne_iff_ne.1 h12
   refine qm (qy ?_)
   refine sp (.bool false) ?_
   refine qw (t_n (xx (b_r (t_r (t_r (b_r (t_r ?_)))))))
   refine ret1 (.bool false) rfl rfl ⟨_, rfl, ?_, H.base⟩
   first | rw [decide_eq_false (fun e => by subst e; omega)] | rw [decide_eq_false (zX (k := i) ‹_›)] | rw [decide_eq_false (zX (k := i) (by simpa using ‹_›))]
  replace h12 := xI h12
  refine xh (b_n (t_n (qy ?_)))
  refine sp (.int .i64 i) ?_
  refine sw (zJ i 1 rfl rfl (by omega) ?_)
  refine sp (.int .i64 (i + 1)) ?_
  refine qw ?_
  refine xF (m' := (a.length - ((i + 1) : Int)).toNat) (by omega) ⟨_, i + 1, (by exact qj (qj (qj (rfl) rfl) rfl) rfl), ?_, ?_, rfl, N, H⟩
  · omega
  · exact Qu (by omega) (by omega) i1 (by first | assumption | omega)
 replace h4 := of_decide_eq_false h4
 refine zy (t_x (t_x (b_x (t_n (qm (qy ?_))))))
 refine sp (.bool true) ?_
 refine qw (t_n (xx ?_))
 refine ret1 (.bool true) rfl rfl ⟨_, rfl, ?_, H.base⟩
 rw [decide_eq_true (vw (k := i) (by omega) (by omega) i1)]

theorem equalI_ok (w : World) (a : List Int) (b : List Int) (aa : Option Addr) (ca : Nat) (Fa : List Nat) (ab : Option Addr) (cb : Nat) (Fb : List Nat) (ha : qQ.rep w Fa [.slice aa a.length ca] a) (hb : qQ.rep w Fb [.slice ab b.length cb] b) : Calls Tryz.prog 159 #[.slice aa a.length ca, .slice ab b.length cb] w (Ret (fun v w' => v = .bool (decide (a = b))) w) := by
 refine enter (n := 26) Tryz.func159 rfl Tryz.ntmps159 (Nat.le_of_ble_eq_true rfl) ?_
 have H := ((St.start w).arg hb).arg ha
 have nha := qJ ha
 have nhb := qJ hb
 clear ha hb
 have N := Fresh.nil w.heap.size
 refine qm (qy ?_)
 refine sp (.bool false) ?_
 refine qw (t_n (qm (qm (qy ?_))))
 refine sp (.slice aa a.length ca) ?_
 refine sw (zD Tryz.underlying22 aa a.length ca rfl ?_)
 refine sp (.slice ab b.length cb) ?_
 refine sw (zD Tryz.underlying22 ab b.length cb rfl ?_)
 refine sp (.bool ((a.length : Int) != b.length)) ?_
 refine qw (t_n ?_)
 refine qV ((a.length : Int) != b.length) rfl (fun h1 => ?_) (fun h1 => ?_)
 ·skip
  replace h1 := bne_iff_ne.1 h1
  refine qm (qy ?_)
  refine sp (.bool false) ?_
  refine qw (t_n (xx (t_r ?_)))
  refine ret1 (.bool false) rfl rfl ⟨_, rfl, ?_, H.base⟩
  first | rw [decide_eq_false (fun e => by subst e; omega)] | rw [decide_eq_false (zX (k := i) ‹_›)] | rw [decide_eq_false (zX (k := i) (by simpa using ‹_›))]
 replace h1 := xI h1
 refine xh (t_n (qm (qm (qy ?_))))
 refine sp (.slice aa a.length ca) ?_
 refine sw (zD Tryz.underlying22 aa a.length ca rfl ?_)
 refine sp (.int .i64 0) ?_
 refine qw (t_n (xu ?_))
 refine zG (fun m' ρ w2 => ∃ (junk : Env) (i : Nat), ρ = upd (upd (upd (upd junk 0 (.slice aa a.length ca)) 1 (.slice ab b.length cb)) 12 (.int .i64 a.length)) 13 (.int .i64 i) ∧ ((i : Int) ≤ a.length) ∧ (a.take i = b.take i) ∧ m' = (a.length - (i : Int)).toNat ∧ Fresh w.heap.size [] ∧ St w w2 [] [isF false Fa (.slice aa a.length ca) a, isF false Fb (.slice ab b.length cb) b]) ((a.length - (0 : Int)).toNat) ⟨_, 0, (by exact qj (qj (qj (qj (rfl) rfl) rfl) rfl) rfl), (by omega), (by rfl), rfl, N, H⟩ ?_
 clear H N
 rintro m' ρ w3 ⟨junk, i, rfl, i0, i1, rfl, N, H⟩
 refine qm (qy ?_)
 refine sp (.bool (decide ((i : Int) < a.length))) ?_
 refine qw (t_n (qm ?_))
 refine qV (decide ((i : Int) < a.length)) rfl (fun h4 => ?_) (fun h4 => ?_)
 ·skip
  replace h4 := of_decide_eq_true h4
  refine xh (t_n (qm (xu (qm (qy ?_)))))
  refine sps [.int .i64 i, .int .i64 i] ?_
  refine qw (t_n (qm ?_))
  refine jk rfl H fun H => ?_
  refine rtp 0 (.slice aa a.length ca) H ?_
  refine rtp 1 (.int .i64 i) H ?_
  obtain ⟨b6, o7, rfl⟩ := H.addr 0 rfl (by omega)
  refine rt 2 (pp b6 (o7 + (i : Int).toNat * 1)) (xN b6 (o7) a.length ca i Tryz.underlying22 ti2 rfl rfl (by omega) (by omega)) H ?_
  refine rt 3 (.int .i64 (a[i]!)) (xm Tryz.isAgg2 rfl (fun _ h => h.vP 0 rfl i (by omega) (by omega))) H ?_
  refine rtp 4 (.slice ab b.length cb) H ?_
  refine rtp 5 (.int .i64 i) H ?_
  obtain ⟨b9, o10, rfl⟩ := H.addr 1 rfl (by omega)
  refine rt 6 (pp b9 (o10 + (i : Int).toNat * 1)) (xN b9 (o10) b.length cb i Tryz.underlying22 ti2 rfl rfl (by omega) (by omega)) H ?_
  refine rt 7 (.int .i64 (b[i]!)) (xm Tryz.isAgg2 rfl (fun _ h => h.vP 1 rfl i (by omega) (by omega))) H ?_
  refine rtp 8 (.bool ((a[i]! : Int) != (b[i]!))) H ?_
  refine xO (by kernel_rfl) (t_n ?_)
  refine qV ((a[i]! : Int) != (b[i]!)) rfl (fun h12 => ?_) (fun h12 => ?_)
  ·skip
   replace h12 := bne_iff_ne.1 h12
   refine qm (qy ?_)
   refine sp (.bool false) ?_
   refine qw (t_n (xx (b_r (t_r (t_r (b_r (t_r ?_)))))))
   refine ret1 (.bool false) rfl rfl ⟨_, rfl, ?_, H.base⟩
   first | rw [decide_eq_false (fun e => by subst e; omega)] | rw [decide_eq_false (zX (k := i) ‹_›)] | rw [decide_eq_false (zX (k := i) (by simpa using ‹_›))]
  replace h12 := xI h12
  refine xh (b_n (t_n (qy ?_)))
  refine sw (zJ i 1 rfl rfl (by omega) ?_)
  refine sp (.int .i64 (i + 1)) ?_
  refine qw ?_
  refine xF (m' := (a.length - ((i + 1) : Int)).toNat) (by omega) ⟨_, i + 1, (by exact qj (qj (qj (qj (rfl) rfl) rfl) rfl) rfl), ?_, ?_, rfl, N, H⟩
  · omega
  · exact Qu (by omega) (by omega) i1 (by first | assumption | omega)
 replace h4 := of_decide_eq_false h4
 refine zy (t_x (t_x (b_x (t_n (qm (qy ?_))))))
 refine sp (.bool true) ?_
 refine qw (t_n (xx ?_))
 refine ret1 (.bool true) rfl rfl ⟨_, rfl, ?_, H.base⟩
 rw [decide_eq_true (vw (k := i) (by omega) (by omega) i1)]

theorem equalB_ok (w : World) (a : List Bool) (b : List Bool) (aa : Option Addr) (ca : Nat) (Fa : List Nat) (ab : Option Addr) (cb : Nat) (Fb : List Nat) (ha : qQ.rep w Fa [.slice aa a.length ca] a) (hb : qQ.rep w Fb [.slice ab b.length cb] b) : Calls Tryz.prog 157 #[.slice aa a.length ca, .slice ab b.length cb] w (Ret (fun v w' => v = .bool (decide (a = b))) w) := by
 refine enter (n := 26) Tryz.func157 rfl Tryz.ntmps157 (Nat.le_of_ble_eq_true rfl) ?_
 have H := ((St.start w).arg hb).arg ha
 have nha := qJ ha
 have nhb := qJ hb
 clear ha hb
 have N := Fresh.nil w.heap.size
 refine qm (qy ?_)
 refine sp (.bool false) ?_
 refine qw (t_n (qm (qm (qy ?_))))
 refine sp (.slice aa a.length ca) ?_
 refine sw (zD Tryz.underlying26 aa a.length ca rfl ?_)
 refine sp (.slice ab b.length cb) ?_
 refine sw (zD Tryz.underlying26 ab b.length cb rfl ?_)
 refine sp (.bool ((a.length : Int) != b.length)) ?_
 refine qw (t_n ?_)
 refine qV ((a.length : Int) != b.length) rfl (fun h1 => ?_) (fun h1 => ?_)
 ·skip
  replace h1 := bne_iff_ne.1 h1
  refine qm (qy ?_)
  refine sp (.bool false) ?_
  refine qw (t_n (xx (t_r ?_)))
  refine ret1 (.bool false) rfl rfl ⟨_, rfl, ?_, H.base⟩
  first | rw [decide_eq_false (fun e => by subst e; omega)] | rw [decide_eq_false (zX (k := i) ‹_›)] | rw [decide_eq_false (zX (k := i) (by simpa using ‹_›))]
 replace h1 := xI h1
 refine xh (t_n (qm (qm (qy ?_))))
 refine sp (.slice aa a.length ca) ?_
 refine sw (zD Tryz.underlying26 aa a.length ca rfl ?_)
 refine sp (.int .i64 0) ?_
 refine qw (t_n (xu ?_))
 refine zG (fun m' ρ w2 => ∃ (junk : Env) (i : Nat), ρ = upd (upd (upd (upd junk 0 (.slice aa a.length ca)) 1 (.slice ab b.length cb)) 12 (.int .i64 a.length)) 13 (.int .i64 i) ∧ ((i : Int) ≤ a.length) ∧ (a.take i = b.take i) ∧ m' = (a.length - (i : Int)).toNat ∧ Fresh w.heap.size [] ∧ St w w2 [] [isF false Fa (.slice aa a.length ca) a, isF false Fb (.slice ab b.length cb) b]) ((a.length - (0 : Int)).toNat) ⟨_, 0, (by exact qj (qj (qj (qj (rfl) rfl) rfl) rfl) rfl), (by omega), (by rfl), rfl, N, H⟩ ?_
 clear H N
 rintro m' ρ w3 ⟨junk, i, rfl, i0, i1, rfl, N, H⟩
 refine qm (qy ?_)
 refine sp (.bool (decide ((i : Int) < a.length))) ?_
 refine qw (t_n (qm ?_))
 refine qV (decide ((i : Int) < a.length)) rfl (fun h4 => ?_) (fun h4 => ?_)
 ·skip
  replace h4 := of_decide_eq_true h4
  refine xh (t_n (qm (xu (qm (qy ?_)))))
  refine sps [.int .i64 i, .int .i64 i] ?_
  refine qw (t_n (qm ?_))
  refine jk rfl H fun H => ?_
  refine rtp 0 (.slice aa a.length ca) H ?_
  refine rtp 1 (.int .i64 i) H ?_
  obtain ⟨b6, o7, rfl⟩ := H.addr 0 rfl (by omega)
  refine rt 2 (pp b6 (o7 + (i : Int).toNat * 1)) (xN b6 (o7) a.length ca i Tryz.underlying26 ti4 rfl rfl (by omega) (by omega)) H ?_
  refine rt 3 (.bool (a[i]!)) (xm Tryz.isAgg4 rfl (fun _ h => h.Qg 0 rfl i (by omega) (by omega))) H ?_
  refine rtp 4 (.slice ab b.length cb) H ?_
  refine rtp 5 (.int .i64 i) H ?_
  obtain ⟨b9, o10, rfl⟩ := H.addr 1 rfl (by omega)
  refine rt 6 (pp b9 (o10 + (i : Int).toNat * 1)) (xN b9 (o10) b.length cb i Tryz.underlying26 ti4 rfl rfl (by omega) (by omega)) H ?_
  refine rt 7 (.bool (b[i]!)) (xm Tryz.isAgg4 rfl (fun _ h => h.Qg 1 rfl i (by omega) (by omega))) H ?_
  refine rt 8 (.bool ((a[i]!) != (b[i]!))) (y_neB Tryz.underlying4 (a[i]!) (b[i]!) rfl rfl) H ?_
  refine xO (by kernel_rfl) (t_n ?_)
  refine qV ((a[i]!) != (b[i]!)) rfl (fun h12 => ?_) (fun h12 => ?_)
  ·skip
   replace h12 := bne_iff_ne.1 h12
   refine qm (qy ?_)
   refine sp (.bool false) ?_
   refine qw (t_n (xx (b_r (t_r (t_r (b_r (t_r ?_)))))))
   refine ret1 (.bool false) rfl rfl ⟨_, rfl, ?_, H.base⟩
   first | rw [decide_eq_false (fun e => by subst e; omega)] | rw [decide_eq_false (zX (k := i) ‹_›)] | rw [decide_eq_false (zX (k := i) (by simpa using ‹_›))]
  replace h12 := xI h12
  refine xh (b_n (t_n (qy ?_)))
  refine sw (zJ i 1 rfl rfl (by omega) ?_)
  refine sp (.int .i64 (i + 1)) ?_
  refine qw ?_
  refine xF (m' := (a.length - ((i + 1) : Int)).toNat) (by omega) ⟨_, i + 1, (by exact qj (qj (qj (qj (rfl) rfl) rfl) rfl) rfl), ?_, ?_, rfl, N, H⟩
  · omega
  · exact Qu (by omega) (by omega) i1 (by first | assumption | omega)
 replace h4 := of_decide_eq_false h4
 refine zy (t_x (t_x (b_x (t_n (qm (qy ?_))))))
 refine sp (.bool true) ?_
 refine qw (t_n (xx ?_))
 refine ret1 (.bool true) rfl rfl ⟨_, rfl, ?_, H.base⟩
 rw [decide_eq_true (vw (k := i) (by omega) (by omega) i1)]

theorem l02Same_ok (w : World) (a : qP) (b : qP) (ba oa : Nat) (QT : Option Addr) (QG : Nat) (FaAlive : List Nat) (XJ : Option Addr) (Xg : Nat) (FaBags : List Nat) (Ql : Option Addr) (Qi : Nat) (FaAround : List Nat) (bb ob : Nat) (Xi : Option Addr) (Q8 : Nat) (FbAlive : List Nat) (VA : Option Addr) (XA : Nat) (FbBags : List Nat) (Qk : Option Addr) (Qh : Nat) (FbAround : List Nat) (ha : vz w ba oa [.slice QT a.qh.length QG, .slice XJ a.qx.length Xg, .slice Ql a.ql.length Qi]) (haAlive : qQ.rep w FaAlive [.slice QT a.qh.length QG] a.qh) (haBags : qQ.rep w FaBags [.slice XJ a.qx.length Xg] a.qx) (haAround : qQ.rep w FaAround [.slice Ql a.ql.length Qi] a.ql) (hb : vz w bb ob [.slice Xi b.qh.length Q8, .slice VA b.qx.length XA, .slice Qk b.ql.length Qh]) (hbAlive : qQ.rep w FbAlive [.slice Xi b.qh.length Q8] b.qh) (hbBags : qQ.rep w FbBags [.slice VA b.qx.length XA] b.qx) (hbAround : qQ.rep w FbAround [.slice Qk b.ql.length Qh] b.ql) : Calls Tryz.prog 155 #[pp ba oa, pp bb ob] w (Ret (fun v w' => v = .bool (decide (a = b))) w) := by
 refine enter (n := 92) Tryz.func155 rfl Tryz.ntmps155 (Nat.le_of_ble_eq_true rfl) ?_
 have H := ((((((((St.start w).arg hbAround).arg hbBags).arg hbAlive).argAt hb).arg haAround).arg haBags).arg haAlive).argAt ha
 have nhaAlive := qJ haAlive
 have nhaBags := qJ haBags
 have nhaAround := qJ haAround
 have nhbAlive := qJ hbAlive
 have nhbBags := qJ hbBags
 have nhbAround := qJ hbAround
 clear ha haAlive haBags haAround hb hbAlive hbBags hbAround
 have N := Fresh.nil w.heap.size
 refine qm (qy ?_)
 refine sp (.bool false) ?_
 refine qw (t_n (qm (qm ?_)))
 refine jk rfl H fun H => ?_
 refine rtp 0 (pp ba oa) H ?_
 refine rtp 1 (pp ba oa) H ?_
 refine rt 2 (pp ba (oa + 0)) (xE ba (oa) 0 Tryz.underlying38 rfl rfl Tryz.sizeOf26 rfl) H ?_
 refine rt 3 (.slice QT a.qh.length QG) (xm Tryz.isAgg26 rfl (fun _ h => h.xR 0 rfl 0 rfl)) H ?_
 refine rt 4 (.int .i64 a.qh.length) (y_len Tryz.underlying26 QT a.qh.length QG rfl) H ?_
 refine rtp 5 (pp bb ob) H ?_
 refine rtp 6 (pp bb ob) H ?_
 refine rt 7 (pp bb (ob + 0)) (xE bb (ob) 0 Tryz.underlying38 rfl rfl Tryz.sizeOf26 rfl) H ?_
 refine rt 8 (.slice Xi b.qh.length Q8) (xm Tryz.isAgg26 rfl (fun _ h => h.xR 4 rfl 0 rfl)) H ?_
 refine rt 9 (.int .i64 b.qh.length) (y_len Tryz.underlying26 Xi b.qh.length Q8 rfl) H ?_
 refine rtp 10 (.bool ((a.qh.length : Int) != b.qh.length)) H ?_
 refine rtp 11 (.bool ((a.qh.length : Int) != b.qh.length)) H ?_
 cases h2 : ((a.qh.length : Int) != b.qh.length)
 ·skip
  replace h2 := xI h2
  refine rgp 12 (pp ba oa) 18 H ?_
  refine rgp 13 (pp ba oa) 18 H ?_
  refine rg 14 (pp ba (oa + 1)) 18 (xE ba (oa) 1 Tryz.underlying38 rfl rfl Tryz.sizeOf27 rfl) H ?_
  refine rg 15 (.slice XJ a.qx.length Xg) 18 (xm Tryz.isAgg27 rfl (fun _ h => h.xR 0 rfl 1 rfl)) H ?_
  refine rg 16 (.int .i64 a.qx.length) 18 (y_len Tryz.underlying27 XJ a.qx.length Xg rfl) H ?_
  refine rgp 17 (pp bb ob) 18 H ?_
  refine rgp 18 (pp bb ob) 18 H ?_
  refine rg 19 (pp bb (ob + 1)) 18 (xE bb (ob) 1 Tryz.underlying38 rfl rfl Tryz.sizeOf27 rfl) H ?_
  refine rg 20 (.slice VA b.qx.length XA) 18 (xm Tryz.isAgg27 rfl (fun _ h => h.xR 4 rfl 1 rfl)) H ?_
  refine rg 21 (.int .i64 b.qx.length) 18 (y_len Tryz.underlying27 VA b.qx.length XA rfl) H ?_
  refine rgp 22 (.bool ((a.qx.length : Int) != b.qx.length)) 18 H ?_
  refine rtp 23 (.bool ((a.qx.length : Int) != b.qx.length)) H ?_
  refine rtp 24 (.bool ((a.qx.length : Int) != b.qx.length)) H ?_
  cases h3 : ((a.qx.length : Int) != b.qx.length)
  ·skip
   replace h3 := xI h3
   refine rgp 25 (pp ba oa) 31 H ?_
   refine rgp 26 (pp ba oa) 31 H ?_
   refine rg 27 (pp ba (oa + 2)) 31 (xE ba (oa) 2 Tryz.underlying38 rfl rfl Tryz.sizeOf22 rfl) H ?_
   refine rg 28 (.slice Ql a.ql.length Qi) 31 (xm Tryz.isAgg22 rfl (fun _ h => h.xR 0 rfl 2 rfl)) H ?_
   refine rgp 29 (pp bb ob) 31 H ?_
   refine rgp 30 (pp bb ob) 31 H ?_
   refine rg 31 (pp bb (ob + 2)) 31 (xE bb (ob) 2 Tryz.underlying38 rfl rfl Tryz.sizeOf22 rfl) H ?_
   refine rg 32 (.slice Qk b.ql.length Qh) 31 (xm Tryz.isAgg22 rfl (fun _ h => h.xR 4 rfl 2 rfl)) H ?_
   refine xB [33] (by kernel_rfl) (by simp) (r_opG rfl (e := 31) rfl rfl ?_ xC)
   refine xf #[.slice Ql a.ql.length Qi, .slice Qk b.ql.length Qh] rfl rfl Tryz.call165 (l00Same_ok w.drew a.ql b.ql Ql Qi FaAround Qk Qh FbAround (H.get 3 rfl).1 (H.get 7 rfl).1) ?_
   rintro _ w5 rfl x6
   replace H := H.ext x6
   refine ⟨H, ?_⟩
   refine rgp 34 (.bool (!(decide (a.ql = b.ql)))) 31 H ?_
   refine rtp 35 (.bool (!(decide (a.ql = b.ql)))) H ?_
   refine xO (by kernel_rfl) (t_n ?_)
   refine qV (!(decide (a.ql = b.ql))) rfl (fun h7 => ?_) (fun h7 => ?_)
   ·skip
    replace h7 := xe h7
    replace h7 := of_decide_eq_false h7
    refine qm (qy ?_)
    refine sp (.bool false) ?_
    refine qw (t_n (xx (t_r ?_)))
    refine ret1 (.bool false) rfl rfl ⟨_, rfl, ?_, H.base⟩
    rw [decide_eq_false (fun e => by subst e; first | omega | exact absurd rfl (by assumption) | simp_all)]
   replace h7 := qX h7
   replace h7 := of_decide_eq_true h7
   refine xh (t_n (qm (qm (qy ?_))))
   refine sp (.int .i64 0) ?_
   refine qw (t_n (xu ?_))
   refine zG (fun m' ρ w8 => ∃ (junk : Env) (c : Nat), ρ = upd (upd (upd junk 0 (pp ba oa)) 1 (pp bb ob)) 5 (.int .i64 c) ∧ ((c : Int) ≤ a.qh.length) ∧ (a.qh.take c = b.qh.take c) ∧ m' = (a.qh.length - (c : Int)).toNat ∧ Fresh w.heap.size [] ∧ St w w8 [] [atF ba oa [.slice QT a.qh.length QG, .slice XJ a.qx.length Xg, .slice Ql a.ql.length Qi], isF false FaAlive (.slice QT a.qh.length QG) a.qh, isF false FaBags (.slice XJ a.qx.length Xg) a.qx, isF false FaAround (.slice Ql a.ql.length Qi) a.ql, atF bb ob [.slice Xi b.qh.length Q8, .slice VA b.qx.length XA, .slice Qk b.ql.length Qh], isF false FbAlive (.slice Xi b.qh.length Q8) b.qh, isF false FbBags (.slice VA b.qx.length XA) b.qx, isF false FbAround (.slice Qk b.ql.length Qh) b.ql]) ((a.qh.length - (0 : Int)).toNat) ⟨_, 0, (by exact qj (qj (qj (rfl) rfl) rfl) rfl), (by omega), (by rfl), rfl, N, H⟩ ?_
   clear H N
   rintro m' ρ w9 ⟨junk, c, rfl, i0, i1, rfl, N, H⟩
   refine qm (qm (qy ?_))
   refine sps [.int .i64 c, pp ba oa, pp ba oa] ?_
   refine sw (qM ba (oa) 0 Tryz.underlying38 rfl rfl Tryz.sizeOf26 rfl ?_)
   refine sw (qE (.slice QT a.qh.length QG) Tryz.isAgg26 rfl (H.xR 0 rfl 0 rfl) ?_)
   refine sw (zD Tryz.underlying26 QT a.qh.length QG rfl ?_)
   refine sp (.bool (decide ((c : Int) < a.qh.length))) ?_
   refine qw (t_n ?_)
   refine qV (decide ((c : Int) < a.qh.length)) rfl (fun h10 => ?_) (fun h10 => ?_)
   ·skip
    replace h10 := of_decide_eq_true h10
    refine xh (t_n (qm (xu (qm ?_))))
    refine jk rfl H fun H => ?_
    refine rtp 0 (pp ba oa) H ?_
    refine rtp 1 (pp ba oa) H ?_
    refine rt 2 (pp ba (oa + 0)) (xE ba (oa) 0 Tryz.underlying38 rfl rfl Tryz.sizeOf26 rfl) H ?_
    refine rt 3 (.slice QT a.qh.length QG) (xm Tryz.isAgg26 rfl (fun _ h => h.xR 0 rfl 0 rfl)) H ?_
    refine rtp 4 (.int .i64 c) H ?_
    obtain ⟨b12, o13, rfl⟩ := H.addr 1 rfl (by omega)
    refine rt 5 (pp b12 (o13 + (c : Int).toNat * 1)) (xN b12 (o13) a.qh.length QG c Tryz.underlying26 ti4 rfl rfl (by omega) (by omega)) H ?_
    refine rt 6 (.bool (a.qh[c]!)) (xm Tryz.isAgg4 rfl (fun _ h => h.Qg 1 rfl c (by omega) (by omega))) H ?_
    refine rtp 7 (pp bb ob) H ?_
    refine rtp 8 (pp bb ob) H ?_
    refine rt 9 (pp bb (ob + 0)) (xE bb (ob) 0 Tryz.underlying38 rfl rfl Tryz.sizeOf26 rfl) H ?_
    refine rt 10 (.slice Xi b.qh.length Q8) (xm Tryz.isAgg26 rfl (fun _ h => h.xR 4 rfl 0 rfl)) H ?_
    refine rtp 11 (.int .i64 c) H ?_
    obtain ⟨b15, o16, rfl⟩ := H.addr 5 rfl (by omega)
    refine rt 12 (pp b15 (o16 + (c : Int).toNat * 1)) (xN b15 (o16) b.qh.length Q8 c Tryz.underlying26 ti4 rfl rfl (by omega) (by omega)) H ?_
    refine rt 13 (.bool (b.qh[c]!)) (xm Tryz.isAgg4 rfl (fun _ h => h.Qg 5 rfl c (by omega) (by omega))) H ?_
    refine rt 14 (.bool ((a.qh[c]!) != (b.qh[c]!))) (y_neB Tryz.underlying4 (a.qh[c]!) (b.qh[c]!) rfl rfl) H ?_
    refine xO (by kernel_rfl) (t_n ?_)
    refine qV ((a.qh[c]!) != (b.qh[c]!)) rfl (fun h18 => ?_) (fun h18 => ?_)
    ·skip
     replace h18 := bne_iff_ne.1 h18
     refine qm (qy ?_)
     refine sp (.bool false) ?_
     refine qw (t_n (xx (b_r (t_r (t_r (b_r (t_r ?_)))))))
     refine ret1 (.bool false) rfl rfl ⟨_, rfl, ?_, H.base⟩
     rw [decide_eq_false (fun e => by subst e; first | omega | exact absurd rfl (by assumption) | simp_all)]
    replace h18 := xI h18
    refine xh (b_n (t_n (qy ?_)))
    refine sp (.int .i64 c) ?_
    refine sw (zJ c 1 rfl rfl (by omega) ?_)
    refine sp (.int .i64 (c + 1)) ?_
    refine qw ?_
    refine xF (m' := (a.qh.length - ((c + 1) : Int)).toNat) (by omega) ⟨_, c + 1, (by exact qj (qj (qj (rfl) rfl) rfl) rfl), ?_, ?_, rfl, N, H⟩
    · omega
    · exact Qu (by omega) (by omega) i1 (by first | assumption | omega)
   replace h10 := of_decide_eq_false h10
   refine zy (t_x (t_x (b_x (t_n (qm (qm (qy ?_)))))))
   refine sp (.int .i64 0) ?_
   refine qw (t_n (xu ?_))
   refine zG (fun m' ρ w19 => ∃ (junk : Env) (c_1 : Nat), ρ = upd (upd (upd junk 0 (pp ba oa)) 1 (pp bb ob)) 6 (.int .i64 c_1) ∧ ((c_1 : Int) ≤ a.qx.length) ∧ (a.qx.take c_1 = b.qx.take c_1) ∧ m' = (a.qx.length - (c_1 : Int)).toNat ∧ Fresh w.heap.size [] ∧ St w w19 [] [atF ba oa [.slice QT a.qh.length QG, .slice XJ a.qx.length Xg, .slice Ql a.ql.length Qi], isF false FaAlive (.slice QT a.qh.length QG) a.qh, isF false FaBags (.slice XJ a.qx.length Xg) a.qx, isF false FaAround (.slice Ql a.ql.length Qi) a.ql, atF bb ob [.slice Xi b.qh.length Q8, .slice VA b.qx.length XA, .slice Qk b.ql.length Qh], isF false FbAlive (.slice Xi b.qh.length Q8) b.qh, isF false FbBags (.slice VA b.qx.length XA) b.qx, isF false FbAround (.slice Qk b.ql.length Qh) b.ql]) ((a.qx.length - (0 : Int)).toNat) ⟨_, 0, (by exact qj (qj (qj (rfl) rfl) rfl) rfl), (by omega), (by rfl), rfl, N, H⟩ ?_
   clear H N
   rintro m' ρ w20 ⟨junk, c_1, rfl, i0, i2, rfl, N, H⟩
   refine qm (qm (qy ?_))
   refine sps [.int .i64 c_1, pp ba oa, pp ba oa] ?_
   refine sw (qM ba (oa) 1 Tryz.underlying38 rfl rfl Tryz.sizeOf27 rfl ?_)
   refine sw (qE (.slice XJ a.qx.length Xg) Tryz.isAgg27 rfl (H.xR 0 rfl 1 rfl) ?_)
   refine sw (zD Tryz.underlying27 XJ a.qx.length Xg rfl ?_)
   refine sp (.bool (decide ((c_1 : Int) < a.qx.length))) ?_
   refine qw (t_n ?_)
   refine qV (decide ((c_1 : Int) < a.qx.length)) rfl (fun h21 => ?_) (fun h21 => ?_)
   ·skip
    replace h21 := of_decide_eq_true h21
    refine xh (t_n (qm (xu (qm ?_))))
    obtain ⟨b22, o23, rfl⟩ := H.addr 2 rfl (by omega)
    obtain ⟨b25, o26, rfl⟩ := H.addr 6 rfl (by omega)
    refine c_cut (fun ρ w28 => ∃ (junk : Env) (F29 : List Nat) (a30 : Option Addr) (c31 : Nat) (F32 : List Nat) (a33 : Option Addr) (c34 : Nat), ρ = upd (upd (upd (upd junk 0 (pp ba oa)) 1 (pp bb ob)) 6 (.int .i64 c_1)) 91 (.bool (!(decide ((a.qx[c_1]!) = (b.qx[c_1]!))))) ∧ Fresh w.heap.size [] ∧ St w w28 [] [isF false F29 (.slice a30 ((b.qx[c_1]!).length) c31) (b.qx[c_1]!), atF b25 (o26 + (c_1 : Int).toNat * 1) [.slice a30 ((b.qx[c_1]!).length) c31], isF false F32 (.slice a33 ((a.qx[c_1]!).length) c34) (a.qx[c_1]!), atF b22 (o23 + (c_1 : Int).toNat * 1) [.slice a33 ((a.qx[c_1]!).length) c34], atF ba oa [.slice QT a.qh.length QG, .slice (aa b22 o23) a.qx.length Xg, .slice Ql a.ql.length Qi], isF false FaAlive (.slice QT a.qh.length QG) a.qh, isF false FaBags (.slice (aa b22 o23) a.qx.length Xg) a.qx, isF false FaAround (.slice Ql a.ql.length Qi) a.ql, atF bb ob [.slice Xi b.qh.length Q8, .slice (aa b25 o26) b.qx.length XA, .slice Qk b.ql.length Qh], isF false FbAlive (.slice Xi b.qh.length Q8) b.qh, isF false FbBags (.slice (aa b25 o26) b.qx.length XA) b.qx, isF false FbAround (.slice Qk b.ql.length Qh) b.ql]) ?_ ?_
    ·skip
     refine jk rfl H fun H => ?_
     refine rtp 0 (pp ba oa) H ?_
     refine rtp 1 (pp ba oa) H ?_
     refine rt 2 (pp ba (oa + 1)) (xE ba (oa) 1 Tryz.underlying38 rfl rfl Tryz.sizeOf27 rfl) H ?_
     refine rt 3 (.slice (aa b22 o23) a.qx.length Xg) (xm Tryz.isAgg27 rfl (fun _ h => h.xR 0 rfl 1 rfl)) H ?_
     refine rtp 4 (.int .i64 c_1) H ?_
     obtain ⟨ae36, ce36, Fe36, H⟩ := H.jC 2 rfl c_1 c_1 (by omega) (by omega) (by omega)
     have S := H.Qc [] [2, 3, 4, 5, 6, 7, 8, 9]
     refine rt 5 (pp b22 (o23 + (c_1 : Int).toNat * 1)) (xN b22 (o23) a.qx.length Xg c_1 Tryz.underlying27 ti22 rfl rfl (by omega) (by omega)) S ?_
     refine rtp 7 (pp bb ob) S ?_
     refine rtp 8 (pp bb ob) S ?_
     refine rt 9 (pp bb (ob + 1)) (xE bb (ob) 1 Tryz.underlying38 rfl rfl Tryz.sizeOf27 rfl) S ?_
     refine rt 10 (.slice (aa b25 o26) b.qx.length XA) (xm Tryz.isAgg27 rfl (fun _ h => h.xR 4 rfl 1 rfl)) S ?_
     refine rtp 11 (.int .i64 c_1) S ?_
     obtain ⟨ae37, ce37, Fe37, H⟩ := H.jC 8 rfl c_1 c_1 (by omega) (by omega) (by omega)
     refine rt 12 (pp b25 (o26 + (c_1 : Int).toNat * 1)) (xN b25 (o26) b.qx.length XA c_1 Tryz.underlying27 ti22 rfl rfl (by omega) (by omega)) (H.pick [] [4, 5, 6, 7, 8, 9, 10, 11]) ?_
     refine xB [6, 13] (by kernel_rfl) (by simp) (zh rfl ?_ (zh rfl ?_ xC))
     ·skip
      refine qE (.slice ae36 ((a.qx[c_1]!).length) ce36) Tryz.isAgg22 rfl (H.xR 3 rfl 0 rfl) ?_
      refine ⟨H.pick [] [4, 5, 6, 7, 8, 9, 10, 11], ?_⟩
      refine xB [13] (by kernel_rfl) (by simp) (zh rfl ?_ xC)
      refine qE (.slice ae37 ((b.qx[c_1]!).length) ce37) Tryz.isAgg22 rfl (H.xR 1 rfl 0 rfl) ?_
      refine ⟨H.pick [] [4, 5, 6, 7, 8, 9, 10, 11], ?_⟩
      refine xB [14] (by kernel_rfl) (by simp) (zh rfl ?_ xC)
      refine xf #[.slice ae36 ((a.qx[c_1]!).length) ce36, .slice ae37 ((b.qx[c_1]!).length) ce37] rfl rfl Tryz.call165 (l00Same_ok w20.drew (a.qx[c_1]!) (b.qx[c_1]!) ae36 ce36 Fe36 ae37 ce37 Fe37 (H.get 2 rfl).1 (H.get 0 rfl).1) ?_
      rintro _ w39 rfl x40
      replace H := H.ext x40
      refine ⟨H.pick [] [4, 5, 6, 7, 8, 9, 10, 11], ?_⟩
      refine rtp 15 (.bool (!(decide ((a.qx[c_1]!) = (b.qx[c_1]!))))) (H.pick [] [4, 5, 6, 7, 8, 9, 10, 11]) ?_
      refine xO (by kernel_rfl) (?_)
      exact meet ⟨_, Fe37, ae37, ce37, Fe36, ae36, ce36, (by exact qj (qj (qj (qj (rfl) rfl) rfl) rfl) rfl), N, H⟩
     refine qE (.slice ae37 ((b.qx[c_1]!).length) ce37) Tryz.isAgg22 rfl (H.xR 1 rfl 0 rfl) ?_
     refine ⟨H.pick [] [4, 5, 6, 7, 8, 9, 10, 11], ?_⟩
     refine xB [6] (by kernel_rfl) (by simp) (zh rfl ?_ xC)
     refine qE (.slice ae36 ((a.qx[c_1]!).length) ce36) Tryz.isAgg22 rfl (H.xR 3 rfl 0 rfl) ?_
     refine ⟨H.pick [] [4, 5, 6, 7, 8, 9, 10, 11], ?_⟩
     refine xB [14] (by kernel_rfl) (by simp) (zh rfl ?_ xC)
     refine xf #[.slice ae36 ((a.qx[c_1]!).length) ce36, .slice ae37 ((b.qx[c_1]!).length) ce37] rfl rfl Tryz.call165 (l00Same_ok w20.drew (a.qx[c_1]!) (b.qx[c_1]!) ae36 ce36 Fe36 ae37 ce37 Fe37 (H.get 2 rfl).1 (H.get 0 rfl).1) ?_
     rintro _ w42 rfl x43
     replace H := H.ext x43
     refine ⟨H.pick [] [4, 5, 6, 7, 8, 9, 10, 11], ?_⟩
     refine rtp 15 (.bool (!(decide ((a.qx[c_1]!) = (b.qx[c_1]!))))) (H.pick [] [4, 5, 6, 7, 8, 9, 10, 11]) ?_
     refine xO (by kernel_rfl) (?_)
     exact meet ⟨_, Fe37, ae37, ce37, Fe36, ae36, ce36, (by exact qj (qj (qj (qj (rfl) rfl) rfl) rfl) rfl), N, H⟩
    clear H N
    rintro ρ w44 ⟨junk, F29, a30, c31, F32, a33, c34, rfl, N, H⟩
    refine t_n ?_
    refine qV (!(decide ((a.qx[c_1]!) = (b.qx[c_1]!)))) rfl (fun h45 => ?_) (fun h45 => ?_)
    ·skip
     replace h45 := xe h45
     replace h45 := of_decide_eq_false h45
     refine qm (qy ?_)
     refine sp (.bool false) ?_
     refine qw (t_n (xx (b_r (t_r (t_r (b_r (t_r ?_)))))))
     refine ret1 (.bool false) rfl rfl ⟨_, rfl, ?_, H.base⟩
     rw [decide_eq_false (fun e => by subst e; first | omega | exact absurd rfl (by assumption) | simp_all)]
    replace h45 := qX h45
    replace h45 := of_decide_eq_true h45
    refine xh (b_n (t_n (qy ?_)))
    refine sp (.int .i64 c_1) ?_
    refine sw (zJ c_1 1 rfl rfl (by omega) ?_)
    refine sp (.int .i64 (c_1 + 1)) ?_
    refine qw ?_
    refine xF (m' := (a.qx.length - ((c_1 + 1) : Int)).toNat) (by omega) ⟨_, c_1 + 1, (by exact qj (qj (qj (rfl) rfl) rfl) rfl), ?_, ?_, rfl, N, H.pick [] [4, 5, 6, 7, 8, 9, 10, 11]⟩
    · omega
    · exact Qu (by omega) (by omega) i2 (by assumption)
   replace h21 := of_decide_eq_false h21
   refine zy (t_x (t_x (b_x (t_n (qm (qy ?_))))))
   refine sp (.bool true) ?_
   refine qw (t_n (xx ?_))
   refine ret1 (.bool true) rfl rfl ⟨_, rfl, ?_, H.base⟩
   rw [decide_eq_true (state_eq (vw (k := c) (by omega) (by omega) i1) (vw (k := c_1) (by omega) (by omega) i2) (by assumption))]
  replace h3 := bne_iff_ne.1 h3
  refine zC [25, 26, 27, 28, 29, 30, 31, 32, 33, 34] 10 (H) ?_
  refine rtp 35 (.bool true) H ?_
  refine xO (by kernel_rfl) (t_n ?_)
  refine qV true rfl (fun _ => ?_) (fun h => absurd h (by decide))
  refine qm (qy ?_)
  refine sp (.bool false) ?_
  refine qw (t_n (xx (t_r ?_)))
  refine ret1 (.bool false) rfl rfl ⟨_, rfl, ?_, H.base⟩
  rw [decide_eq_false (fun e => by subst e; first | omega | exact absurd rfl (by assumption) | simp_all)]
 replace h2 := bne_iff_ne.1 h2
 refine zC [12, 13, 14, 15, 16, 17, 18, 19, 20, 21, 22] 11 (H) ?_
 refine rtp 23 (.bool true) H ?_
 refine rtp 24 (.bool true) H ?_
 refine zC [25, 26, 27, 28, 29, 30, 31, 32, 33, 34] 10 (H) ?_
 refine rtp 35 (.bool true) H ?_
 refine xO (by kernel_rfl) (t_n ?_)
 refine qV true rfl (fun _ => ?_) (fun h => absurd h (by decide))
 refine qm (qy ?_)
 refine sp (.bool false) ?_
 refine qw (t_n (xx (t_r ?_)))
 refine ret1 (.bool false) rfl rfl ⟨_, rfl, ?_, H.base⟩
 rw [decide_eq_false (fun e => by subst e; first | omega | exact absurd rfl (by assumption) | simp_all)]

theorem l03Find_ok (w : World) (l : List qP) (u : qP) (al : Option Addr) (cl : Nat) (Fl : List Nat) (bu ou : Nat) (auAlive : Option Addr) (cuAlive : Nat) (FuAlive : List Nat) (auBags : Option Addr) (cuBags : Nat) (FuBags : List Nat) (auAround : Option Addr) (cuAround : Nat) (FuAround : List Nat) (hl : qQ.rep w Fl [.slice al l.length cl] l) (hu : vz w bu ou [.slice auAlive u.qh.length cuAlive, .slice auBags u.qx.length cuBags, .slice auAround u.ql.length cuAround]) (huAlive : qQ.rep w FuAlive [.slice auAlive u.qh.length cuAlive] u.qh) (huBags : qQ.rep w FuBags [.slice auBags u.qx.length cuBags] u.qx) (huAround : qQ.rep w FuAround [.slice auAround u.ql.length cuAround] u.ql) : Calls Tryz.prog 131 #[.slice al l.length cl, pp bu ou] w (Ret (fun v w' => v = .int .i64 (firstIdx (fun k => decide (l[k]! = u)) l.length)) w) := by
 refine enter (n := 18) Tryz.func131 rfl Tryz.ntmps131 (Nat.le_of_ble_eq_true rfl) ?_
 have H := (((((St.start w).arg huAround).arg huBags).arg huAlive).argAt hu).arg hl
 have nhl := qJ hl
 have nhuAlive := qJ huAlive
 have nhuBags := qJ huBags
 have nhuAround := qJ huAround
 clear hl hu huAlive huBags huAround
 have N := Fresh.nil w.heap.size
 refine qm (qy ?_)
 refine sp (.int .i64 0) ?_
 refine qw (t_n (qm (qm (qy ?_))))
 refine sp (.int .i64 0) ?_
 refine qw (t_n (xu ?_))
 refine zG (fun m' ρ w1 => ∃ (junk : Env) (i : Nat), ρ = upd (upd (upd junk 0 (.slice al l.length cl)) 1 (pp bu ou)) 5 (.int .i64 i) ∧ ((i : Int) ≤ l.length) ∧ (noneTo (fun k => decide (l[k]! = u)) i) ∧ m' = (l.length - (i : Int)).toNat ∧ Fresh w.heap.size [] ∧ St w w1 [] [isF false Fl (.slice al l.length cl) l, atF bu ou [.slice auAlive u.qh.length cuAlive, .slice auBags u.qx.length cuBags, .slice auAround u.ql.length cuAround], isF false FuAlive (.slice auAlive u.qh.length cuAlive) u.qh, isF false FuBags (.slice auBags u.qx.length cuBags) u.qx, isF false FuAround (.slice auAround u.ql.length cuAround) u.ql]) ((l.length - (0 : Int)).toNat) ⟨_, 0, (by exact qj (qj (qj (rfl) rfl) rfl) rfl), (by omega), (by exact fun j hj => by omega), rfl, N, H⟩ ?_
 clear H N
 rintro m' ρ w2 ⟨junk, i, rfl, i0, i1, rfl, N, H⟩
 refine qm (qm (qy ?_))
 refine sps [.int .i64 i, .slice al l.length cl] ?_
 refine sw (zD Tryz.underlying57 al l.length cl rfl ?_)
 refine sp (.bool (decide ((i : Int) < l.length))) ?_
 refine qw (t_n ?_)
 refine qV (decide ((i : Int) < l.length)) rfl (fun h3 => ?_) (fun h3 => ?_)
 ·skip
  replace h3 := of_decide_eq_true h3
  refine xh (t_n (qm (xu (qm (qy ?_)))))
  refine sps [.slice al l.length cl, .int .i64 i] ?_
  obtain ⟨b4, o5, rfl⟩ := H.addr 0 rfl (by omega)
  obtain ⟨ae7Alive, ce7Alive, Fe7Alive, ae7Bags, ce7Bags, Fe7Bags, ae7Around, ce7Around, Fe7Around, H⟩ := H.elem_StateD 0 rfl i i (by omega) (by omega) (by omega)
  refine sw (xJ i Tryz.underlying57 ti38 rfl rfl (by omega) (by omega) ?_)
  refine sp (pp bu ou) ?_
  refine sw (xf #[pp b4 (o5 + (i : Int).toNat * 3), pp bu ou] rfl rfl Tryz.call155 (l02Same_ok w2 (l[i]!) u b4 (o5 + (i : Int).toNat * 3) ae7Alive ce7Alive Fe7Alive ae7Bags ce7Bags Fe7Bags ae7Around ce7Around Fe7Around bu ou auAlive cuAlive FuAlive auBags cuBags FuBags auAround cuAround FuAround (qG (H.get 3 rfl) 0 3) (H.get 0 rfl).1 (H.get 1 rfl).1 (H.get 2 rfl).1 (qG (H.get 5 rfl) 0 3) (H.get 6 rfl).1 (H.get 7 rfl).1 (H.get 8 rfl).1) ?_)
  rintro _ w9 rfl x10
  replace H := H.ext x10
  refine qw (t_n ?_)
  refine qV (decide ((l[i]!) = u)) rfl (fun h11 => ?_) (fun h11 => ?_)
  ·skip
   replace h11 := of_decide_eq_true h11
   refine qm (qy ?_)
   refine sps [.int .i64 i, .int .i64 i] ?_
   refine qw (t_n (xx (b_r (t_r (t_r (b_r (t_r ?_)))))))
   refine ret1 (.int .i64 i) rfl rfl ⟨_, rfl, ?_, H.base⟩
   rw [firstIdx_some (k := i) (by omega) i1 (decide_eq_true ‹_›)]
  replace h11 := of_decide_eq_false h11
  refine xh (b_n (t_n (qy ?_)))
  refine sp (.int .i64 i) ?_
  refine sw (zJ i 1 rfl rfl (by omega) ?_)
  refine sp (.int .i64 (i + 1)) ?_
  refine qw ?_
  refine xF (m' := (l.length - ((i + 1) : Int)).toNat) (by omega) ⟨_, i + 1, (by exact qj (qj (qj (rfl) rfl) rfl) rfl), ?_, ?_, rfl, N, H.pick [] [4, 5, 6, 7, 8]⟩
  · omega
  · exact noneTo_succ i1 (decide_eq_false ‹_›)
 replace h3 := of_decide_eq_false h3
 refine zy (t_x (t_x (b_x (t_n (qm (qy ?_))))))
 refine sp (.int .i64 (-1)) ?_
 refine qw (t_n (xx ?_))
 refine ret1 (.int .i64 (-1)) rfl rfl ⟨_, rfl, ?_, H.base⟩
 rw [firstIdx_none (fun j hj => i1 j (by omega))]

theorem l03Next_ok (w : World) (s : qU) (t : qP) (cs : List (List Int)) (bs os : Nat) (qp : Option Addr) (qo : Nat) (qO : List Nat) (qF : Option Addr) (qC : Nat) (xq : List Nat) (bt ot : Nat) (qN : Option Addr) (qH : Nat) (xK : List Nat) (xG : Option Addr) (xy : Nat) (zk : List Nat) (qL : Option Addr) (qK : Nat) (xH : List Nat) (acs : Option Addr) (ccs : Nat) (Fcs : List Nat) (hs : vz w bs os [.int .i64 s.qI, .slice qp s.qf.length qo, .slice qF s.qg.length qC]) (xn : qQ.rep w qO [.slice qp s.qf.length qo] s.qf) (xM : qQ.rep w xq [.slice qF s.qg.length qC] s.qg) (ht : vz w bt ot [.slice qN t.qh.length qH, .slice xG t.qx.length xy, .slice qL t.ql.length qK]) (zl : qQ.rep w xK [.slice qN t.qh.length qH] t.qh) (zV : qQ.rep w zk [.slice xG t.qx.length xy] t.qx) (xX : qQ.rep w xH [.slice qL t.ql.length qK] t.ql) (hcs : qQ.rep w Fcs [.slice acs cs.length ccs] cs) (p0 : Qb s) (p1 : zM s t) (p2 : cs.length ≤ 1000) (p3 : ∀ q, q < cs.length → CntOk s (cs[q]!)) : Calls Tryz.prog 80 #[pp bs os, pp bt ot, .slice acs cs.length ccs] w (Ret (fun v w' => ∃ (ra0 : Option Addr) (rn0 : Nat) (rc0 : Nat) (rx0 : List Value) (rF0 : List Nat), v = .tuple #[.slice ra0 rn0 rc0, .int .i64 ((Qn s t cs).2)] ∧ Fresh w.heap.size [rF0] ∧ St w w' [.row (.slice ra0 rn0 rc0) 38 3 rn0 rx0] [vK true rF0 rx0 ((Qn s t cs).1)]) w) := by
 refine enter (n := 41) Tryz.func80 rfl Tryz.ntmps80 (Nat.le_of_ble_eq_true rfl) ?_
 have H := ((((((((St.start w).arg hcs).arg xX).arg zV).arg zl).argAt ht).arg xM).arg xn).argAt hs
 have vk := qJ xn
 have jr := qJ xM
 have QX := qJ zl
 have XH := qJ zV
 have yZ := qJ xX
 have nhcs := qJ hcs
 clear hs xn xM ht zl zV xX hcs
 have N := Fresh.nil w.heap.size
 refine qm (qy ?_)
 refine sps [.slice none 0 0, .int .i64 0] ?_
 refine qw (t_n (qm (qy ?_)))
 refine sw (QW H Tryz.underlying57 ti38 fun b1 w2 H => ?_)
 refine sp (.slice (aa b1 0) 0 0) ?_
 refine qw (t_n (qm (qm (qy ?_))))
 refine sp (.int .i64 0) ?_
 refine qw (t_n (xu ?_))
 replace H := H.boxRow 0 rfl 3 0 rfl (by decide)
 try dsimp only [List.set] at H
 replace H := H.Q5 (α := qP)
 replace H : St _ _ [.row (.slice (aa b1 0) 0 0) 38 3 0 []] [vK true [] [] ([] : List qP), atF bs os [.int .i64 s.qI, .slice qp s.qf.length qo, .slice qF s.qg.length qC], isF false qO (.slice qp s.qf.length qo) s.qf, isF false xq (.slice qF s.qg.length qC) s.qg, atF bt ot [.slice qN t.qh.length qH, .slice xG t.qx.length xy, .slice qL t.ql.length qK], isF false xK (.slice qN t.qh.length qH) t.qh, isF false zk (.slice xG t.qx.length xy) t.qx, isF false xH (.slice qL t.ql.length qK) t.ql, isF false Fcs (.slice acs cs.length ccs) cs] := H
 refine zG (fun m' ρ w3 => ∃ (junk : Env) (yH : Option Addr) (vZ : Nat) (yt : Nat) (out : List qP) (x_out : List Value) (F_out : List Nat) (i : Nat), ρ = upd (upd (upd (upd (upd junk 0 (pp bs os)) 1 (pp bt ot)) 2 (.slice acs cs.length ccs)) 8 (.slice yH vZ yt)) 9 (.int .i64 i) ∧ out = ja s t cs i ∧ ((i : Int) ≤ cs.length) ∧ (NoBad s t cs i) ∧ m' = (cs.length - (i : Int)).toNat ∧ Fresh w.heap.size [F_out] ∧ St w w3 [.row (.slice yH vZ yt) 38 3 vZ x_out] [vK true F_out x_out out, atF bs os [.int .i64 s.qI, .slice qp s.qf.length qo, .slice qF s.qg.length qC], isF false qO (.slice qp s.qf.length qo) s.qf, isF false xq (.slice qF s.qg.length qC) s.qg, atF bt ot [.slice qN t.qh.length qH, .slice xG t.qx.length xy, .slice qL t.ql.length qK], isF false xK (.slice qN t.qh.length qH) t.qh, isF false zk (.slice xG t.qx.length xy) t.qx, isF false xH (.slice qL t.ql.length qK) t.ql, isF false Fcs (.slice acs cs.length ccs) cs]) ((cs.length - (0 : Int)).toNat) ⟨_, (aa b1 0), 0, 0, ([] : List qP), [], [], 0, (by exact qj (qj (qj (qj (qj (rfl) rfl) rfl) rfl) rfl) rfl), (by rfl), (by omega), (by exact fun j hj => by omega), rfl, N.emp, H⟩ ?_
 clear H N
 rintro m' ρ w4 ⟨junk, yH, vZ, yt, out, x_out, F_out, i, rfl, rfl, i0, i1, rfl, N, H⟩
 have hn_out := H.zB (α := qP) 0 rfl 0 rfl (by decide)
 have nl := nextTo_len (s := s) (t := t) (cs := cs) i
 refine qm (qm (qy ?_))
 refine sps [.int .i64 i, .slice acs cs.length ccs] ?_
 refine sw (zD Tryz.underlying27 acs cs.length ccs rfl ?_)
 refine sp (.bool (decide ((i : Int) < cs.length))) ?_
 refine qw (t_n ?_)
 refine qV (decide ((i : Int) < cs.length)) rfl (fun h5 => ?_) (fun h5 => ?_)
 ·skip
  replace h5 := of_decide_eq_true h5
  refine xh (t_n (qm (xu (qm (qy ?_)))))
  refine sps [pp bs os, pp bt ot, .slice acs cs.length ccs, .int .i64 i] ?_
  obtain ⟨b6, o7, rfl⟩ := H.addr 8 rfl (by omega)
  obtain ⟨ae9, ce9, Fe9, H⟩ := H.jC 8 rfl i i (by omega) (by omega) (by omega)
  refine sw (xJ i Tryz.underlying27 ti22 rfl rfl (by omega) (by omega) ?_)
  refine sw (qE (.slice ae9 ((cs[i]!).length) ce9) Tryz.isAgg22 rfl (H.xR 1 rfl 0 rfl) ?_)
  have k3 := p3 i (by omega)
  have sz13 := H.base.size
  have lt14 := H.ltN (L := [F_out]) [2]
  refine sw (xf #[pp bs os, pp bt ot, .slice ae9 ((cs[i]!).length) ce9] rfl rfl Tryz.call61 (l03Step_ok w4 s t (cs[i]!) bs os qp qo qO qF qC xq bt ot qN qH xK xG xy zk qL qK xH ae9 ce9 Fe9 (qG (H.get 3 rfl) 0 3) (H.get 4 rfl).1 (H.get 5 rfl).1 (qG (H.get 6 rfl) 0 3) (H.get 7 rfl).1 (H.get 8 rfl).1 (H.get 9 rfl).1 (H.get 0 rfl).1 (by first | assumption | omega) (by first | assumption | omega) (by first | assumption | omega)) ?_)
  rintro _ w11 ⟨ra10aAlive, rn10aAlive, rc10aAlive, ra10aBags, rn10aBags, rc10aBags, rx10aBags, rF10aBags, ra10aAround, rn10aAround, rc10aAround, rfl, M, K⟩ _
  replace N := N.merge sz13 lt14 M
  replace H := H.merge K M
  dsimp only [List.cons_append, List.nil_append] at H
  obtain rfl := H.Vb 0 rfl
  obtain rfl := H.zB (α := List Int) 1 rfl 0 rfl (by decide)
  obtain rfl := H.VB 2 rfl
  refine sps [.tuple #[.agg #[.slice ra10aAlive ((((xU s t (cs[i]!)).1).qh).length) rc10aAlive, .slice ra10aBags ((((xU s t (cs[i]!)).1).qx).length) rc10aBags, .slice ra10aAround ((((xU s t (cs[i]!)).1).ql).length) rc10aAround], .int .i64 ((xU s t (cs[i]!)).2)], .agg #[.slice ra10aAlive ((((xU s t (cs[i]!)).1).qh).length) rc10aAlive, .slice ra10aBags ((((xU s t (cs[i]!)).1).qx).length) rc10aBags, .slice ra10aAround ((((xU s t (cs[i]!)).1).ql).length) rc10aAround], .int .i64 ((xU s t (cs[i]!)).2)] ?_
  refine sw (zL H ti38 [.slice none 0 0, .slice none 0 0, .slice none 0 0] fun b18 w19 H => ?_)
  refine sw (zn H 0 [.slice ra10aAlive ((((xU s t (cs[i]!)).1).qh).length) rc10aAlive, .slice ra10aBags ((((xU s t (cs[i]!)).1).qx).length) rc10aBags, .slice ra10aAround ((((xU s t (cs[i]!)).1).ql).length) rc10aAround] Tryz.sizeOf38 fun w20 H => ?_)
  try dsimp only [List.set] at H
  refine sp (.int .i64 ((xU s t (cs[i]!)).2)) ?_
  refine qw (t_n (qm (qm (qy ?_))))
  refine sps [.int .i64 ((xU s t (cs[i]!)).2), .bool (((xU s t (cs[i]!)).2 : Int) != 0)] ?_
  refine qw (t_n ?_)
  refine qV (((xU s t (cs[i]!)).2 : Int) != 0) rfl (fun h21 => ?_) (fun h21 => ?_)
  ·skip
   replace h21 := bne_iff_ne.1 h21
   refine qm (qy ?_)
   refine sw (QW H Tryz.underlying57 ti38 fun b22 w23 H => ?_)
   refine sps [.int .i64 ((xU s t (cs[i]!)).2), .slice (aa b22 0) 0 0, .int .i64 ((xU s t (cs[i]!)).2)] ?_
   refine qw (t_n (xx (t_r (b_r (t_r (t_r (b_r (t_r ?_))))))))
   replace H := H.boxRow 0 rfl 3 0 rfl (by decide)
   try dsimp only [List.set] at H
   replace H := H.Q5 (α := qP)
   replace H : St _ _ [.row (.slice (aa b22 0) 0 0) 38 3 0 [], .box b18 [.slice ra10aAlive ((((xU s t (cs[i]!)).1).qh).length) rc10aAlive, .slice ra10aBags ((((xU s t (cs[i]!)).1).qx).length) rc10aBags, .slice ra10aAround ((((xU s t (cs[i]!)).1).ql).length) rc10aAround] 38, .row (.slice ra10aAlive ((((xU s t (cs[i]!)).1).qh).length) rc10aAlive) 4 1 ((((xU s t (cs[i]!)).1).qh).length) ((((xU s t (cs[i]!)).1).qh).map (Value.bool)), .row (.slice ra10aBags ((((xU s t (cs[i]!)).1).qx).length) rc10aBags) 22 1 ((((xU s t (cs[i]!)).1).qx).length) rx10aBags, .row (.slice ra10aAround ((((xU s t (cs[i]!)).1).ql).length) rc10aAround) 2 1 ((((xU s t (cs[i]!)).1).ql).length) ((((xU s t (cs[i]!)).1).ql).map (Value.int .i64)), .row (.slice yH vZ yt) 38 3 vZ x_out] [vK true [] [] ([] : List qP), vK true rF10aBags rx10aBags (((xU s t (cs[i]!)).1).qx), isF false Fe9 (.slice ae9 ((cs[i]!).length) ce9) (cs[i]!), atF b6 (o7 + (i : Int).toNat * 1) [.slice ae9 ((cs[i]!).length) ce9], vK true F_out x_out (ja s t cs i), atF bs os [.int .i64 s.qI, .slice qp s.qf.length qo, .slice qF s.qg.length qC], isF false qO (.slice qp s.qf.length qo) s.qf, isF false xq (.slice qF s.qg.length qC) s.qg, atF bt ot [.slice qN t.qh.length qH, .slice xG t.qx.length xy, .slice qL t.ql.length qK], isF false xK (.slice qN t.qh.length qH) t.qh, isF false zk (.slice xG t.qx.length xy) t.qx, isF false xH (.slice qL t.ql.length qK) t.ql, isF false Fcs (.slice (aa b6 o7) cs.length ccs) cs] := H
   refine ret2 (.slice (aa b22 0) 0 0) (.int .i64 ((xU s t (cs[i]!)).2)) rfl rfl rfl ⟨_, rfl, ?_, H.base⟩
   rw [next_bad i1 (by omega) ‹_›]
   exact ⟨(aa b22 0), 0, 0, [], [], rfl, (N.emp.pick [0]), H.pick [0] [0]⟩
  replace h21 := xI h21
  refine xh (t_n (qm (qy ?_)))
  refine sp (.slice yH vZ yt) ?_
  obtain ⟨G24, hn25, h26⟩ := H.rowIsR (α := qP) 4 rfl 3 rfl (by decide)
  obtain ⟨G27, hn28, h29⟩ := H.rowIsB 1 rfl
  obtain ⟨G30, hn31, h32⟩ := H.rowIsR (α := List Int) 2 rfl 0 rfl (by decide)
  obtain ⟨G33, hn34, h35⟩ := H.rowIsI 3 rfl
  refine sw (xf #[.slice yH vZ yt, pp b18 0] rfl rfl Tryz.call131 (args_eq (by rw [← hn25]) (l03Find_ok w20 (ja s t cs i) ((xU s t (cs[i]!)).1) yH yt G24 b18 0 ra10aAlive rc10aAlive G27 ra10aBags rc10aBags G30 ra10aAround rc10aAround G33 (hn25 ▸ h26) (qG (H.cells 0 rfl) 0 3) h29 h32 h35)) ?_)
  rintro _ w37 rfl x38
  replace H := H.ext x38
  refine sp (.bool (decide ((firstIdx (fun k => decide ((ja s t cs i)[k]! = ((xU s t (cs[i]!)).1))) (ja s t cs i).length : Int) < 0))) ?_
  refine qw (t_n ?_)
  refine qV (decide ((firstIdx (fun k => decide ((ja s t cs i)[k]! = ((xU s t (cs[i]!)).1))) (ja s t cs i).length : Int) < 0)) rfl (fun h39 => ?_) (fun h39 => ?_)
  ·skip
   replace h39 := of_decide_eq_true h39
   refine qy ?_
   refine sp (.slice yH vZ yt) ?_
   refine sw (zi [.slice ra10aAlive ((((xU s t (cs[i]!)).1).qh).length) rc10aAlive, .slice ra10aBags ((((xU s t (cs[i]!)).1).qx).length) rc10aBags, .slice ra10aAround ((((xU s t (cs[i]!)).1).ql).length) rc10aAround] Tryz.isAgg38 Tryz.sizeOf38 rfl (qG (H.cells 0 rfl) 0 3) ?_)
   refine sw (Qq H Tryz.underlying57 ti38 [.slice ra10aAlive ((((xU s t (cs[i]!)).1).qh).length) rc10aAlive, .slice ra10aBags ((((xU s t (cs[i]!)).1).qx).length) rc10aBags, .slice ra10aAround ((((xU s t (cs[i]!)).1).ql).length) rc10aAround] fun b40 w41 H => ?_)
   obtain ⟨G45, N, hn46, H⟩ := H.freezeB 2 rfl N (H.XF [0, 3])
   try dsimp only [List.set] at H
   have H0 := H
   obtain ⟨G47, hg49, hn48, H⟩ := H.Vt (α := List Int) 3 rfl 1 rfl (by decide)
   replace N : Fresh w.heap.size [G47, G45, F_out] := Fresh.ice (N.pick [1, 0, 2]) H0 3 hg49.1 hg49.2 (H0.XF [0, 4])
   clear H0
   try dsimp only [List.set] at H
   obtain ⟨G50, N, hn51, H⟩ := H.yh 4 rfl N (H.XF [0, 1, 5])
   try dsimp only [List.set] at H
   refine sw (Qr H 5 rfl 0 rfl Tryz.underlying57 ti38 rfl (by decide) rfl rfl rfl (by simp [Value.oneCell', Value.cells]) (by unfold maxLen; omega) (by omega) fun a42 c43 w44 H => ?_)
   try dsimp only [List.set] at H
   replace H := H.snoc_StateD 6 rfl 2 rfl 1 rfl 0 rfl
   replace N : Fresh w.heap.size [(F_out ++ (G45 ++ G47 ++ G50))] := (N.pick [2, 1, 0, 3]).join.join.swap.join
   refine sp (.slice a42 (vZ + 1) c43) ?_
   refine qw (b_n (t_n (qy ?_)))
   refine sp (.int .i64 i) ?_
   refine sw (zJ i 1 rfl rfl (by omega) ?_)
   refine sp (.int .i64 (i + 1)) ?_
   refine qw ?_
   refine xF (m' := (cs.length - ((i + 1) : Int)).toNat) (by omega) ⟨_, a42, vZ + 1, c43, ((ja s t cs i) ++ [⟨((xU s t (cs[i]!)).1).qh, ((xU s t (cs[i]!)).1).qx, ((xU s t (cs[i]!)).1).ql⟩]), x_out ++ [.slice ra10aAlive ((((xU s t (cs[i]!)).1).qh).length) rc10aAlive, .slice ra10aBags ((((xU s t (cs[i]!)).1).qx).length) rc10aBags, .slice ra10aAround ((((xU s t (cs[i]!)).1).ql).length) rc10aAround], (F_out ++ (G45 ++ G47 ++ G50)), i + 1, (by exact qj (qj (qj (qj (qj (rfl) rfl) rfl) rfl) rfl) rfl), ?_, ?_, ?_, rfl, N, H.pick [5] [0, 8, 9, 10, 11, 12, 13, 14, 15]⟩
   · first | exact nextTo_new (find_mem.1 (by assumption)) | exact nextTo_in (Classical.byContradiction fun h => absurd (find_mem.2 h) (by assumption))
   · omega
   · exact i1.succ ‹_›
  replace h39 := of_decide_eq_false h39
  refine xh (b_n (t_n (qy ?_)))
  refine sp (.int .i64 i) ?_
  refine sw (zJ i 1 rfl rfl (by omega) ?_)
  refine sp (.int .i64 (i + 1)) ?_
  refine qw ?_
  refine xF (m' := (cs.length - ((i + 1) : Int)).toNat) (by omega) ⟨_, yH, vZ, yt, (ja s t cs i), x_out, F_out, i + 1, (by exact qj (qj (qj (qj (qj (rfl) rfl) rfl) rfl) rfl) rfl), ?_, ?_, ?_, rfl, (N.pick [1]), H.pick [4] [3, 4, 5, 6, 7, 8, 9, 10, 11]⟩
  · first | exact nextTo_new (find_mem.1 (by assumption)) | exact nextTo_in (Classical.byContradiction fun h => absurd (find_mem.2 h) (by assumption))
  · omega
  · exact i1.succ ‹_›
 replace h5 := of_decide_eq_false h5
 refine zy (t_x (t_x (b_x (t_n (qm (qy ?_))))))
 refine sps [.slice yH vZ yt, .slice yH vZ yt, .int .i64 0] ?_
 refine qw (t_n (xx ?_))
 refine ret2 (.slice yH vZ yt) (.int .i64 0) rfl rfl rfl ⟨_, rfl, ?_, H.base⟩
 rw [next_ok (fun j hj => i1 j (by omega)), show cs.length = i by omega]
 exact ⟨yH, vZ, yt, x_out, F_out, rfl, N, H.pick [0] [0]⟩

theorem specNs_ok (w : World) (s : qU) (t : qP) (qp : Option Addr) (qo : Nat) (qO : List Nat) (qF : Option Addr) (qC : Nat) (xq : List Nat) (qN : Option Addr) (qH : Nat) (xK : List Nat) (xG : Option Addr) (xy : Nat) (zk : List Nat) (qL : Option Addr) (qK : Nat) (xH : List Nat) (xn : qQ.rep w qO [.slice qp s.qf.length qo] s.qf) (xM : qQ.rep w xq [.slice qF s.qg.length qC] s.qg) (zl : qQ.rep w xK [.slice qN t.qh.length qH] t.qh) (zV : qQ.rep w zk [.slice xG t.qx.length xy] t.qx) (xX : qQ.rep w xH [.slice qL t.ql.length qK] t.ql) : Calls Tryz.prog 33 #[.agg #[.int .i64 s.qI, .slice qp s.qf.length qo, .slice qF s.qg.length qC], .agg #[.slice qN t.qh.length qH, .slice xG t.qx.length xy, .slice qL t.ql.length qK]] w (Ret (fun v w' => ∃ (ra0 : Option Addr) (rn0 : Nat) (rc0 : Nat) (rx0 : List Value) (rF0 : List Nat), v = .tuple #[.slice ra0 rn0 rc0, .int .i64 ((zt s t).2)] ∧ Fresh w.heap.size [rF0] ∧ St w w' [.row (.slice ra0 rn0 rc0) 38 3 rn0 rx0] [vK true rF0 rx0 ((zt s t).1)]) w) := by
 refine enter (n := 33) Tryz.func33 rfl Tryz.ntmps33 (Nat.le_of_ble_eq_true rfl) ?_
 have H := (((((St.start w).arg xX).arg zV).arg zl).arg xM).arg xn
 have vk := qJ xn
 have jr := qJ xM
 have QX := qJ zl
 have XH := qJ zV
 have yZ := qJ xX
 clear xn xM zl zV xX
 have N := Fresh.nil w.heap.size
 refine qm (qy ?_)
 refine sw (jW H [.int .i64 s.qI, .slice qp s.qf.length qo, .slice qF s.qg.length qC] fun b1 w2 H => ?_)
 refine sw (jW H [.slice qN t.qh.length qH, .slice xG t.qx.length xy, .slice qL t.ql.length qK] fun b3 w4 H => ?_)
 refine sps [.slice none 0 0, .int .i64 0] ?_
 refine qw (t_n (qm (qm (qy ?_))))
 refine sw (xf #[pp b1 0, pp b3 0] rfl rfl Tryz.call60 (l03Both_ok w4 s t b1 0 qp qo qO qF qC xq b3 0 qN qH xK xG xy zk qL qK xH (qG (H.cells 1 rfl) 0 3) (H.get 0 rfl).1 (H.get 1 rfl).1 (qG (H.cells 0 rfl) 0 3) (H.get 2 rfl).1 (H.get 3 rfl).1 (H.get 4 rfl).1) ?_)
 rintro _ w6 rfl x7
 replace H := H.ext x7
 refine sp (.bool (!(dec (Qb s ∧ zM s t)))) ?_
 refine qw (t_n ?_)
 refine qV (!(dec (Qb s ∧ zM s t))) rfl (fun h8 => ?_) (fun h8 => ?_)
 ·skip
  replace h8 := xe h8
  replace h8 := zg h8
  refine qm (qy ?_)
  refine sw (QW H Tryz.underlying57 ti38 fun b9 w10 H => ?_)
  refine sps [.slice (aa b9 0) 0 0, .int .i64 1] ?_
  refine qw (t_n (xx (t_r ?_)))
  replace H := H.boxRow 0 rfl 3 0 rfl (by decide)
  try dsimp only [List.set] at H
  replace H := H.Q5 (α := qP)
  replace H : St _ _ [.row (.slice (aa b9 0) 0 0) 38 3 0 [], .box b3 [.slice qN t.qh.length qH, .slice xG t.qx.length xy, .slice qL t.ql.length qK] 38, .box b1 [.int .i64 s.qI, .slice qp s.qf.length qo, .slice qF s.qg.length qC] 36] [vK true [] [] ([] : List qP), isF false qO (.slice qp s.qf.length qo) s.qf, isF false xq (.slice qF s.qg.length qC) s.qg, isF false xK (.slice qN t.qh.length qH) t.qh, isF false zk (.slice xG t.qx.length xy) t.qx, isF false xH (.slice qL t.ql.length qK) t.ql] := H
  refine ret2 (.slice (aa b9 0) 0 0) (.int .i64 1) rfl rfl rfl ⟨_, rfl, ?_, H.base⟩
  rw [ns_1 ‹_›]
  exact ⟨(aa b9 0), 0, 0, [], [], rfl, N.emp, H.pick [0] [0]⟩
 replace h8 := qX h8
 replace h8 := jA h8
 have k0 := (‹Qb s ∧ zM s t› : Qb s ∧ zM s t)
 have k1 := k0.1
 have k2 := k0.2
 have k4 := k1.2.1
 refine xh (t_n (qm (qy ?_)))
 refine sw (QW H Tryz.underlying27 ti22 fun b11 w12 H => ?_)
 refine sp (.slice (aa b11 0) 0 0) ?_
 refine qw (t_n (qm (qy ?_)))
 have sz16 := H.base.size
 refine sw (xf #[pp b1 0, pp b3 0] rfl rfl Tryz.call79 (l03Applicable_ok w12 s t b1 0 qp qo qO qF qC xq b3 0 qN qH xK xG xy zk qL qK xH (qG (H.cells 2 rfl) 0 3) (H.get 0 rfl).1 (H.get 1 rfl).1 (qG (H.cells 1 rfl) 0 3) (H.get 2 rfl).1 (H.get 3 rfl).1 (H.get 4 rfl).1 (by first | assumption | omega) (by first | assumption | omega)) ?_)
 rintro _ w14 ⟨ra13, rn13, rc13, rfl, M, K⟩ _
 replace H := H.merge K M
 dsimp only [List.cons_append, List.nil_append] at H
 obtain rfl := H.Vb 0 rfl
 have al := appl_len s t
 refine sp (.slice ra13 ((appl s t).length) rc13) ?_
 refine qw (t_n (qm (qm (qy ?_))))
 refine sp (.int .i64 0) ?_
 refine qw (t_n (xu ?_))
 replace H := H.boxRow 1 rfl 1 0 rfl (by decide)
 try dsimp only [List.set] at H
 replace H := H.Q5 (α := List Int)
 refine zG (fun m' ρ w19 => ∃ (junk : Env) (Qw : Option Addr) (jX : Nat) (Qv : Nat) (choices : List (List Int)) (Vk : List Value) (Q3 : List Nat) (i : Nat), ρ = upd (upd (upd (upd (upd junk 2 (pp b1 0)) 3 (pp b3 0)) 6 (.slice Qw jX Qv)) 7 (.slice ra13 ((appl s t).length) rc13)) 8 (.int .i64 i) ∧ choices = xW s (XI s t i) ∧ ((i : Int) ≤ ((appl s t).length)) ∧ m' = (((appl s t).length) - (i : Int)).toNat ∧ Fresh w.heap.size [Q3] ∧ St w w19 [.row (.slice ra13 ((appl s t).length) rc13) 4 1 ((appl s t).length) ((appl s t).map (Value.bool)), .row (.slice Qw jX Qv) 22 1 jX Vk, .box b3 [.slice qN t.qh.length qH, .slice xG t.qx.length xy, .slice qL t.ql.length qK] 38, .box b1 [.int .i64 s.qI, .slice qp s.qf.length qo, .slice qF s.qg.length qC] 36] [vK true Q3 Vk choices, isF false qO (.slice qp s.qf.length qo) s.qf, isF false xq (.slice qF s.qg.length qC) s.qg, isF false xK (.slice qN t.qh.length qH) t.qh, isF false zk (.slice xG t.qx.length xy) t.qx, isF false xH (.slice qL t.ql.length qK) t.ql]) ((((appl s t).length) - (0 : Int)).toNat) ⟨_, (aa b11 0), 0, 0, ([] : List (List Int)), [], [], 0, (by exact qj (qj (qj (qj (qj (rfl) rfl) rfl) rfl) rfl) rfl), (by rfl), (by omega), rfl, N.emp, H⟩ ?_
 clear H N
 rintro m' ρ w20 ⟨junk, Qw, jX, Qv, choices, Vk, Q3, i, rfl, rfl, i0, rfl, N, H⟩
 have hn_choices := H.zB (α := List Int) 1 rfl 0 rfl (by decide)
 have sl := XG s (XI s t i)
 have ll := applL_le s t i
 refine qm (qm (qy ?_))
 refine sps [.int .i64 i, .slice ra13 ((appl s t).length) rc13] ?_
 refine sw (zD Tryz.underlying26 ra13 ((appl s t).length) rc13 rfl ?_)
 refine sp (.bool (decide ((i : Int) < ((appl s t).length)))) ?_
 refine qw (t_n ?_)
 refine qV (decide ((i : Int) < ((appl s t).length))) rfl (fun h21 => ?_) (fun h21 => ?_)
 ·skip
  replace h21 := of_decide_eq_true h21
  refine xh (t_n (qm (xu (qm (qy ?_)))))
  refine sps [.slice ra13 ((appl s t).length) rc13, .int .i64 i] ?_
  obtain ⟨b22, rfl⟩ := H.Vr 0 rfl (by omega)
  refine sw (xJ i Tryz.underlying26 ti4 rfl rfl (by omega) (by omega) ?_)
  refine sw (qE (.bool ((appl s t)[i]!)) Tryz.isAgg4 rfl (H.rowBool 0 rfl (iv := i) (i := i) (by omega) (by omega)) ?_)
  refine qw (t_n ?_)
  refine qV ((appl s t)[i]!) rfl (fun h23 => ?_) (fun h23 => ?_)
  ·skip
   refine qy ?_
   refine sps [.slice Qw jX Qv, .int .i64 i] ?_
   have sz27 := H.base.size
   refine sw (xf #[pp b1 0, .int .i64 i] rfl rfl Tryz.call62 (l03Single_ok w20 s i b1 0 qp qo qO qF qC xq (qG (H.cells 3 rfl) 0 3) (H.get 1 rfl).1 (H.get 2 rfl).1 (by first | assumption | omega) (by first | assumption | omega)) ?_)
   rintro _ w25 ⟨ra24, rn24, rc24, rfl, M, K⟩ _
   replace H := H.merge K M
   dsimp only [List.cons_append, List.nil_append] at H
   obtain rfl := H.VB 0 rfl
   refine sw (Qq H Tryz.underlying27 ti22 [.slice ra24 ((single s (i : Int).toNat).length) rc24] fun b30 w31 H => ?_)
   obtain ⟨G35, N, hn36, H⟩ := H.yh 1 rfl N (H.XF [0])
   try dsimp only [List.set] at H
   refine sw (Qr H 3 rfl 0 rfl Tryz.underlying27 ti22 rfl (by decide) rfl rfl rfl (by simp [Value.oneCell', Value.cells]) (by unfold maxLen; omega) (by omega) fun a32 c33 w34 H => ?_)
   try dsimp only [List.set] at H
   replace H := H.XO 1 rfl 0 rfl
   replace N : Fresh w.heap.size [(Q3 ++ G35)] := (N.pick [1, 0]).join
   refine sp (.slice a32 (jX + 1) c33) ?_
   refine qw (b_n (t_n (qy ?_)))
   refine sp (.int .i64 i) ?_
   refine sw (zJ i 1 rfl rfl (by omega) ?_)
   refine sp (.int .i64 (i + 1)) ?_
   refine qw ?_
   refine xF (m' := (((appl s t).length) - ((i + 1) : Int)).toNat) (by omega) ⟨_, a32, jX + 1, c33, ((xW s (XI s t i)) ++ [single s (i : Int).toNat]), Vk ++ [.slice ra24 ((single s (i : Int).toNat).length) rc24], (Q3 ++ G35), i + 1, (by exact qj (qj (qj (qj (qj (rfl) rfl) rfl) rfl) rfl) rfl), ?_, ?_, rfl, N, H.pick [2, 3, 4, 5] [0, 3, 4, 5, 6, 7]⟩
   · first | exact singles_yes (appl_true (by omega) ‹_›) | rw [applL_no (appl_false (by omega) ‹_›)]
   · omega
  refine xh (b_n (t_n (qy ?_)))
  refine sp (.int .i64 i) ?_
  refine sw (zJ i 1 rfl rfl (by omega) ?_)
  refine sp (.int .i64 (i + 1)) ?_
  refine qw ?_
  refine xF (m' := (((appl s t).length) - ((i + 1) : Int)).toNat) (by omega) ⟨_, Qw, jX, Qv, (xW s (XI s t i)), Vk, Q3, i + 1, (by exact qj (qj (qj (qj (qj (rfl) rfl) rfl) rfl) rfl) rfl), ?_, ?_, rfl, N, H⟩
  · first | exact singles_yes (appl_true (by omega) ‹_›) | rw [applL_no (appl_false (by omega) ‹_›)]
  · omega
 replace h21 := of_decide_eq_false h21
 refine zy (t_x (t_x (b_x (t_n (qm (qy ?_))))))
 refine sp (.slice Qw jX Qv) ?_
 obtain ⟨G37, hn38, h39⟩ := H.rowIsR (α := List Int) 1 rfl 0 rfl (by decide)
 have he : xW s (XI s t i) = xW s (appls s t) := by rw [show i = s.qg.length by omega]; rfl
 have ks := XG s (appls s t)
 have kl : (appls s t).length ≤ s.qg.length := applL_le s t s.qg.length
 have kn : (xW s (XI s t i)).length ≤ 1000 := by rw [he]; omega
 have kc : ∀ q, q < (xW s (XI s t i)).length → CntOk s ((xW s (XI s t i))[q]!) := by rw [he]; exact fun q hq => singles_cnt hq
 have kd : ∀ q, q < (xW s (XI s t i)).length → IsCh s t ((xW s (XI s t i))[q]!) := by rw [he]; exact fun q hq => singles_isCh k1 k2 hq
 have sz43 := H.base.size
 have lt44 := H.ltN (L := [Q3]) [0]
 refine sw (xf #[pp b1 0, pp b3 0, .slice Qw jX Qv] rfl rfl Tryz.call80 (args_eq (by rw [← hn38]) (l03Next_ok w20 s t (xW s (XI s t i)) b1 0 qp qo qO qF qC xq b3 0 qN qH xK xG xy zk qL qK xH Qw Qv G37 (qG (H.cells 3 rfl) 0 3) (H.get 1 rfl).1 (H.get 2 rfl).1 (qG (H.cells 2 rfl) 0 3) (H.get 3 rfl).1 (H.get 4 rfl).1 (H.get 5 rfl).1 (hn38 ▸ h39) (by first | assumption | omega) (by first | assumption | omega) (by first | assumption | omega) (by first | assumption | omega))) ?_)
 rintro _ w41 ⟨ra40a, rn40a, rc40a, rx40a, rF40a, rfl, M, K⟩ _
 replace N := N.merge sz43 lt44 M
 replace H := H.merge K M
 dsimp only [List.cons_append, List.nil_append] at H
 obtain rfl := H.zB (α := qP) 0 rfl 0 rfl (by decide)
 refine sps [.slice ra40a (((Qn s t (xW s (XI s t i))).1).length) rc40a, .int .i64 ((Qn s t (xW s (XI s t i))).2), .slice ra40a (((Qn s t (xW s (XI s t i))).1).length) rc40a, .int .i64 ((Qn s t (xW s (XI s t i))).2)] ?_
 refine qw (t_n (xx ?_))
 refine ret2 (.slice ra40a (((Qn s t (xW s (XI s t i))).1).length) rc40a) (.int .i64 ((Qn s t (xW s (XI s t i))).2)) rfl rfl rfl ⟨_, rfl, ?_, H.base⟩
 rw [ns_0 k0, ← he]
 exact ⟨ra40a, ((Qn s t (xW s (XI s t i))).1).length, rc40a, rx40a, rF40a, rfl, (N.pick [0]), H.pick [0] [0]⟩

theorem sameState_ok (w : World) (a : qP) (b : qP) (QT : Option Addr) (QG : Nat) (FaAlive : List Nat) (XJ : Option Addr) (Xg : Nat) (FaBags : List Nat) (Ql : Option Addr) (Qi : Nat) (FaAround : List Nat) (Xi : Option Addr) (Q8 : Nat) (FbAlive : List Nat) (VA : Option Addr) (XA : Nat) (FbBags : List Nat) (Qk : Option Addr) (Qh : Nat) (FbAround : List Nat) (haAlive : qQ.rep w FaAlive [.slice QT a.qh.length QG] a.qh) (haBags : qQ.rep w FaBags [.slice XJ a.qx.length Xg] a.qx) (haAround : qQ.rep w FaAround [.slice Ql a.ql.length Qi] a.ql) (hbAlive : qQ.rep w FbAlive [.slice Xi b.qh.length Q8] b.qh) (hbBags : qQ.rep w FbBags [.slice VA b.qx.length XA] b.qx) (hbAround : qQ.rep w FbAround [.slice Qk b.ql.length Qh] b.ql) : Calls Tryz.prog 134 #[.agg #[.slice QT a.qh.length QG, .slice XJ a.qx.length Xg, .slice Ql a.ql.length Qi], .agg #[.slice Xi b.qh.length Q8, .slice VA b.qx.length XA, .slice Qk b.ql.length Qh]] w (Ret (fun v w' => v = .bool (decide (a = b))) w) := by
 refine enter (n := 24) Tryz.func134 rfl Tryz.ntmps134 (Nat.le_of_ble_eq_true rfl) ?_
 have H := ((((((St.start w).arg hbAround).arg hbBags).arg hbAlive).arg haAround).arg haBags).arg haAlive
 have nhaAlive := qJ haAlive
 have nhaBags := qJ haBags
 have nhaAround := qJ haAround
 have nhbAlive := qJ hbAlive
 have nhbBags := qJ hbBags
 have nhbAround := qJ hbAround
 clear haAlive haBags haAround hbAlive hbBags hbAround
 have N := Fresh.nil w.heap.size
 refine qm (qy ?_)
 refine sw (jW H [.slice QT a.qh.length QG, .slice XJ a.qx.length Xg, .slice Ql a.ql.length Qi] fun b1 w2 H => ?_)
 refine sw (jW H [.slice Xi b.qh.length Q8, .slice VA b.qx.length XA, .slice Qk b.ql.length Qh] fun b3 w4 H => ?_)
 refine sp (.bool false) ?_
 refine qw (t_n (qm (qy ?_)))
 refine sw (qM b1 (0) 0 Tryz.underlying38 rfl rfl Tryz.sizeOf26 rfl ?_)
 refine sw (qE (.slice QT a.qh.length QG) Tryz.isAgg26 rfl (H.cell 1 rfl rfl) ?_)
 refine sw (qM b3 (0) 0 Tryz.underlying38 rfl rfl Tryz.sizeOf26 rfl ?_)
 refine sw (qE (.slice Xi b.qh.length Q8) Tryz.isAgg26 rfl (H.cell 0 rfl rfl) ?_)
 refine sw (xf #[.slice QT a.qh.length QG, .slice Xi b.qh.length Q8] rfl rfl Tryz.call157 (equalB_ok w4 a.qh b.qh QT QG FaAlive Xi Q8 FbAlive (H.get 0 rfl).1 (H.get 3 rfl).1) ?_)
 rintro _ w6 rfl x7
 replace H := H.ext x7
 refine sp (.bool (decide (a.qh = b.qh))) ?_
 cases h8 : (decide (a.qh = b.qh))
 ·skip
  replace h8 := of_decide_eq_false h8
  refine xY [11, 12, 13, 14, 15] ?_
  refine sps [.bool false, .bool false] ?_
  refine xY [18, 19, 20, 21, 22] ?_
  refine sps [.bool false, .bool false] ?_
  refine qw (t_n (xx ?_))
  refine ret1 (.bool false) rfl rfl ⟨_, rfl, ?_, H.base⟩
  rw [decide_eq_false (fun e => by subst e; first | omega | exact absurd rfl (by assumption) | simp_all)]
 replace h8 := of_decide_eq_true h8
 refine qR 10 rfl rfl ?_
 refine sw (qM b1 (0) 1 Tryz.underlying38 rfl rfl Tryz.sizeOf27 rfl ?_)
 refine qR 10 rfl rfl ?_
 refine sw (qE (.slice XJ a.qx.length Xg) Tryz.isAgg27 rfl (H.cell 1 rfl rfl) ?_)
 refine qR 10 rfl rfl ?_
 refine sw (qM b3 (0) 1 Tryz.underlying38 rfl rfl Tryz.sizeOf27 rfl ?_)
 refine qR 10 rfl rfl ?_
 refine sw (qE (.slice VA b.qx.length XA) Tryz.isAgg27 rfl (H.cell 0 rfl rfl) ?_)
 refine qR 10 rfl rfl ?_
 refine sw (Qd #[.slice XJ a.qx.length Xg, .slice VA b.qx.length XA, .func (.func 159) #[] #[]] rfl rfl Tryz.call158 ?_)
 refine enter (n := 32) Tryz.func158 rfl Tryz.ntmps158 (Nat.le_of_ble_eq_true rfl) ?_
 refine qm (qy ?_)
 refine sp (.bool false) ?_
 refine qw (t_n (qm (qm (qy ?_))))
 refine sp (.slice XJ a.qx.length Xg) ?_
 refine sw (zD Tryz.underlying27 XJ a.qx.length Xg rfl ?_)
 refine sp (.slice VA b.qx.length XA) ?_
 refine sw (zD Tryz.underlying27 VA b.qx.length XA rfl ?_)
 refine sp (.bool ((a.qx.length : Int) != b.qx.length)) ?_
 refine qw (t_n ?_)
 refine qV ((a.qx.length : Int) != b.qx.length) rfl (fun h9 => ?_) (fun h9 => ?_)
 ·skip
  replace h9 := bne_iff_ne.1 h9
  refine qm (qy ?_)
  refine sp (.bool false) ?_
  refine qw (t_n (xx (t_r ?_)))
  refine ret1 (.bool false) rfl rfl ⟨_, rfl, ?_⟩
  refine sps [.bool false, .bool false] ?_
  refine xY [18, 19, 20, 21, 22] ?_
  refine sps [.bool false, .bool false] ?_
  refine qw (t_n (xx ?_))
  refine ret1 (.bool false) rfl rfl ⟨_, rfl, ?_, H.base⟩
  rw [decide_eq_false (fun e => by subst e; first | omega | exact absurd rfl (by assumption) | simp_all)]
 replace h9 := xI h9
 refine xh (t_n (qm (qm (qy ?_))))
 refine sp (.slice XJ a.qx.length Xg) ?_
 refine sw (zD Tryz.underlying27 XJ a.qx.length Xg rfl ?_)
 refine sp (.int .i64 0) ?_
 refine qw (t_n (xu ?_))
 refine zG (fun m' ρ w10 => ∃ (junk : Env) (i : Nat), ρ = upd (upd (upd (upd (upd junk 1 (.slice VA b.qx.length XA)) 2 (.func (.func 159) #[] #[])) 15 (.slice XJ a.qx.length Xg)) 16 (.int .i64 a.qx.length)) 17 (.int .i64 i) ∧ ((i : Int) ≤ a.qx.length) ∧ (a.qx.take i = b.qx.take i) ∧ m' = (a.qx.length - (i : Int)).toNat ∧ Fresh w.heap.size [] ∧ St w w10 [.box b3 [.slice Xi b.qh.length Q8, .slice VA b.qx.length XA, .slice Qk b.ql.length Qh] 38, .box b1 [.slice QT a.qh.length QG, .slice XJ a.qx.length Xg, .slice Ql a.ql.length Qi] 38] [isF false FaAlive (.slice QT a.qh.length QG) a.qh, isF false FaBags (.slice XJ a.qx.length Xg) a.qx, isF false FaAround (.slice Ql a.ql.length Qi) a.ql, isF false FbAlive (.slice Xi b.qh.length Q8) b.qh, isF false FbBags (.slice VA b.qx.length XA) b.qx, isF false FbAround (.slice Qk b.ql.length Qh) b.ql]) ((a.qx.length - (0 : Int)).toNat) ⟨_, 0, (by exact qj (qj (qj (qj (qj (rfl) rfl) rfl) rfl) rfl) rfl), (by omega), (by rfl), rfl, N, H⟩ ?_
 clear H N
 rintro m' ρ w11 ⟨junk, i, rfl, i0, i2, rfl, N, H⟩
 refine qm (qy ?_)
 refine sp (.bool (decide ((i : Int) < a.qx.length))) ?_
 refine qw (t_n (qm ?_))
 refine qV (decide ((i : Int) < a.qx.length)) rfl (fun h12 => ?_) (fun h12 => ?_)
 ·skip
  replace h12 := of_decide_eq_true h12
  refine xh (t_n (qm (xu (qm (qy ?_)))))
  refine sp (.int .i64 i) ?_
  obtain ⟨b13, o14, rfl⟩ := H.addr 1 rfl (by omega)
  obtain ⟨ae16, ce16, Fe16, H⟩ := H.jC 1 rfl i i (by omega) (by omega) (by omega)
  refine sw (xJ i Tryz.underlying27 ti22 rfl rfl (by omega) (by omega) ?_)
  refine sw (qE (.slice ae16 ((a.qx[i]!).length) ce16) Tryz.isAgg22 rfl (H.xR 1 rfl 0 rfl) ?_)
  refine sps [.int .i64 i, .slice ae16 ((a.qx[i]!).length) ce16] ?_
  refine qw (t_n (qm (qy ?_)))
  refine sps [.slice VA b.qx.length XA, .int .i64 i] ?_
  obtain ⟨b17, o18, rfl⟩ := H.addr 6 rfl (by omega)
  obtain ⟨ae20, ce20, Fe20, H⟩ := H.jC 6 rfl i i (by omega) (by omega) (by omega)
  refine sw (xJ i Tryz.underlying27 ti22 rfl rfl (by omega) (by omega) ?_)
  refine sw (qE (.slice ae20 ((b.qx[i]!).length) ce20) Tryz.isAgg22 rfl (H.xR 1 rfl 0 rfl) ?_)
  refine sp (.slice ae20 ((b.qx[i]!).length) ce20) ?_
  refine qw (t_n (qm (qy ?_)))
  refine sps [.func (.func 159) #[] #[], .slice ae16 ((a.qx[i]!).length) ce16, .slice ae20 ((b.qx[i]!).length) ce20] ?_
  refine sw (xf #[.slice ae16 ((a.qx[i]!).length) ce16, .slice ae20 ((b.qx[i]!).length) ce20] rfl rfl Tryz.call159 (equalI_ok w11 (a.qx[i]!) (b.qx[i]!) ae16 ce16 Fe16 ae20 ce20 Fe20 (H.get 2 rfl).1 (H.get 0 rfl).1) ?_)
  rintro _ w22 rfl x23
  replace H := H.ext x23
  refine sp (.bool (!(decide ((a.qx[i]!) = (b.qx[i]!))))) ?_
  refine qw (t_n ?_)
  refine qV (!(decide ((a.qx[i]!) = (b.qx[i]!)))) rfl (fun h24 => ?_) (fun h24 => ?_)
  ·skip
   replace h24 := xe h24
   replace h24 := of_decide_eq_false h24
   refine qm (qy ?_)
   refine sp (.bool false) ?_
   refine qw (t_n (xx (b_r (t_r (t_r (b_r (t_r ?_)))))))
   refine ret1 (.bool false) rfl rfl ⟨_, rfl, ?_⟩
   refine sps [.bool false, .bool false] ?_
   refine xY [18, 19, 20, 21, 22] ?_
   refine sps [.bool false, .bool false] ?_
   refine qw (t_n (xx ?_))
   refine ret1 (.bool false) rfl rfl ⟨_, rfl, ?_, H.base⟩
   rw [decide_eq_false (fun e => by subst e; first | omega | exact absurd rfl (by assumption) | simp_all)]
  replace h24 := qX h24
  replace h24 := of_decide_eq_true h24
  refine xh (b_n (t_n (qy ?_)))
  refine sw (zJ i 1 rfl rfl (by omega) ?_)
  refine sp (.int .i64 (i + 1)) ?_
  refine qw ?_
  refine xF (m' := (a.qx.length - ((i + 1) : Int)).toNat) (by omega) ⟨_, i + 1, (by exact qj (qj (qj (qj (qj (rfl) rfl) rfl) rfl) rfl) rfl), ?_, ?_, rfl, N, H.pick [0, 1] [4, 5, 6, 7, 8, 9]⟩
  · omega
  · exact Qu (by omega) (by omega) i2 (by assumption)
 replace h12 := of_decide_eq_false h12
 refine zy (t_x (t_x (b_x (t_n (qm (qy ?_))))))
 refine sp (.bool true) ?_
 refine qw (t_n (xx ?_))
 refine ret1 (.bool true) rfl rfl ⟨_, rfl, ?_⟩
 refine sps [.bool true, .bool true] ?_
 refine qR 17 rfl rfl ?_
 refine sw (qM b1 (0) 2 Tryz.underlying38 rfl rfl Tryz.sizeOf22 rfl ?_)
 refine qR 17 rfl rfl ?_
 refine sw (qE (.slice Ql a.ql.length Qi) Tryz.isAgg22 rfl (H.cell 1 rfl rfl) ?_)
 refine qR 17 rfl rfl ?_
 refine sw (qM b3 (0) 2 Tryz.underlying38 rfl rfl Tryz.sizeOf22 rfl ?_)
 refine qR 17 rfl rfl ?_
 refine sw (qE (.slice Qk b.ql.length Qh) Tryz.isAgg22 rfl (H.cell 0 rfl rfl) ?_)
 refine qR 17 rfl rfl ?_
 refine sw (xf #[.slice Ql a.ql.length Qi, .slice Qk b.ql.length Qh] rfl rfl Tryz.call159 (equalI_ok w11 a.ql b.ql Ql Qi FaAround Qk Qh FbAround (H.get 2 rfl).1 (H.get 5 rfl).1) ?_)
 rintro _ w26 rfl x27
 replace H := H.ext x27
 refine sps [.bool (decide (a.ql = b.ql)), .bool (decide (a.ql = b.ql))] ?_
 refine qw (t_n (xx ?_))
 refine ret1 (.bool (decide (a.ql = b.ql))) rfl rfl ⟨_, rfl, ?_, H.base⟩
 rw [show decide (a = b) = decide (a.ql = b.ql) from decide_eq_decide.2 ⟨fun e => by rw [e], fun e => state_eq (by assumption) (vw (k := i) (by omega) (by omega) i2) e⟩]

theorem behind_ok (w : World) (s : qU) (t : qP) (cs : List (List Int)) (qp : Option Addr) (qo : Nat) (qO : List Nat) (qF : Option Addr) (qC : Nat) (xq : List Nat) (qN : Option Addr) (qH : Nat) (xK : List Nat) (xG : Option Addr) (xy : Nat) (zk : List Nat) (qL : Option Addr) (qK : Nat) (xH : List Nat) (acs : Option Addr) (ccs : Nat) (Fcs : List Nat) (xn : qQ.rep w qO [.slice qp s.qf.length qo] s.qf) (xM : qQ.rep w xq [.slice qF s.qg.length qC] s.qg) (zl : qQ.rep w xK [.slice qN t.qh.length qH] t.qh) (zV : qQ.rep w zk [.slice xG t.qx.length xy] t.qx) (xX : qQ.rep w xH [.slice qL t.ql.length qK] t.ql) (hcs : qQ.rep w Fcs [.slice acs cs.length ccs] cs) (p0 : Qb s) (p1 : zM s t) (p2 : cs.length ≤ 1000) (p3 : ∀ q, q < cs.length → CntOk s (cs[q]!)) (p4 : ∀ q, q < cs.length → IsCh s t (cs[q]!)) : Calls Tryz.prog 81 #[.agg #[.int .i64 s.qI, .slice qp s.qf.length qo, .slice qF s.qg.length qC], .agg #[.slice qN t.qh.length qH, .slice xG t.qx.length xy, .slice qL t.ql.length qK], .slice acs cs.length ccs] w (Ret (fun v w' => ∃ (ra0 : Option Addr) (rn0 : Nat) (rc0 : Nat) (rx0 : List Value) (rF0 : List Nat), v = .tuple #[.slice ra0 rn0 rc0, .int .i64 ((Qn s t cs).2)] ∧ Fresh w.heap.size [rF0] ∧ St w w' [.row (.slice ra0 rn0 rc0) 38 3 rn0 rx0] [vK true rF0 rx0 ((Qn s t cs).1)]) w) := by
 refine enter (n := 40) Tryz.func81 rfl Tryz.ntmps81 (Nat.le_of_ble_eq_true rfl) ?_
 have H := ((((((St.start w).arg hcs).arg xX).arg zV).arg zl).arg xM).arg xn
 have vk := qJ xn
 have jr := qJ xM
 have QX := qJ zl
 have XH := qJ zV
 have yZ := qJ xX
 have nhcs := qJ hcs
 clear xn xM zl zV xX hcs
 have N := Fresh.nil w.heap.size
 refine qm (qy ?_)
 refine sw (jW H [.int .i64 s.qI, .slice qp s.qf.length qo, .slice qF s.qg.length qC] fun b1 w2 H => ?_)
 refine sw (jW H [.slice qN t.qh.length qH, .slice xG t.qx.length xy, .slice qL t.ql.length qK] fun b3 w4 H => ?_)
 refine sps [.slice none 0 0, .int .i64 0] ?_
 refine qw (t_n (qm (qy ?_)))
 refine sw (QW H Tryz.underlying57 ti38 fun b5 w6 H => ?_)
 refine sp (.slice (aa b5 0) 0 0) ?_
 refine qw (t_n (qm (qm (qy ?_))))
 refine sp (.slice acs cs.length ccs) ?_
 refine sw (zD Tryz.underlying27 acs cs.length ccs rfl ?_)
 refine sp (.int .i64 0) ?_
 refine qw (t_n (xu ?_))
 replace H := H.boxRow 0 rfl 3 0 rfl (by decide)
 try dsimp only [List.set] at H
 replace H := H.Q5 (α := qP)
 replace H : St _ _ [.row (.slice (aa b5 0) 0 0) 38 3 0 [], .box b3 [.slice qN t.qh.length qH, .slice xG t.qx.length xy, .slice qL t.ql.length qK] 38, .box b1 [.int .i64 s.qI, .slice qp s.qf.length qo, .slice qF s.qg.length qC] 36] [vK true [] [] ([] : List qP), isF false qO (.slice qp s.qf.length qo) s.qf, isF false xq (.slice qF s.qg.length qC) s.qg, isF false xK (.slice qN t.qh.length qH) t.qh, isF false zk (.slice xG t.qx.length xy) t.qx, isF false xH (.slice qL t.ql.length qK) t.ql, isF false Fcs (.slice acs cs.length ccs) cs] := H
 refine zG (fun m' ρ w7 => ∃ (junk : Env) (yH : Option Addr) (vZ : Nat) (yt : Nat) (out : List qP) (x_out : List Value) (F_out : List Nat) (k : Nat), ρ = upd (upd (upd (upd (upd (upd junk 3 (pp b1 0)) 4 (pp b3 0)) 8 (.slice yH vZ yt)) 14 (.slice acs cs.length ccs)) 15 (.int .i64 cs.length)) 16 (.int .i64 k) ∧ out = ja s t cs k ∧ ((k : Int) ≤ cs.length) ∧ (NoBad s t cs k) ∧ m' = (cs.length - (k : Int)).toNat ∧ Fresh w.heap.size [F_out] ∧ St w w7 [.row (.slice yH vZ yt) 38 3 vZ x_out, .box b3 [.slice qN t.qh.length qH, .slice xG t.qx.length xy, .slice qL t.ql.length qK] 38, .box b1 [.int .i64 s.qI, .slice qp s.qf.length qo, .slice qF s.qg.length qC] 36] [vK true F_out x_out out, isF false qO (.slice qp s.qf.length qo) s.qf, isF false xq (.slice qF s.qg.length qC) s.qg, isF false xK (.slice qN t.qh.length qH) t.qh, isF false zk (.slice xG t.qx.length xy) t.qx, isF false xH (.slice qL t.ql.length qK) t.ql, isF false Fcs (.slice acs cs.length ccs) cs]) ((cs.length - (0 : Int)).toNat) ⟨_, (aa b5 0), 0, 0, ([] : List qP), [], [], 0, (by exact qj (qj (qj (qj (qj (qj (rfl) rfl) rfl) rfl) rfl) rfl) rfl), (by rfl), (by omega), (by exact fun j hj => by omega), rfl, N.emp, H⟩ ?_
 clear H N
 rintro m' ρ w8 ⟨junk, yH, vZ, yt, out, x_out, F_out, k, rfl, rfl, i0, i1, rfl, N, H⟩
 have hn_out := H.zB (α := qP) 0 rfl 0 rfl (by decide)
 have nl := nextTo_len (s := s) (t := t) (cs := cs) k
 refine qm (qy ?_)
 refine sp (.bool (decide ((k : Int) < cs.length))) ?_
 refine qw (t_n (qm ?_))
 refine qV (decide ((k : Int) < cs.length)) rfl (fun h9 => ?_) (fun h9 => ?_)
 ·skip
  replace h9 := of_decide_eq_true h9
  refine xh (t_n (qm (xu (qm (qy ?_)))))
  obtain ⟨b10, o11, rfl⟩ := H.addr 6 rfl (by omega)
  obtain ⟨ae13, ce13, Fe13, H⟩ := H.jC 6 rfl k k (by omega) (by omega) (by omega)
  refine sw (xJ k Tryz.underlying27 ti22 rfl rfl (by omega) (by omega) ?_)
  refine sw (qE (.slice ae13 ((cs[k]!).length) ce13) Tryz.isAgg22 rfl (H.xR 1 rfl 0 rfl) ?_)
  refine sp (.slice ae13 ((cs[k]!).length) ce13) ?_
  refine qw (t_n (qm (qy ?_)))
  refine sw (zi [.int .i64 s.qI, .slice qp s.qf.length qo, .slice qF s.qg.length qC] Tryz.isAgg36 Tryz.sizeOf36 rfl (qG (H.cells 2 rfl) 0 3) ?_)
  refine sw (zi [.slice qN t.qh.length qH, .slice xG t.qx.length xy, .slice qL t.ql.length qK] Tryz.isAgg38 Tryz.sizeOf38 rfl (qG (H.cells 1 rfl) 0 3) ?_)
  refine sp (.slice ae13 ((cs[k]!).length) ce13) ?_
  have k3 := p3 k (by omega)
  have k5 := p4 k (by omega)
  have sz17 := H.base.size
  have lt18 := H.ltN (L := [F_out]) [2]
  refine sw (xf #[.agg #[.int .i64 s.qI, .slice qp s.qf.length qo, .slice qF s.qg.length qC], .agg #[.slice qN t.qh.length qH, .slice xG t.qx.length xy, .slice qL t.ql.length qK], .slice ae13 ((cs[k]!).length) ce13] rfl rfl Tryz.call66 (step_ok w8 s t (cs[k]!) qp qo qO qF qC xq qN qH xK xG xy zk qL qK xH ae13 ce13 Fe13 (H.get 3 rfl).1 (H.get 4 rfl).1 (H.get 5 rfl).1 (H.get 6 rfl).1 (H.get 7 rfl).1 (H.get 0 rfl).1 (by first | assumption | omega) (by first | assumption | omega) (by first | assumption | omega) (by first | assumption | omega)) ?_)
  rintro _ w15 ⟨ra14aAlive, rn14aAlive, rc14aAlive, ra14aBags, rn14aBags, rc14aBags, rx14aBags, rF14aBags, ra14aAround, rn14aAround, rc14aAround, rfl, M, K⟩ _
  replace N := N.merge sz17 lt18 M
  replace H := H.merge K M
  dsimp only [List.cons_append, List.nil_append] at H
  obtain rfl := H.Vb 0 rfl
  obtain rfl := H.zB (α := List Int) 1 rfl 0 rfl (by decide)
  obtain rfl := H.VB 2 rfl
  refine sps [.tuple #[.agg #[.slice ra14aAlive ((((xU s t (cs[k]!)).1).qh).length) rc14aAlive, .slice ra14aBags ((((xU s t (cs[k]!)).1).qx).length) rc14aBags, .slice ra14aAround ((((xU s t (cs[k]!)).1).ql).length) rc14aAround], .int .i64 ((xU s t (cs[k]!)).2)], .agg #[.slice ra14aAlive ((((xU s t (cs[k]!)).1).qh).length) rc14aAlive, .slice ra14aBags ((((xU s t (cs[k]!)).1).qx).length) rc14aBags, .slice ra14aAround ((((xU s t (cs[k]!)).1).ql).length) rc14aAround], .int .i64 ((xU s t (cs[k]!)).2)] ?_
  refine sw (zL H ti38 [.slice none 0 0, .slice none 0 0, .slice none 0 0] fun b22 w23 H => ?_)
  refine sw (zn H 0 [.slice ra14aAlive ((((xU s t (cs[k]!)).1).qh).length) rc14aAlive, .slice ra14aBags ((((xU s t (cs[k]!)).1).qx).length) rc14aBags, .slice ra14aAround ((((xU s t (cs[k]!)).1).ql).length) rc14aAround] Tryz.sizeOf38 fun w24 H => ?_)
  try dsimp only [List.set] at H
  refine sp (.int .i64 ((xU s t (cs[k]!)).2)) ?_
  refine qw (t_n (qm (qm (qy ?_))))
  refine sps [.int .i64 ((xU s t (cs[k]!)).2), .bool (((xU s t (cs[k]!)).2 : Int) != 0)] ?_
  refine qw (t_n ?_)
  refine qV (((xU s t (cs[k]!)).2 : Int) != 0) rfl (fun h25 => ?_) (fun h25 => ?_)
  ·skip
   replace h25 := bne_iff_ne.1 h25
   refine qm (qy ?_)
   refine sps [.int .i64 ((xU s t (cs[k]!)).2), .slice none 0 0, .int .i64 ((xU s t (cs[k]!)).2)] ?_
   refine qw (t_n (xx (t_r (b_r (t_r (t_r (b_r (t_r ?_))))))))
   replace H := H.nilRow 38 3
   replace H := H.Q5 (α := qP)
   refine ret2 (.slice none 0 0) (.int .i64 ((xU s t (cs[k]!)).2)) rfl rfl rfl ⟨_, rfl, ?_, H.base⟩
   rw [next_bad i1 (by omega) ‹_›]
   exact ⟨none, 0, 0, [], [], rfl, (N.emp.pick [0]), H.pick [0] [0]⟩
  replace h25 := xI h25
  refine xh (t_n (qm (qy ?_)))
  refine sps [.slice yH vZ yt, .func (.func 133) #[] #[pp b22 0]] ?_
  refine sw (Qd #[.slice yH vZ yt, .func (.func 133) #[] #[pp b22 0]] rfl rfl Tryz.call132 ?_)
  refine enter (n := 9) Tryz.func132 rfl Tryz.ntmps132 (Nat.le_of_ble_eq_true rfl) ?_
  refine qm (qy ?_)
  refine sp (.bool false) ?_
  refine qw (t_n (qm (qy ?_)))
  refine sps [.slice yH vZ yt, .func (.func 133) #[] #[pp b22 0]] ?_
  refine sw (Qd #[.slice yH vZ yt, .func (.func 133) #[] #[pp b22 0]] rfl rfl Tryz.call156 ?_)
  refine enter (n := 19) Tryz.func156 rfl Tryz.ntmps156 (Nat.le_of_ble_eq_true rfl) ?_
  refine qm (qy ?_)
  refine sp (.int .i64 0) ?_
  refine qw (t_n (qm (qm (qy ?_))))
  refine sp (.slice yH vZ yt) ?_
  refine sw (zD Tryz.underlying57 yH vZ yt rfl ?_)
  refine sp (.int .i64 0) ?_
  refine qw (t_n (xu ?_))
  refine zG (fun m' ρ w26 => ∃ (junk : Env) (i : Nat), ρ = upd (upd (upd (upd junk 0 (.slice yH vZ yt)) 1 (.func (.func 133) #[] #[pp b22 0])) 7 (.int .i64 vZ)) 8 (.int .i64 i) ∧ ((i : Int) ≤ vZ) ∧ (NotIn (ja s t cs k) (xU s t (cs[k]!)).1 i) ∧ m' = (vZ - (i : Int)).toNat ∧ Fresh w.heap.size [rF14aBags, F_out] ∧ St w w26 [.box b22 [.slice ra14aAlive ((((xU s t (cs[k]!)).1).qh).length) rc14aAlive, .slice ra14aBags ((((xU s t (cs[k]!)).1).qx).length) rc14aBags, .slice ra14aAround ((((xU s t (cs[k]!)).1).ql).length) rc14aAround] 38, .row (.slice ra14aAlive ((((xU s t (cs[k]!)).1).qh).length) rc14aAlive) 4 1 ((((xU s t (cs[k]!)).1).qh).length) ((((xU s t (cs[k]!)).1).qh).map (Value.bool)), .row (.slice ra14aBags ((((xU s t (cs[k]!)).1).qx).length) rc14aBags) 22 1 ((((xU s t (cs[k]!)).1).qx).length) rx14aBags, .row (.slice ra14aAround ((((xU s t (cs[k]!)).1).ql).length) rc14aAround) 2 1 ((((xU s t (cs[k]!)).1).ql).length) ((((xU s t (cs[k]!)).1).ql).map (Value.int .i64)), .row (.slice yH vZ yt) 38 3 vZ x_out, .box b3 [.slice qN t.qh.length qH, .slice xG t.qx.length xy, .slice qL t.ql.length qK] 38, .box b1 [.int .i64 s.qI, .slice qp s.qf.length qo, .slice qF s.qg.length qC] 36] [vK true rF14aBags rx14aBags (((xU s t (cs[k]!)).1).qx), isF false Fe13 (.slice ae13 ((cs[k]!).length) ce13) (cs[k]!), atF b10 (o11 + (k : Int).toNat * 1) [.slice ae13 ((cs[k]!).length) ce13], vK true F_out x_out (ja s t cs k), isF false qO (.slice qp s.qf.length qo) s.qf, isF false xq (.slice qF s.qg.length qC) s.qg, isF false xK (.slice qN t.qh.length qH) t.qh, isF false zk (.slice xG t.qx.length xy) t.qx, isF false xH (.slice qL t.ql.length qK) t.ql, isF false Fcs (.slice (aa b10 o11) cs.length ccs) cs]) ((vZ - (0 : Int)).toNat) ⟨_, 0, (by exact qj (qj (qj (qj (rfl) rfl) rfl) rfl) rfl), (by omega), (by exact fun j hj => by omega), rfl, N, H⟩ ?_
  clear H N
  rintro m' ρ w27 ⟨junk, i, rfl, i0, i2, rfl, N, H⟩
  refine qm (qy ?_)
  refine sp (.bool (decide ((i : Int) < vZ))) ?_
  refine qw (t_n (qm ?_))
  refine qV (decide ((i : Int) < vZ)) rfl (fun h28 => ?_) (fun h28 => ?_)
  ·skip
   replace h28 := of_decide_eq_true h28
   refine xh (t_n (qm (xu (qm (qy ?_)))))
   refine sps [.int .i64 i, .int .i64 i] ?_
   refine qw (t_n (qm (qy ?_)))
   refine sps [.func (.func 133) #[] #[pp b22 0], .slice yH vZ yt, .int .i64 i] ?_
   obtain ⟨b29, rfl⟩ := H.Vr 4 rfl (by omega)
   obtain ⟨ae30Alive, ce30Alive, Fe30Alive, ae30Bags, ce30Bags, Fe30Bags, ae30Around, ce30Around, Fe30Around, hx31, H⟩ := H.rowel_StateD 4 rfl 3 rfl (iv := i) i (by omega) (by omega)
   refine sw (xJ i Tryz.underlying57 ti38 rfl rfl (by omega) (by omega) ?_)
   refine sw (zi [.slice ae30Alive ((((ja s t cs k)[i]!).qh).length) ce30Alive, .slice ae30Bags ((((ja s t cs k)[i]!).qx).length) ce30Bags, .slice ae30Around ((((ja s t cs k)[i]!).ql).length) ce30Around] Tryz.isAgg38 Tryz.sizeOf38 rfl (qG (fun j v hj => H.rowGet 4 rfl (hx31 j v hj)) 0 3) ?_)
   refine sw (Qd #[.agg #[.slice ae30Alive ((((ja s t cs k)[i]!).qh).length) ce30Alive, .slice ae30Bags ((((ja s t cs k)[i]!).qx).length) ce30Bags, .slice ae30Around ((((ja s t cs k)[i]!).ql).length) ce30Around], pp b22 0] rfl rfl Tryz.call133 ?_)
   refine enter (n := 7) Tryz.func133 rfl Tryz.ntmps133 (Nat.le_of_ble_eq_true rfl) ?_
   refine qm (qy ?_)
   refine sw (jW H [.slice ae30Alive ((((ja s t cs k)[i]!).qh).length) ce30Alive, .slice ae30Bags ((((ja s t cs k)[i]!).qx).length) ce30Bags, .slice ae30Around ((((ja s t cs k)[i]!).ql).length) ce30Around] fun b32 w33 H => ?_)
   refine sp (.bool false) ?_
   refine qw (t_n (qm (qy ?_)))
   refine sw (zi [.slice ae30Alive ((((ja s t cs k)[i]!).qh).length) ce30Alive, .slice ae30Bags ((((ja s t cs k)[i]!).qx).length) ce30Bags, .slice ae30Around ((((ja s t cs k)[i]!).ql).length) ce30Around] Tryz.isAgg38 Tryz.sizeOf38 rfl (qG (H.cells 0 rfl) 0 3) ?_)
   refine sw (zi [.slice ra14aAlive ((((xU s t (cs[k]!)).1).qh).length) rc14aAlive, .slice ra14aBags ((((xU s t (cs[k]!)).1).qx).length) rc14aBags, .slice ra14aAround ((((xU s t (cs[k]!)).1).ql).length) rc14aAround] Tryz.isAgg38 Tryz.sizeOf38 rfl (qG (H.cells 1 rfl) 0 3) ?_)
   obtain ⟨G34, hn35, h36⟩ := H.rowIsB 2 rfl
   obtain ⟨G37, hn38, h39⟩ := H.rowIsR (α := List Int) 3 rfl 3 rfl (by decide)
   obtain ⟨G40, hn41, h42⟩ := H.rowIsI 4 rfl
   refine sw (xf #[.agg #[.slice ae30Alive ((((ja s t cs k)[i]!).qh).length) ce30Alive, .slice ae30Bags ((((ja s t cs k)[i]!).qx).length) ce30Bags, .slice ae30Around ((((ja s t cs k)[i]!).ql).length) ce30Around], .agg #[.slice ra14aAlive ((((xU s t (cs[k]!)).1).qh).length) rc14aAlive, .slice ra14aBags ((((xU s t (cs[k]!)).1).qx).length) rc14aBags, .slice ra14aAround ((((xU s t (cs[k]!)).1).ql).length) rc14aAround]] rfl rfl Tryz.call134 (sameState_ok w33 ((ja s t cs k)[i]!) ((xU s t (cs[k]!)).1) ae30Alive ce30Alive Fe30Alive ae30Bags ce30Bags Fe30Bags ae30Around ce30Around Fe30Around ra14aAlive rc14aAlive G34 ra14aBags rc14aBags G37 ra14aAround rc14aAround G40 (H.get 0 rfl).1 (H.get 1 rfl).1 (H.get 2 rfl).1 h36 h39 h42) ?_)
   rintro _ w44 rfl x45
   replace H := H.ext x45
   refine sp (.bool (decide (((ja s t cs k)[i]!) = ((xU s t (cs[k]!)).1)))) ?_
   refine qw (t_n (xx ?_))
   refine ret1 (.bool (decide (((ja s t cs k)[i]!) = ((xU s t (cs[k]!)).1)))) rfl rfl ⟨_, rfl, ?_⟩
   replace H := H.erases [0]
   dsimp only [Qe, List.eraseIdx] at H
   refine qw (t_n ?_)
   refine qV (decide (((ja s t cs k)[i]!) = ((xU s t (cs[k]!)).1))) rfl (fun h46 => ?_) (fun h46 => ?_)
   ·skip
    replace h46 := of_decide_eq_true h46
    refine qm (qy ?_)
    refine sps [.int .i64 i, .int .i64 i] ?_
    refine qw (t_n (xx (b_r (t_r (t_r (b_r (t_r ?_)))))))
    refine ret1 (.int .i64 i) rfl rfl ⟨_, rfl, ?_⟩
    refine sw (o_pure (.bool true) (by show some (Value.bool (decide ((i : Int) ≥ 0))) = some (Value.bool true); rw [decide_eq_true (by omega)]) ?_)
    refine sp (.bool true) ?_
    refine qw (t_n (xx ?_))
    refine ret1 (.bool true) rfl rfl ⟨_, rfl, ?_⟩
    refine sp (.bool false) ?_
    refine qw (t_n ?_)
    refine qV false rfl (fun h => absurd h (by decide)) (fun _ => ?_)
    refine xh (b_n (t_n (qy ?_)))
    refine sw (zJ k 1 rfl rfl (by omega) ?_)
    refine sp (.int .i64 (k + 1)) ?_
    refine qw ?_
    refine xF (m' := (cs.length - ((k + 1) : Int)).toNat) (by omega) ⟨_, (aa b29 0), vZ, yt, (ja s t cs k), x_out, F_out, k + 1, (by exact qj (qj (qj (qj (qj (qj (rfl) rfl) rfl) rfl) rfl) rfl) rfl), ?_, ?_, ?_, rfl, (N.pick [1]), H.pick [4, 5, 6] [6, 7, 8, 9, 10, 11, 12]⟩
    · first | exact nextTo_new (NotIn.out (fun j hj => i2 j (by omega))) | exact nextTo_in (mem_at (k := i) (by omega) (by assumption))
    · omega
    · exact i1.succ ‹_›
   replace h46 := of_decide_eq_false h46
   refine xh (b_n (t_n (qy ?_)))
   refine sw (zJ i 1 rfl rfl (by omega) ?_)
   refine sp (.int .i64 (i + 1)) ?_
   refine qw ?_
   refine xF (m' := (vZ - ((i + 1) : Int)).toNat) (by omega) ⟨_, i + 1, (by exact qj (qj (qj (qj (rfl) rfl) rfl) rfl) rfl), ?_, ?_, rfl, N, H.pick [0, 1, 2, 3, 4, 5, 6] [3, 4, 5, 6, 7, 8, 9, 10, 11, 12]⟩
   · omega
   · exact i2.succ ‹_›
  replace h28 := of_decide_eq_false h28
  refine zy (t_x (t_x (b_x (t_n (qm (qy ?_))))))
  refine sp (.int .i64 (-1)) ?_
  refine qw (t_n (xx ?_))
  refine ret1 (.int .i64 (-1)) rfl rfl ⟨_, rfl, ?_⟩
  refine sps [.bool false, .bool false] ?_
  refine qw (t_n (xx ?_))
  refine ret1 (.bool false) rfl rfl ⟨_, rfl, ?_⟩
  refine sp (.bool true) ?_
  refine qw (t_n ?_)
  refine qV true rfl (fun _ => ?_) (fun h => absurd h (by decide))
  refine qy ?_
  refine sp (.slice yH vZ yt) ?_
  refine sw (zi [.slice ra14aAlive ((((xU s t (cs[k]!)).1).qh).length) rc14aAlive, .slice ra14aBags ((((xU s t (cs[k]!)).1).qx).length) rc14aBags, .slice ra14aAround ((((xU s t (cs[k]!)).1).ql).length) rc14aAround] Tryz.isAgg38 Tryz.sizeOf38 rfl (qG (H.cells 0 rfl) 0 3) ?_)
  refine sw (Qq H Tryz.underlying57 ti38 [.slice ra14aAlive ((((xU s t (cs[k]!)).1).qh).length) rc14aAlive, .slice ra14aBags ((((xU s t (cs[k]!)).1).qx).length) rc14aBags, .slice ra14aAround ((((xU s t (cs[k]!)).1).ql).length) rc14aAround] fun b47 w48 H => ?_)
  obtain ⟨G52, N, hn53, H⟩ := H.freezeB 2 rfl N (H.XF [0, 3])
  try dsimp only [List.set] at H
  have H0 := H
  obtain ⟨G54, hg56, hn55, H⟩ := H.Vt (α := List Int) 3 rfl 1 rfl (by decide)
  replace N : Fresh w.heap.size [G54, G52, F_out] := Fresh.ice (N.pick [1, 0, 2]) H0 3 hg56.1 hg56.2 (H0.XF [0, 4])
  clear H0
  try dsimp only [List.set] at H
  obtain ⟨G57, N, hn58, H⟩ := H.yh 4 rfl N (H.XF [0, 1, 5])
  try dsimp only [List.set] at H
  refine sw (Qr H 5 rfl 0 rfl Tryz.underlying57 ti38 rfl (by decide) rfl rfl rfl (by simp [Value.oneCell', Value.cells]) (by unfold maxLen; omega) (by omega) fun a49 c50 w51 H => ?_)
  try dsimp only [List.set] at H
  replace H := H.snoc_StateD 6 rfl 2 rfl 1 rfl 0 rfl
  replace N : Fresh w.heap.size [(F_out ++ (G52 ++ G54 ++ G57))] := (N.pick [2, 1, 0, 3]).join.join.swap.join
  refine sp (.slice a49 (vZ + 1) c50) ?_
  refine qw (b_n (t_n (qy ?_)))
  refine sw (zJ k 1 rfl rfl (by omega) ?_)
  refine sp (.int .i64 (k + 1)) ?_
  refine qw ?_
  refine xF (m' := (cs.length - ((k + 1) : Int)).toNat) (by omega) ⟨_, a49, vZ + 1, c50, ((ja s t cs k) ++ [⟨((xU s t (cs[k]!)).1).qh, ((xU s t (cs[k]!)).1).qx, ((xU s t (cs[k]!)).1).ql⟩]), x_out ++ [.slice ra14aAlive ((((xU s t (cs[k]!)).1).qh).length) rc14aAlive, .slice ra14aBags ((((xU s t (cs[k]!)).1).qx).length) rc14aBags, .slice ra14aAround ((((xU s t (cs[k]!)).1).ql).length) rc14aAround], (F_out ++ (G52 ++ G54 ++ G57)), k + 1, (by exact qj (qj (qj (qj (qj (qj (rfl) rfl) rfl) rfl) rfl) rfl) rfl), ?_, ?_, ?_, rfl, N, H.pick [5, 6, 7] [0, 8, 9, 10, 11, 12, 13]⟩
  · first | exact nextTo_new (NotIn.out (fun j hj => i2 j (by omega))) | exact nextTo_in (mem_at (k := i) (by omega) (by assumption))
  · omega
  · exact i1.succ ‹_›
 replace h9 := of_decide_eq_false h9
 refine zy (t_x (t_x (b_x (t_n (qm (qy ?_))))))
 refine sps [.slice yH vZ yt, .slice yH vZ yt, .int .i64 0] ?_
 refine qw (t_n (xx ?_))
 refine ret2 (.slice yH vZ yt) (.int .i64 0) rfl rfl rfl ⟨_, rfl, ?_, H.base⟩
 rw [next_ok (fun j hj => i1 j (by omega)), show cs.length = k by omega]
 exact ⟨yH, vZ, yt, x_out, F_out, rfl, N, H.pick [0] [0]⟩

theorem implNs_ok (w : World) (s : qU) (t : qP) (qp : Option Addr) (qo : Nat) (qO : List Nat) (qF : Option Addr) (qC : Nat) (xq : List Nat) (qN : Option Addr) (qH : Nat) (xK : List Nat) (xG : Option Addr) (xy : Nat) (zk : List Nat) (qL : Option Addr) (qK : Nat) (xH : List Nat) (xn : qQ.rep w qO [.slice qp s.qf.length qo] s.qf) (xM : qQ.rep w xq [.slice qF s.qg.length qC] s.qg) (zl : qQ.rep w xK [.slice qN t.qh.length qH] t.qh) (zV : qQ.rep w zk [.slice xG t.qx.length xy] t.qx) (xX : qQ.rep w xH [.slice qL t.ql.length qK] t.ql) : Calls Tryz.prog 34 #[.agg #[.int .i64 s.qI, .slice qp s.qf.length qo, .slice qF s.qg.length qC], .agg #[.slice qN t.qh.length qH, .slice xG t.qx.length xy, .slice qL t.ql.length qK]] w (Ret (fun v w' => ∃ (ra0 : Option Addr) (rn0 : Nat) (rc0 : Nat) (rx0 : List Value) (rF0 : List Nat), v = .tuple #[.slice ra0 rn0 rc0, .int .i64 ((zt s t).2)] ∧ Fresh w.heap.size [rF0] ∧ St w w' [.row (.slice ra0 rn0 rc0) 38 3 rn0 rx0] [vK true rF0 rx0 ((zt s t).1)]) w) := by
 refine enter (n := 35) Tryz.func34 rfl Tryz.ntmps34 (Nat.le_of_ble_eq_true rfl) ?_
 have H := (((((St.start w).arg xX).arg zV).arg zl).arg xM).arg xn
 have vk := qJ xn
 have jr := qJ xM
 have QX := qJ zl
 have XH := qJ zV
 have yZ := qJ xX
 clear xn xM zl zV xX
 have N := Fresh.nil w.heap.size
 refine qm (qy ?_)
 refine sw (jW H [.int .i64 s.qI, .slice qp s.qf.length qo, .slice qF s.qg.length qC] fun b1 w2 H => ?_)
 refine sw (jW H [.slice qN t.qh.length qH, .slice xG t.qx.length xy, .slice qL t.ql.length qK] fun b3 w4 H => ?_)
 refine sps [.slice none 0 0, .int .i64 0] ?_
 refine qw (t_n (qm (qm (qy ?_))))
 refine sw (zi [.int .i64 s.qI, .slice qp s.qf.length qo, .slice qF s.qg.length qC] Tryz.isAgg36 Tryz.sizeOf36 rfl (qG (H.cells 1 rfl) 0 3) ?_)
 refine sw (zi [.slice qN t.qh.length qH, .slice xG t.qx.length xy, .slice qL t.ql.length qK] Tryz.isAgg38 Tryz.sizeOf38 rfl (qG (H.cells 0 rfl) 0 3) ?_)
 refine sw (xf #[.agg #[.int .i64 s.qI, .slice qp s.qf.length qo, .slice qF s.qg.length qC], .agg #[.slice qN t.qh.length qH, .slice xG t.qx.length xy, .slice qL t.ql.length qK]] rfl rfl Tryz.call76 (validState_ok w4 s t qp qo qO qF qC xq qN qH xK xG xy zk qL qK xH (H.get 0 rfl).1 (H.get 1 rfl).1 (H.get 2 rfl).1 (H.get 3 rfl).1 (H.get 4 rfl).1) ?_)
 rintro _ w6 rfl x7
 replace H := H.ext x7
 refine sp (.bool (!(dec (Qb s ∧ zM s t)))) ?_
 refine qw (t_n ?_)
 refine qV (!(dec (Qb s ∧ zM s t))) rfl (fun h8 => ?_) (fun h8 => ?_)
 ·skip
  replace h8 := xe h8
  replace h8 := zg h8
  refine qm (qy ?_)
  refine sps [.slice none 0 0, .int .i64 1] ?_
  refine qw (t_n (xx (t_r ?_)))
  replace H := H.nilRow 38 3
  replace H := H.Q5 (α := qP)
  refine ret2 (.slice none 0 0) (.int .i64 1) rfl rfl rfl ⟨_, rfl, ?_, H.base⟩
  rw [ns_1 ‹_›]
  exact ⟨none, 0, 0, [], [], rfl, N.emp, H.pick [0] [0]⟩
 replace h8 := qX h8
 replace h8 := jA h8
 have k0 := (‹Qb s ∧ zM s t› : Qb s ∧ zM s t)
 have k1 := k0.1
 have k2 := k0.2
 have k4 := k1.2.1
 refine xh (t_n (qm (qy ?_)))
 refine sw (QW H Tryz.underlying27 ti22 fun b9 w10 H => ?_)
 refine sp (.slice (aa b9 0) 0 0) ?_
 refine qw (t_n (qm (qm (qy ?_))))
 refine sw (zi [.int .i64 s.qI, .slice qp s.qf.length qo, .slice qF s.qg.length qC] Tryz.isAgg36 Tryz.sizeOf36 rfl (qG (H.cells 2 rfl) 0 3) ?_)
 refine sw (zi [.slice qN t.qh.length qH, .slice xG t.qx.length xy, .slice qL t.ql.length qK] Tryz.isAgg38 Tryz.sizeOf38 rfl (qG (H.cells 1 rfl) 0 3) ?_)
 have sz14 := H.base.size
 refine sw (xf #[.agg #[.int .i64 s.qI, .slice qp s.qf.length qo, .slice qF s.qg.length qC], .agg #[.slice qN t.qh.length qH, .slice xG t.qx.length xy, .slice qL t.ql.length qK]] rfl rfl Tryz.call65 (applicable_ok w10 s t qp qo qO qF qC xq qN qH xK xG xy zk qL qK xH (H.get 0 rfl).1 (H.get 1 rfl).1 (H.get 2 rfl).1 (H.get 3 rfl).1 (H.get 4 rfl).1 (by first | assumption | omega) (by first | assumption | omega)) ?_)
 rintro _ w12 ⟨ra11, rn11, rc11, rfl, M, K⟩ _
 replace H := H.merge K M
 dsimp only [List.cons_append, List.nil_append] at H
 obtain rfl := H.VB 0 rfl
 have al : (appls s t).length ≤ s.qg.length := applL_le s t s.qg.length
 refine sw (zD Tryz.underlying22 ra11 ((appls s t).length) rc11 rfl ?_)
 refine sp (.int .i64 0) ?_
 refine qw (t_n (xu ?_))
 replace H := H.boxRow 1 rfl 1 0 rfl (by decide)
 try dsimp only [List.set] at H
 replace H := H.Q5 (α := List Int)
 refine zG (fun m' ρ w17 => ∃ (junk : Env) (Qw : Option Addr) (jX : Nat) (Qv : Nat) (choices : List (List Int)) (Vk : List Value) (Q3 : List Nat) (k : Nat), ρ = upd (upd (upd (upd (upd (upd junk 2 (pp b1 0)) 3 (pp b3 0)) 6 (.slice Qw jX Qv)) 16 (.slice ra11 ((appls s t).length) rc11)) 17 (.int .i64 ((appls s t).length))) 18 (.int .i64 k) ∧ choices = xW s ((appls s t).take k) ∧ ((k : Int) ≤ ((appls s t).length)) ∧ m' = (((appls s t).length) - (k : Int)).toNat ∧ Fresh w.heap.size [Q3] ∧ St w w17 [.row (.slice ra11 ((appls s t).length) rc11) 2 1 ((appls s t).length) ((appls s t).map (Value.int .i64)), .row (.slice Qw jX Qv) 22 1 jX Vk, .box b3 [.slice qN t.qh.length qH, .slice xG t.qx.length xy, .slice qL t.ql.length qK] 38, .box b1 [.int .i64 s.qI, .slice qp s.qf.length qo, .slice qF s.qg.length qC] 36] [vK true Q3 Vk choices, isF false qO (.slice qp s.qf.length qo) s.qf, isF false xq (.slice qF s.qg.length qC) s.qg, isF false xK (.slice qN t.qh.length qH) t.qh, isF false zk (.slice xG t.qx.length xy) t.qx, isF false xH (.slice qL t.ql.length qK) t.ql]) ((((appls s t).length) - (0 : Int)).toNat) ⟨_, (aa b9 0), 0, 0, ([] : List (List Int)), [], [], 0, (by exact qj (qj (qj (qj (qj (qj (rfl) rfl) rfl) rfl) rfl) rfl) rfl), (by rfl), (by omega), rfl, N.emp, H⟩ ?_
 clear H N
 rintro m' ρ w18 ⟨junk, Qw, jX, Qv, choices, Vk, Q3, k, rfl, rfl, i0, rfl, N, H⟩
 have hn_choices := H.zB (α := List Int) 1 rfl 0 rfl (by decide)
 have sl := XG s ((appls s t).take k)
 have lt := List.length_take_le k (appls s t)
 refine qm (qy ?_)
 refine sp (.bool (decide ((k : Int) < ((appls s t).length)))) ?_
 refine qw (t_n (qm ?_))
 refine qV (decide ((k : Int) < ((appls s t).length))) rfl (fun h19 => ?_) (fun h19 => ?_)
 ·skip
  replace h19 := of_decide_eq_true h19
  refine xh (t_n (qm (xu (qm (qy ?_)))))
  obtain ⟨b20, rfl⟩ := H.Vr 0 rfl (by omega)
  refine sw (xJ k Tryz.underlying22 ti2 rfl rfl (by omega) (by omega) ?_)
  refine sw (qE (.int .i64 ((appls s t)[k]!)) Tryz.isAgg2 rfl (H.rowInt 0 rfl (iv := k) (i := k) (by omega) (by omega)) ?_)
  refine sp (.int .i64 ((appls s t)[k]!)) ?_
  refine qw (t_n (qy ?_))
  refine sp (.slice Qw jX Qv) ?_
  refine sw (zi [.int .i64 s.qI, .slice qp s.qf.length qo, .slice qF s.qg.length qC] Tryz.isAgg36 Tryz.sizeOf36 rfl (qG (H.cells 3 rfl) 0 3) ?_)
  refine sp (.int .i64 ((appls s t)[k]!)) ?_
  obtain ⟨a0, a1, a2⟩ := appls_single (s := s) (t := t) (k := k) (by omega)
  have sz24 := H.base.size
  refine sw (xf #[.agg #[.int .i64 s.qI, .slice qp s.qf.length qo, .slice qF s.qg.length qC], .int .i64 ((appls s t)[k]!)] rfl rfl Tryz.call67 (single_ok w18 s ((appls s t)[k]!) qp qo qO qF qC xq (H.get 1 rfl).1 (H.get 2 rfl).1 (by first | assumption | omega) (by first | assumption | omega)) ?_)
  rintro _ w22 ⟨ra21, rn21, rc21, rfl, M, K⟩ _
  replace H := H.merge K M
  dsimp only [List.cons_append, List.nil_append] at H
  obtain rfl := H.VB 0 rfl
  refine sw (Qq H Tryz.underlying27 ti22 [.slice ra21 ((single s (((appls s t)[k]!) : Int).toNat).length) rc21] fun b27 w28 H => ?_)
  obtain ⟨G32, N, hn33, H⟩ := H.yh 1 rfl N (H.XF [0])
  try dsimp only [List.set] at H
  refine sw (Qr H 3 rfl 0 rfl Tryz.underlying27 ti22 rfl (by decide) rfl rfl rfl (by simp [Value.oneCell', Value.cells]) (by unfold maxLen; omega) (by omega) fun a29 c30 w31 H => ?_)
  try dsimp only [List.set] at H
  replace H := H.XO 1 rfl 0 rfl
  replace N : Fresh w.heap.size [(Q3 ++ G32)] := (N.pick [1, 0]).join
  refine sp (.slice a29 (jX + 1) c30) ?_
  refine qw (b_n (t_n (qy ?_)))
  refine sw (zJ k 1 rfl rfl (by omega) ?_)
  refine sp (.int .i64 (k + 1)) ?_
  refine qw ?_
  refine xF (m' := (((appls s t).length) - ((k + 1) : Int)).toNat) (by omega) ⟨_, a29, jX + 1, c30, ((xW s ((appls s t).take k)) ++ [single s (((appls s t)[k]!) : Int).toNat]), Vk ++ [.slice ra21 ((single s (((appls s t)[k]!) : Int).toNat).length) rc21], (Q3 ++ G32), k + 1, (by exact qj (qj (qj (qj (qj (qj (rfl) rfl) rfl) rfl) rfl) rfl) rfl), ?_, ?_, rfl, N, H.pick [2, 3, 4, 5] [0, 3, 4, 5, 6, 7]⟩
  · exact singles_take (by omega)
  · omega
 replace h19 := of_decide_eq_false h19
 refine zy (t_x (t_x (b_x (t_n (qm (qy ?_))))))
 refine sw (zi [.int .i64 s.qI, .slice qp s.qf.length qo, .slice qF s.qg.length qC] Tryz.isAgg36 Tryz.sizeOf36 rfl (qG (H.cells 3 rfl) 0 3) ?_)
 refine sw (zi [.slice qN t.qh.length qH, .slice xG t.qx.length xy, .slice qL t.ql.length qK] Tryz.isAgg38 Tryz.sizeOf38 rfl (qG (H.cells 2 rfl) 0 3) ?_)
 refine sp (.slice Qw jX Qv) ?_
 obtain ⟨G34, hn35, h36⟩ := H.rowIsR (α := List Int) 1 rfl 0 rfl (by decide)
 have he : xW s ((appls s t).take k) = xW s (appls s t) := by rw [List.take_of_length_le (by omega)]
 have ks := XG s (appls s t)
 have kl : (appls s t).length ≤ s.qg.length := applL_le s t s.qg.length
 have kn : (xW s ((appls s t).take k)).length ≤ 1000 := by rw [he]; omega
 have kc : ∀ q, q < (xW s ((appls s t).take k)).length → CntOk s ((xW s ((appls s t).take k))[q]!) := by rw [he]; exact fun q hq => singles_cnt hq
 have kd : ∀ q, q < (xW s ((appls s t).take k)).length → IsCh s t ((xW s ((appls s t).take k))[q]!) := by rw [he]; exact fun q hq => singles_isCh k1 k2 hq
 have sz40 := H.base.size
 have lt41 := H.ltN (L := [Q3]) [0]
 refine sw (xf #[.agg #[.int .i64 s.qI, .slice qp s.qf.length qo, .slice qF s.qg.length qC], .agg #[.slice qN t.qh.length qH, .slice xG t.qx.length xy, .slice qL t.ql.length qK], .slice Qw jX Qv] rfl rfl Tryz.call81 (args_eq (by rw [← hn35]) (behind_ok w18 s t (xW s ((appls s t).take k)) qp qo qO qF qC xq qN qH xK xG xy zk qL qK xH Qw Qv G34 (H.get 1 rfl).1 (H.get 2 rfl).1 (H.get 3 rfl).1 (H.get 4 rfl).1 (H.get 5 rfl).1 (hn35 ▸ h36) (by first | assumption | omega) (by first | assumption | omega) (by first | assumption | omega) (by first | assumption | omega) (by first | assumption | omega))) ?_)
 rintro _ w38 ⟨ra37a, rn37a, rc37a, rx37a, rF37a, rfl, M, K⟩ _
 replace N := N.merge sz40 lt41 M
 replace H := H.merge K M
 dsimp only [List.cons_append, List.nil_append] at H
 obtain rfl := H.zB (α := qP) 0 rfl 0 rfl (by decide)
 refine sps [.slice ra37a (((Qn s t (xW s ((appls s t).take k))).1).length) rc37a, .int .i64 ((Qn s t (xW s ((appls s t).take k))).2), .slice ra37a (((Qn s t (xW s ((appls s t).take k))).1).length) rc37a, .int .i64 ((Qn s t (xW s ((appls s t).take k))).2)] ?_
 refine qw (t_n (xx ?_))
 refine ret2 (.slice ra37a (((Qn s t (xW s ((appls s t).take k))).1).length) rc37a) (.int .i64 ((Qn s t (xW s ((appls s t).take k))).2)) rfl rfl rfl ⟨_, rfl, ?_, H.base⟩
 rw [ns_0 k0, ← he]
 exact ⟨ra37a, ((Qn s t (xW s ((appls s t).take k))).1).length, rc37a, rx37a, rF37a, rfl, (N.pick [0]), H.pick [0] [0]⟩

end Go.Proofs.YtkmlihdacnfhdaaGreat
