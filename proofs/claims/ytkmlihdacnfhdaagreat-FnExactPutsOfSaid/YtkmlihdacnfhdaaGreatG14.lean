/- Walks, printed by program (wip/tools/gv.py): what each function comes to, for all arguments. -/
import Derived.Test.YtkmlihdacnfhdaaGreatG13
namespace Go.Proofs.YtkmlihdacnfhdaaGreat
open Go.Proofs.YtkmlihdacnfhdaaGreat.Tot (tot)
open Go.Proofs.YtkmlihdacnfhdaaGreat.Mark (cnt mrk mkd mkd_mark cnt_mark)
open Go.RowKit
set_option linter.unusedVariables false
set_option linter.unusedSimpArgs false
set_option maxRecDepth 100000
set_option maxHeartbeats 4000000



theorem firstChoice_ok (w : World) (s : qR) (t : xF) (qm : Option Addr) (ql : Nat) (qL : List Nat) (qE : Option Addr) (qA : Nat) (xk : List Nat) (xu : Option Addr) (qZ : Nat) (xY : List Nat) (xB : Option Addr) (xx : Nat) (zG : List Nat) (qV : Option Addr) (qU : Nat) (xJ : List Nat) (qY : qM.rep w qL [.slice qm s.qg.length ql] s.qg) (xA : qM.rep w xk [.slice qE s.qf.length qA] s.qf) (zo : qM.rep w xY [.slice xu t.qy.length qZ] t.qy) (zT : qM.rep w zG [.slice xB t.qG.length xx] t.qG) (xR : qM.rep w xJ [.slice qV t.qB.length qU] t.qB) (p0 : Qj s) (p1 : zY s t) : Calls Tryz.prog 53 #[.agg #[.int .i64 s.qF, .slice qm s.qg.length ql, .slice qE s.qf.length qA], .agg #[.slice xu t.qy.length qZ, .slice xB t.qG.length xx, .slice qV t.qB.length qU]] w (Ret (fun v w' => ∃ (ra : Option Addr) (rn : Nat) (rc : Nat), v = .slice ra rn rc ∧ Fresh w.heap.size [] ∧ St w w' [.row (.slice ra rn rc) 2 1 rn ((xC s t).map (Value.int .i64))] []) w) := by
 refine enter (n := 60) Tryz.func53 rfl Tryz.ntmps53 (Nat.le_of_ble_eq_true rfl) ?_
 have H := (((((St.start w).arg xR).arg zT).arg zo).arg xA).arg qY
 have zH := qJ qY
 have vN := qJ xA
 have QB := qJ zo
 have nhtBags := qJ zT
 have yS := qJ xR
 clear qY xA zo zT xR
 have N := Fresh.nil w.heap.size
 have p3 := p0.2.1
 have p7 := p1.2.1
 have p8 := kinds_le p0
 have p9 := p0.1.2.1
 have p11 : CellsN s = s.qg.length := rfl
 refine qh (qp ?_)
 refine sw (jy H [.int .i64 s.qF, .slice qm s.qg.length ql, .slice qE s.qf.length qA] fun b1 w2 H => ?_)
 refine sw (jy H [.slice xu t.qy.length qZ, .slice xB t.qG.length xx, .slice qV t.qB.length qU] fun b3 w4 H => ?_)
 refine sp (.slice none 0 0) ?_
 refine qo (t_n (qh ?_))
 refine c_cut (fun ρ w5 => ∃ (junk : Env) (b6 : Nat) (ra7 : Option Addr) (rc8 : Nat) (rx9 : List Value) (rF10 : List Nat), ρ = upd (upd (upd (upd junk 2 (pp b1 0)) 3 (pp b3 0)) 5 (.slice (aa b6 0) s.qf.length s.qf.length)) 6 (.slice ra7 t.qG.length rc8) ∧ Fresh w.heap.size [] ∧ St w w5 [.row (.slice ra7 t.qG.length rc8) 22 1 t.qG.length rx9, .row (.slice (aa b6 0) s.qf.length s.qf.length) 2 1 s.qf.length ((List.replicate s.qf.length (0 : Int)).map (Value.int .i64)), .box b3 [.slice xu t.qy.length qZ, .slice xB t.qG.length xx, .slice qV t.qB.length qU] 38, .box b1 [.int .i64 s.qF, .slice qm s.qg.length ql, .slice qE s.qf.length qA] 36] [jo false rF10 rx9 t.qG, isF false qL (.slice qm s.qg.length ql) s.qg, isF false xk (.slice qE s.qf.length qA) s.qf, isF false xY (.slice xu t.qy.length qZ) t.qy, isF false zG (.slice xB t.qG.length xx) t.qG, isF false xJ (.slice qV t.qB.length qU) t.qB]) ?_ ?_
 ·skip
  refine jf rfl H fun H => ?_
  refine rt 0 (pp b1 (0 + 2)) (xH b1 (0) 2 Tryz.underlying36 rfl rfl Tryz.sizeOf34 rfl) H ?_
  refine rt 1 (.slice qE s.qf.length qA) (xw Tryz.isAgg34 rfl (fun _ h => h.cell 1 rfl rfl)) H ?_
  refine rt 2 (.int .i64 s.qf.length) (y_len Tryz.underlying34 qE s.qf.length qA rfl) H ?_
  refine rt 4 (pp b3 (0 + 1)) (xH b3 (0) 1 Tryz.underlying38 rfl rfl Tryz.sizeOf27 rfl) H ?_
  refine rt 5 (.slice xB t.qG.length xx) (xw Tryz.isAgg27 rfl (fun _ h => h.cell 0 rfl rfl)) H ?_
  refine zt [3, 6] (by kernel_rfl) (by simp) (yF rfl ?_ (yF rfl ?_ zu))
  ·skip
   refine o_makeI H Tryz.underlying22 ti2 s.qf.length rfl rfl (by omega) (by omega) (by omega) fun b12 w13 H => ?_
   refine ⟨H.pick [1, 2] [0, 1, 2, 3, 4], ?_⟩
   refine zt [6] (by kernel_rfl) (by simp) (yF rfl ?_ zu)
   have sz17 := H.base.size
   refine xm #[.slice xB t.qG.length xx] rfl rfl Tryz.call98 (cloneSS_ok w13 t.qG xB xx zG (H.get 3 rfl).1 (by first | assumption | omega)) ?_
   rintro _ w15 ⟨ra14, rn14, rc14, rx14, rF14, rfl, hG19, K⟩ _
   replace H := H.mergeIn K 3 rfl hG19
   dsimp only [List.cons_append, List.nil_append] at H
   obtain rfl := H.jB (α := List Int) 0 rfl 0 rfl (by decide)
   refine ⟨H.pick [2, 3] [1, 2, 3, 4, 5], ?_⟩
   have S := H.QN [2, 3] [1, 2, 3, 4, 5]
   refine rtp 7 (.slice (aa b12 0) s.qf.length s.qf.length) S ?_
   refine rtp 8 (.slice ra14 t.qG.length rc14) S ?_
   refine xZ (by kernel_rfl) (?_)
   exact meet ⟨_, b12, ra14, rc14, rx14, rF14, (by exact qj (qj (qj (qj (rfl) rfl) rfl) rfl) rfl), N, H⟩
  have sz23 := H.base.size
  refine xm #[.slice xB t.qG.length xx] rfl rfl Tryz.call98 (cloneSS_ok w4.drew t.qG xB xx zG (H.get 3 rfl).1 (by first | assumption | omega)) ?_
  rintro _ w21 ⟨ra20, rn20, rc20, rx20, rF20, rfl, hG25, K⟩ _
  replace H := H.mergeIn K 3 rfl hG25
  dsimp only [List.cons_append, List.nil_append] at H
  obtain rfl := H.jB (α := List Int) 0 rfl 0 rfl (by decide)
  refine ⟨H.pick [1, 2] [1, 2, 3, 4, 5], ?_⟩
  refine zt [3] (by kernel_rfl) (by simp) (yF rfl ?_ zu)
  refine o_makeI H Tryz.underlying22 ti2 s.qf.length rfl rfl (by omega) (by omega) (by omega) fun b26 w27 H => ?_
  refine ⟨H.pick [2, 3] [1, 2, 3, 4, 5], ?_⟩
  have S := H.QN [2, 3] [1, 2, 3, 4, 5]
  refine rtp 7 (.slice (aa b26 0) s.qf.length s.qf.length) S ?_
  refine rtp 8 (.slice ra20 t.qG.length rc20) S ?_
  refine xZ (by kernel_rfl) (?_)
  exact meet ⟨_, b26, ra20, rc20, rx20, rF20, (by exact qj (qj (qj (qj (rfl) rfl) rfl) rfl) rfl), N, H.pick [1, 0, 2, 3] [0, 1, 2, 3, 4, 5]⟩
 clear H N
 rintro ρ w28 ⟨junk, b6, ra7, rc8, rx9, rF10, rfl, N, H⟩
 refine t_n (qh (qh (qp ?_)))
 refine sw (zn [.int .i64 s.qF, .slice qm s.qg.length ql, .slice qE s.qf.length qA] Tryz.isAgg36 Tryz.sizeOf36 rfl (qK (H.cells 3 rfl) 0 3) ?_)
 refine sw (zn [.slice xu t.qy.length qZ, .slice xB t.qG.length xx, .slice qV t.qB.length qU] Tryz.isAgg38 Tryz.sizeOf38 rfl (qK (H.cells 2 rfl) 0 3) ?_)
 have sz32 := H.base.size
 refine sw (xm #[.agg #[.int .i64 s.qF, .slice qm s.qg.length ql, .slice qE s.qf.length qA], .agg #[.slice xu t.qy.length qZ, .slice xB t.qG.length xx, .slice qV t.qB.length qU]] rfl rfl Tryz.call65 (applicable_ok w28 s t qm ql qL qE qA xk xu qZ xY xB xx zG qV qU xJ (H.get 1 rfl).1 (H.get 2 rfl).1 (H.get 3 rfl).1 (H.get 4 rfl).1 (H.get 5 rfl).1 (by first | assumption | omega) (by first | assumption | omega)) ?_)
 rintro _ w30 ⟨ra29, rn29, rc29, rfl, M, K⟩ _
 replace H := H.merge K M
 dsimp only [List.cons_append, List.nil_append] at H
 obtain rfl := H.rowNI 0 rfl
 have al : (appls s t).length ≤ s.qf.length := applL_le s t s.qf.length
 refine sw (zK Tryz.underlying22 ra29 ((appls s t).length) rc29 rfl ?_)
 refine sp (.int .i64 0) ?_
 refine qo (t_n (xn ?_))
 refine zC (fun m' ρ w35 => ∃ (junk : Env) (k : Nat) (rest : List (List Int)) (x_rest : List Value) (F_rest : List Nat) (out : List Int) (m : Nat), ρ = upd (upd (upd (upd (upd (upd junk 2 (pp b1 0)) 5 (.slice (aa b6 0) s.qf.length s.qf.length)) 6 (.slice ra7 t.qG.length rc8)) 19 (.slice ra29 ((appls s t).length) rc29)) 20 (.int .i64 ((appls s t).length))) 21 (.int .i64 k) ∧ rest = zk s t m ∧ out = firstTo s t m s.qf.length ∧ ((k : Int) ≤ ((appls s t).length)) ∧ ((applL s t m).length = k) ∧ (m ≤ s.qf.length) ∧ m' = (((appls s t).length) - (k : Int)).toNat ∧ Fresh w.heap.size [] ∧ St w w35 [.row (.slice ra29 ((appls s t).length) rc29) 2 1 ((appls s t).length) ((appls s t).map (Value.int .i64)), .row (.slice ra7 t.qG.length rc8) 22 1 t.qG.length x_rest, .row (.slice (aa b6 0) s.qf.length s.qf.length) 2 1 s.qf.length (out.map (Value.int .i64)), .box b3 [.slice xu t.qy.length qZ, .slice xB t.qG.length xx, .slice qV t.qB.length qU] 38, .box b1 [.int .i64 s.qF, .slice qm s.qg.length ql, .slice qE s.qf.length qA] 36] [jo false F_rest x_rest rest, isF false qL (.slice qm s.qg.length ql) s.qg, isF false xk (.slice qE s.qf.length qA) s.qf, isF false xY (.slice xu t.qy.length qZ) t.qy, isF false zG (.slice xB t.qG.length xx) t.qG, isF false xJ (.slice qV t.qB.length qU) t.qB]) ((((appls s t).length) - (0 : Int)).toNat) ⟨_, 0, t.qG, rx9, rF10, (List.replicate s.qf.length (0 : Int)), 0, (by exact qj (qj (qj (qj (qj (qj (rfl) rfl) rfl) rfl) rfl) rfl) rfl), (by rfl), (by exact firstTo_zero s t _), (by omega), (by rfl), (by omega), rfl, N, H⟩ ?_
 clear H N
 rintro m' ρ w36 ⟨junk, k, rest, x_rest, F_rest, out, m, rfl, rfl, rfl, i0, hm, hn, rfl, N, H⟩
 have hn_rest := H.jB (α := List Int) 1 rfl 0 rfl (by decide)
 have hn_out := H.rowNI 2 rfl
 refine qh (qp ?_)
 refine sp (.bool (decide ((k : Int) < ((appls s t).length)))) ?_
 refine qo (t_n (qh ?_))
 refine qP (decide ((k : Int) < ((appls s t).length))) rfl (fun h37 => ?_) (fun h37 => ?_)
 ·skip
  replace h37 := of_decide_eq_true h37
  obtain ⟨a0, a1, a2, a3, a4, a5⟩ := appls_at' hm hn (by omega)
  have q := p0.rule (i := ((appls s t)[k]!).toNat) (by omega)
  have qc := q.1
  have qk := q.cell
  have qr := q.2.1
  have bn1 := q.2.2.2.2.1
  have rl := (firstR_box p0 p1 m (by omega)).1
  have fl := vw s t m s.qf.length
  have ex : ((firstTo s t m s.qf.length).set ((appls s t)[k]!).toNat (jq (s.qf[((appls s t)[k]!).toNat]!).qI ((zk s t m)[(s.qf[((appls s t)[k]!).toNat]!).qw.toNat]!)))[((appls s t)[k]!).toNat]! = (jq (s.qf[((appls s t)[k]!).toNat]!).qI ((zk s t m)[(s.qf[((appls s t)[k]!).toNat]!).qw.toNat]!)) := by rw [getset (by rw [vw]; omega), if_pos rfl]
  have xb := firstC_bd p0 p1 (k := ((appls s t)[k]!).toNat) a2
  rw [← firstC_step a1 a3 a4] at xb
  refine xg (t_n (qh (xn (qh (qp ?_)))))
  obtain ⟨b38, rfl⟩ := H.rowAddr 0 rfl (by omega)
  refine sw (xE k Tryz.underlying22 ti2 rfl rfl (by omega) (by omega) ?_)
  refine sw (qC (.int .i64 ((appls s t)[k]!)) Tryz.isAgg2 rfl (H.rowInt 0 rfl (iv := k) (i := k) (by omega) (by omega)) ?_)
  refine sp (.int .i64 ((appls s t)[k]!)) ?_
  refine qo (t_n (qh (qp ?_)))
  refine sw (qH b1 (0) 2 Tryz.underlying36 rfl rfl Tryz.sizeOf34 rfl ?_)
  refine sw (qC (.slice qE s.qf.length qA) Tryz.isAgg34 rfl (H.cell 4 rfl rfl) ?_)
  refine sp (.int .i64 ((appls s t)[k]!)) ?_
  obtain ⟨b39, o40, rfl⟩ := H.addr 2 rfl (by omega)
  obtain ⟨ae42Need, ce42Need, Fe42Need, ae42Have, ce42Have, Fe42Have, ae42Lack, ce42Lack, Fe42Lack, ae42Here, ce42Here, Fe42Here, ae42Out, ce42Out, Fe42Out, ae42Into, ce42Into, Fe42Into, H⟩ := H.jv 2 rfl ((appls s t)[k]!) (((appls s t)[k]!).toNat) (by omega) (by omega) (by omega)
  refine sw (xE ((appls s t)[k]!) Tryz.underlying34 ti110 rfl rfl (by omega) (by omega) ?_)
  refine sw (zn [.int .i64 ((s.qf[((appls s t)[k]!).toNat]!).qw), .int .i64 ((s.qf[((appls s t)[k]!).toNat]!).xM), .slice ae42Need (((s.qf[((appls s t)[k]!).toNat]!).qI).length) ce42Need, .slice ae42Have (((s.qf[((appls s t)[k]!).toNat]!).qW).length) ce42Have, .slice ae42Lack (((s.qf[((appls s t)[k]!).toNat]!).qX).length) ce42Lack, .slice ae42Here (((s.qf[((appls s t)[k]!).toNat]!).xe).length) ce42Here, .slice ae42Out (((s.qf[((appls s t)[k]!).toNat]!).xO).length) ce42Out, .slice ae42Into (((s.qf[((appls s t)[k]!).toNat]!).qx).length) ce42Into, .bool ((s.qf[((appls s t)[k]!).toNat]!).xG)] Tryz.isAgg110 Tryz.sizeOf110 rfl (qK (H.get 6 rfl) 0 9) ?_)
  refine sw (QP H ti110 [.int .i64 0, .int .i64 0, .slice none 0 0, .slice none 0 0, .slice none 0 0, .slice none 0 0, .slice none 0 0, .slice none 0 0, .bool false] fun b43 w44 H => ?_)
  refine sw (QO H 0 [.int .i64 ((s.qf[((appls s t)[k]!).toNat]!).qw), .int .i64 ((s.qf[((appls s t)[k]!).toNat]!).xM), .slice ae42Need (((s.qf[((appls s t)[k]!).toNat]!).qI).length) ce42Need, .slice ae42Have (((s.qf[((appls s t)[k]!).toNat]!).qW).length) ce42Have, .slice ae42Lack (((s.qf[((appls s t)[k]!).toNat]!).qX).length) ce42Lack, .slice ae42Here (((s.qf[((appls s t)[k]!).toNat]!).xe).length) ce42Here, .slice ae42Out (((s.qf[((appls s t)[k]!).toNat]!).xO).length) ce42Out, .slice ae42Into (((s.qf[((appls s t)[k]!).toNat]!).qx).length) ce42Into, .bool ((s.qf[((appls s t)[k]!).toNat]!).xG)] Tryz.sizeOf110 fun w45 H => ?_)
  try dsimp only [List.set] at H
  refine qo (t_n (qh ?_))
  refine QI rfl H [0, 1, 2, 4, 5] fun H => ?_
  have S := H.QN [0, 1, 2, 4, 5] [0, 1, 2, 3, 4, 5, 6, 7, 8, 9, 10, 11, 12]
  refine rtp 0 (.slice (aa b6 0) s.qf.length s.qf.length) S ?_
  refine rtp 1 (.int .i64 ((appls s t)[k]!)) S ?_
  refine rt 2 (pp b43 (0 + 2)) (xH b43 (0) 2 Tryz.underlying110 rfl rfl Tryz.sizeOf22 rfl) S ?_
  refine rt 3 (.slice ae42Need (((s.qf[((appls s t)[k]!).toNat]!).qI).length) ce42Need) (xw Tryz.isAgg22 rfl (fun _ h => h.cell 0 rfl rfl)) S ?_
  refine rtp 4 (.slice ra7 t.qG.length rc8) S ?_
  refine rt 5 (pp b43 (0 + 0)) (xH b43 (0) 0 Tryz.underlying110 rfl rfl Tryz.sizeOf2 rfl) S ?_
  refine rt 6 (.int .i64 ((s.qf[((appls s t)[k]!).toNat]!).qw)) (xw Tryz.isAgg2 rfl (fun _ h => h.cell 0 rfl rfl)) S ?_
  obtain ⟨b47, rfl⟩ := H.rowAddr 2 rfl (by omega)
  refine rt 7 (pp b47 (0 + ((s.qf[((appls s t)[k]!).toNat]!).qw : Int).toNat * 1)) (xQ b47 (0) t.qG.length rc8 ((s.qf[((appls s t)[k]!).toNat]!).qw) Tryz.underlying27 ti22 rfl rfl (by omega) (by omega)) (H.pick [0, 1, 2, 4, 5] [0, 1, 2, 3, 4, 5, 6, 7, 8, 9, 10, 11, 12]) ?_
  refine zt [8] (by kernel_rfl) (by simp) (yF rfl ?_ zu)
  obtain ⟨a48, c49, G50, s51, h52, H⟩ := H.Qb 2 rfl 7 rfl (iv := (s.qf[((appls s t)[k]!).toNat]!).qw) (((s.qf[((appls s t)[k]!).toNat]!).qw).toNat) (by omega) (by omega)
  refine qC (.slice a48 (((zk s t m)[((s.qf[((appls s t)[k]!).toNat]!).qw).toNat]!).length) c49) Tryz.isAgg22 rfl (h52) ?_
  refine ⟨H.pick [0, 1, 2, 4, 5] [1, 2, 3, 4, 5, 6, 7, 8, 9, 10, 11, 12, 13], ?_⟩
  refine zt [9] (by kernel_rfl) (by simp) (yF rfl ?_ zu)
  obtain ⟨u1, u2, u5⟩ := firstR_row (c := (s.qf[((appls s t)[k]!).toNat]!).qw.toNat) p0 p1 (show m ≤ _ by omega) qk
  have u3 := bn1.len
  have u6 : ∀ q, q < ((s.qf[((appls s t)[k]!).toNat]!).qI).length → 0 ≤ ((zk s t m)[(s.qf[((appls s t)[k]!).toNat]!).qw.toNat]!)[q]! ∧ ((zk s t m)[(s.qf[((appls s t)[k]!).toNat]!).qw.toNat]!)[q]! ≤ 1000 := fun q hq => u5 q (by omega)
  refine xm #[.slice ae42Need (((s.qf[((appls s t)[k]!).toNat]!).qI).length) ce42Need, .slice a48 (((zk s t m)[((s.qf[((appls s t)[k]!).toNat]!).qw).toNat]!).length) c49] rfl rfl Tryz.call99 (timesIn_ok w45.drew ((s.qf[((appls s t)[k]!).toNat]!).qI) ((zk s t m)[((s.qf[((appls s t)[k]!).toNat]!).qw).toNat]!) ae42Need ce42Need Fe42Need a48 c49 G50 (H.get 1 rfl).1 (H.get 0 rfl).1 (by first | assumption | omega) (by first | assumption | omega)) ?_
  rintro _ w54 rfl x55
  replace H := H.ext x55
  refine ⟨H.pick [0, 1, 2, 4, 5] [1, 2, 3, 4, 5, 6, 7, 8, 9, 10, 11, 12, 13], ?_⟩
  refine rt 10 (pp b6 (0 + ((appls s t)[k]! : Int).toNat * 1)) (xQ b6 (0) s.qf.length s.qf.length ((appls s t)[k]!) Tryz.underlying22 ti2 rfl rfl (by omega) (by omega)) (H.pick [0, 1, 2, 4, 5] [1, 2, 3, 4, 5, 6, 7, 8, 9, 10, 11, 12, 13]) ?_
  refine zt [11] (by kernel_rfl) (by simp) (yF rfl ?_ zu)
  refine o_storeInt H 3 rfl (jq ((s.qf[((appls s t)[k]!).toNat]!).qI) ((zk s t m)[((s.qf[((appls s t)[k]!).toNat]!).qw).toNat]!)) Tryz.sizeOf2 rfl rfl (i := (((appls s t)[k]!).toNat)) (by omega) (by omega) fun w56 H => ?_
  try dsimp only [List.set] at H
  refine ⟨H.pick [0, 1, 2, 4, 5] [1, 2, 3, 4, 5, 6, 7, 8, 9, 10, 11, 12, 13], ?_⟩
  refine xZ (by kernel_rfl) (t_n ?_)
  refine QI rfl H [0, 1, 3, 4, 5] fun H => ?_
  have S := H.QN [0, 1, 3, 4, 5] [0, 1, 2, 3, 4, 5, 6, 7, 8, 9, 10, 11, 12, 13]
  refine rtp 0 (.slice (aa b47 0) t.qG.length rc8) S ?_
  refine rt 1 (pp b43 (0 + 0)) (xH b43 (0) 0 Tryz.underlying110 rfl rfl Tryz.sizeOf2 rfl) S ?_
  refine rt 2 (.int .i64 ((s.qf[((appls s t)[k]!).toNat]!).qw)) (xw Tryz.isAgg2 rfl (fun _ h => h.cell 0 rfl rfl)) S ?_
  refine rtp 3 (.slice (aa b47 0) t.qG.length rc8) S ?_
  refine rt 4 (pp b43 (0 + 0)) (xH b43 (0) 0 Tryz.underlying110 rfl rfl Tryz.sizeOf2 rfl) S ?_
  refine rt 5 (.int .i64 ((s.qf[((appls s t)[k]!).toNat]!).qw)) (xw Tryz.isAgg2 rfl (fun _ h => h.cell 0 rfl rfl)) S ?_
  refine rt 6 (pp b47 (0 + ((s.qf[((appls s t)[k]!).toNat]!).qw : Int).toNat * 1)) (xQ b47 (0) t.qG.length rc8 ((s.qf[((appls s t)[k]!).toNat]!).qw) Tryz.underlying27 ti22 rfl rfl (by omega) (by omega)) S ?_
  refine rt 8 (pp b43 (0 + 2)) (xH b43 (0) 2 Tryz.underlying110 rfl rfl Tryz.sizeOf22 rfl) S ?_
  refine rt 9 (.slice ae42Need (((s.qf[((appls s t)[k]!).toNat]!).qI).length) ce42Need) (xw Tryz.isAgg22 rfl (fun _ h => h.cell 0 rfl rfl)) S ?_
  refine rtp 10 (.slice (aa b6 0) s.qf.length s.qf.length) S ?_
  refine rtp 11 (.int .i64 ((appls s t)[k]!)) S ?_
  refine rt 12 (pp b6 (0 + ((appls s t)[k]! : Int).toNat * 1)) (xQ b6 (0) s.qf.length s.qf.length ((appls s t)[k]!) Tryz.underlying22 ti2 rfl rfl (by omega) (by omega)) S ?_
  refine rt 13 (.int .i64 (((firstTo s t m s.qf.length).set (((appls s t)[k]!).toNat) (jq ((s.qf[((appls s t)[k]!).toNat]!).qI) ((zk s t m)[((s.qf[((appls s t)[k]!).toNat]!).qw).toNat]!)))[((appls s t)[k]!).toNat]!)) (xw Tryz.isAgg2 rfl (fun _ h => h.rowInt 2 rfl (iv := (appls s t)[k]!) (i := (((appls s t)[k]!).toNat)) (by omega) (by omega))) S ?_
  refine rt 14 (.int .i64 (-(((firstTo s t m s.qf.length).set (((appls s t)[k]!).toNat) (jq ((s.qf[((appls s t)[k]!).toNat]!).qI) ((zk s t m)[((s.qf[((appls s t)[k]!).toNat]!).qw).toNat]!)))[((appls s t)[k]!).toNat]!))) (y_neg (((firstTo s t m s.qf.length).set (((appls s t)[k]!).toNat) (jq ((s.qf[((appls s t)[k]!).toNat]!).qI) ((zk s t m)[((s.qf[((appls s t)[k]!).toNat]!).qw).toNat]!)))[((appls s t)[k]!).toNat]!) rfl (by omega)) S ?_
  refine zt [7] (by kernel_rfl) (by simp) (yF rfl ?_ zu)
  obtain ⟨a58, c59, G60, s61, h62, H⟩ := H.Qb 2 rfl 8 rfl (iv := (s.qf[((appls s t)[k]!).toNat]!).qw) (((s.qf[((appls s t)[k]!).toNat]!).qw).toNat) (by omega) (by omega)
  refine qC (.slice a58 (((zk s t m)[((s.qf[((appls s t)[k]!).toNat]!).qw).toNat]!).length) c59) Tryz.isAgg22 rfl (h62) ?_
  refine ⟨H.pick [0, 1, 3, 4, 5] [1, 2, 3, 4, 5, 6, 7, 8, 9, 10, 11, 12, 13, 14], ?_⟩
  refine zt [15] (by kernel_rfl) (by simp) (yF rfl ?_ zu)
  obtain ⟨u1, u2, u5⟩ := firstR_row (c := (s.qf[((appls s t)[k]!).toNat]!).qw.toNat) p0 p1 (show m ≤ _ by omega) qk
  have u3 := bn1.len
  have u4 := bn1.jw (t := -(((firstTo s t m s.qf.length).set ((appls s t)[k]!).toNat (jq (s.qf[((appls s t)[k]!).toNat]!).qI ((zk s t m)[(s.qf[((appls s t)[k]!).toNat]!).qw.toNat]!)))[((appls s t)[k]!).toNat]!)) (by omega)
  have sz63 := H.base.size
  refine xm #[.slice a58 (((zk s t m)[((s.qf[((appls s t)[k]!).toNat]!).qw).toNat]!).length) c59, .slice ae42Need (((s.qf[((appls s t)[k]!).toNat]!).qI).length) ce42Need, .int .i64 (-(((firstTo s t m s.qf.length).set (((appls s t)[k]!).toNat) (jq ((s.qf[((appls s t)[k]!).toNat]!).qI) ((zk s t m)[((s.qf[((appls s t)[k]!).toNat]!).qw).toNat]!)))[((appls s t)[k]!).toNat]!))] rfl rfl Tryz.call100 (plus_ok w56.drew ((zk s t m)[((s.qf[((appls s t)[k]!).toNat]!).qw).toNat]!) ((s.qf[((appls s t)[k]!).toNat]!).qI) (-(((firstTo s t m s.qf.length).set (((appls s t)[k]!).toNat) (jq ((s.qf[((appls s t)[k]!).toNat]!).qI) ((zk s t m)[((s.qf[((appls s t)[k]!).toNat]!).qw).toNat]!)))[((appls s t)[k]!).toNat]!)) a58 c59 G60 ae42Need ce42Need Fe42Need (H.get 0 rfl).1 (H.get 2 rfl).1 (by first | assumption | omega) (by first | assumption | omega) (by first | assumption | omega)) ?_
  rintro v68 w66 r68 x67
  replace H := H.jh x67 r68
  obtain ⟨a69, c70, rfl, hc71, hm72⟩ := H.Xe 0 rfl
  refine ⟨H.pick [1, 2, 4, 5, 6] [1, 2, 3, 4, 5, 6, 7, 8, 9, 10, 11, 12, 13, 14], ?_⟩
  refine rt 16 (pp b47 (0 + ((s.qf[((appls s t)[k]!).toNat]!).qw : Int).toNat * 1)) (xQ b47 (0) t.qG.length rc8 ((s.qf[((appls s t)[k]!).toNat]!).qw) Tryz.underlying27 ti22 rfl rfl (by omega) (by omega)) (H.pick [1, 2, 4, 5, 6] [1, 2, 3, 4, 5, 6, 7, 8, 9, 10, 11, 12, 13, 14]) ?_
  refine zt [17] (by kernel_rfl) (by simp) (yF rfl ?_ zu)
  obtain ⟨G74, N, hn75, H⟩ := H.Xm 0 rfl N (H.awayN [])
  try dsimp only [List.set] at H
  refine yg false H 3 rfl 10 rfl (.slice a69 ((yc ((zk s t m)[((s.qf[((appls s t)[k]!).toNat]!).qw).toNat]!) ((s.qf[((appls s t)[k]!).toNat]!).qI) (-(((firstTo s t m s.qf.length).set (((appls s t)[k]!).toNat) (jq ((s.qf[((appls s t)[k]!).toNat]!).qI) ((zk s t m)[((s.qf[((appls s t)[k]!).toNat]!).qw).toNat]!)))[((appls s t)[k]!).toNat]!))).length) c70) 0 rfl rfl Tryz.sizeOf22 rfl rfl (i := (((s.qf[((appls s t)[k]!).toNat]!).qw).toNat)) (by omega) (by omega) (by simp) fun w73 xs76 F77 hs78 H => ?_
  try dsimp only [List.set] at H
  refine ⟨H.pick [1, 2, 4, 5, 6] [3, 4, 5, 6, 7, 8, 9, 10, 11, 12, 13, 14, 15, 16], ?_⟩
  refine xZ (by kernel_rfl) (b_n (t_n ?_))
  refine qp ?_
  refine sw (zD k 1 rfl rfl (by omega) ?_)
  refine sp (.int .i64 (k + 1)) ?_
  refine qo ?_
  refine xy (m' := (((appls s t).length) - ((k + 1) : Int)).toNat) (by omega) ⟨_, k + 1, ((zk s t m).set (((s.qf[((appls s t)[k]!).toNat]!).qw).toNat) (yc ((zk s t m)[((s.qf[((appls s t)[k]!).toNat]!).qw).toNat]!) ((s.qf[((appls s t)[k]!).toNat]!).qI) (-(((firstTo s t m s.qf.length).set (((appls s t)[k]!).toNat) (jq ((s.qf[((appls s t)[k]!).toNat]!).qI) ((zk s t m)[((s.qf[((appls s t)[k]!).toNat]!).qw).toNat]!)))[((appls s t)[k]!).toNat]!)))), xs76, F77, ((firstTo s t m s.qf.length).set (((appls s t)[k]!).toNat) (jq ((s.qf[((appls s t)[k]!).toNat]!).qI) ((zk s t m)[((s.qf[((appls s t)[k]!).toNat]!).qw).toNat]!))), ((appls s t)[k]!).toNat + 1, (by exact qj (qj (qj (qj (qj (qj (rfl) rfl) rfl) rfl) rfl) rfl) rfl), ?_, ?_, ?_, ?_, ?_, rfl, (N.pick []), H.pick [2, 3, 4, 5, 6] [0, 12, 13, 14, 15, 16]⟩
  · exact firstR_step a1 a2 a3 a4 ex
  · exact firstTo_set a1 a2 a4 (firstC_step a1 a3 a4)
  · omega
  · exact a5
  · exact a2
 replace h37 := of_decide_eq_false h37
 refine zx (t_x (t_x (b_x (t_n (qh (qp ?_))))))
 refine sps [.slice (aa b6 0) s.qf.length s.qf.length, .slice (aa b6 0) s.qf.length s.qf.length] ?_
 refine qo (t_n (xh ?_))
 refine ret1 (.slice (aa b6 0) s.qf.length s.qf.length) rfl rfl ⟨_, rfl, ?_, H.base⟩
 rw [firstTo_end hn (appls_end hm hn (by omega))] at H
 exact ⟨(aa b6 0), s.qf.length, s.qf.length, rfl, N, H.pick [2] []⟩

end Go.Proofs.YtkmlihdacnfhdaaGreat
