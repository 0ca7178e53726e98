/- Walks, printed by program (wip/tools/gv.py): what each function comes to, for all arguments. -/
import Derived.Test.YtkmlihdacnfhdaaG13
namespace Go.Proofs.Ytkmlihdacnfhdaa
open Go.Proofs.Ytkmlihdacnfhdaa.Tot (tot)
open Go.Proofs.Ytkmlihdacnfhdaa.Mark (cnt mrk mkd mkd_mark cnt_mark)
open Go.RowKit
set_option linter.unusedVariables false
set_option linter.unusedSimpArgs false
set_option maxRecDepth 100000
set_option maxHeartbeats 4000000



theorem firstChoice_ok (w : World) (s : qV) (t : qQ) (qw : Option Addr) (qm : Nat) (qM : List Nat) (qG : Option Addr) (qC : Nat) (xu : List Nat) (qP : Option Addr) (qJ : Nat) (xJ : List Nat) (xG : Option Addr) (xA : Nat) (zF : List Nat) (qL : Option Addr) (qK : Nat) (xI : List Nat) (xx : qW.rep w qM [.slice qw s.qf.length qm] s.qf) (xN : qW.rep w xu [.slice qG s.qg.length qC] s.qg) (zA : qW.rep w xJ [.slice qP t.qh.length qJ] t.qh) (vC : qW.rep w zF [.slice xG t.qp.length xA] t.qp) (xZ : qW.rep w xI [.slice qL t.ql.length qK] t.ql) (p0 : yP s) (p1 : zJ s t) : Calls Try.prog 63 #[.agg #[.int .i64 s.qI, .slice qw s.qf.length qm, .slice qG s.qg.length qC], .agg #[.slice qP t.qh.length qJ, .slice xG t.qp.length xA, .slice qL t.ql.length qK]] w (Ret (fun v w' => ∃ (ra : Option Addr) (rn : Nat) (rc : Nat), v = .slice ra rn rc ∧ Fresh w.heap.size [] ∧ St w w' [.row (.slice ra rn rc) 2 1 rn ((xY s t).map (Value.int .i64))] []) w) := by
 refine enter (n := 60) Try.func63 rfl Try.ntmps63 (Nat.le_of_ble_eq_true rfl) ?_
 have H := (((((St.start w).arg xZ).arg vC).arg zA).arg xN).arg xx
 have vW := qN xx
 have yh := qN xN
 have QU := qN zA
 have XA := qN vC
 have Qa := qN xZ
 clear xx xN zA vC xZ
 have N := Fresh.nil w.heap.size
 have p3 := p0.2.1
 have p7 := p1.2.1
 have p8 := kinds_le p0
 have p9 := p0.1.2.1
 have p11 : jg s = s.qf.length := rfl
 refine qo (qB ?_)
 refine sw (y9 H [.int .i64 s.qI, .slice qw s.qf.length qm, .slice qG s.qg.length qC] fun b1 w2 H => ?_)
 refine sw (y9 H [.slice qP t.qh.length qJ, .slice xG t.qp.length xA, .slice qL t.ql.length qK] fun b3 w4 H => ?_)
 refine sp (.slice none 0 0) ?_
 refine qA (t_n (qo ?_))
 refine c_cut (fun ρ w5 => ∃ (junk : Env) (b6 : Nat) (ra7 : Option Addr) (rc8 : Nat) (rx9 : List Value) (rF10 : List Nat), ρ = upd (upd (upd (upd junk 2 (pp b1 0)) 3 (pp b3 0)) 5 (.slice (aa b6 0) s.qg.length s.qg.length)) 6 (.slice ra7 t.qp.length rc8) ∧ Fresh w.heap.size [] ∧ St w w5 [.row (.slice ra7 t.qp.length rc8) 22 1 t.qp.length rx9, .row (.slice (aa b6 0) s.qg.length s.qg.length) 2 1 s.qg.length ((List.replicate s.qg.length (0 : Int)).map (Value.int .i64)), .box b3 [.slice qP t.qh.length qJ, .slice xG t.qp.length xA, .slice qL t.ql.length qK] 41, .box b1 [.int .i64 s.qI, .slice qw s.qf.length qm, .slice qG s.qg.length qC] 30] [jl false rF10 rx9 t.qp, isF false qM (.slice qw s.qf.length qm) s.qf, isF false xu (.slice qG s.qg.length qC) s.qg, isF false xJ (.slice qP t.qh.length qJ) t.qh, isF false zF (.slice xG t.qp.length xA) t.qp, isF false xI (.slice qL t.ql.length qK) t.ql]) ?_ ?_
 ·skip
  refine yg rfl H fun H => ?_
  refine rt 0 (pp b1 (0 + 2)) (xF b1 (0) 2 Try.underlying30 rfl rfl Try.sizeOf28 rfl) H ?_
  refine rt 1 (.slice qG s.qg.length qC) (xm Try.isAgg28 rfl (fun _ h => h.cell 1 rfl rfl)) H ?_
  refine rt 2 (.int .i64 s.qg.length) (y_len Try.underlying28 qG s.qg.length qC rfl) H ?_
  refine rt 4 (pp b3 (0 + 1)) (xF b3 (0) 1 Try.underlying41 rfl rfl Try.sizeOf37 rfl) H ?_
  refine rt 5 (.slice xG t.qp.length xA) (xm Try.isAgg37 rfl (fun _ h => h.cell 0 rfl rfl)) H ?_
  refine xn [3, 6] (by kernel_rfl) (by simp) (zg rfl ?_ (zg rfl ?_ xq))
  ·skip
   refine o_makeI H Try.underlying22 ti2 s.qg.length rfl rfl (by omega) (by omega) (by omega) fun b12 w13 H => ?_
   refine ⟨H.pick [1, 2] [0, 1, 2, 3, 4], ?_⟩
   refine xn [6] (by kernel_rfl) (by simp) (zg rfl ?_ xq)
   have sz17 := H.base.size
   refine xf #[.slice xG t.qp.length xA] rfl rfl Try.call92 (cloneSS_ok w13 t.qp xG xA zF (H.get 3 rfl).1 (by first | assumption | omega)) ?_
   rintro _ w15 ⟨ra14, rn14, rc14, rx14, rF14, rfl, hG19, K⟩ _
   replace H := H.mergeIn K 3 rfl hG19
   dsimp only [List.cons_append, List.nil_append] at H
   obtain rfl := H.zx (α := List Int) 0 rfl 0 rfl (by decide)
   refine ⟨H.pick [2, 3] [1, 2, 3, 4, 5], ?_⟩
   have S := H.jP [2, 3] [1, 2, 3, 4, 5]
   refine rtp 7 (.slice (aa b12 0) s.qg.length s.qg.length) S ?_
   refine rtp 8 (.slice ra14 t.qp.length rc14) S ?_
   refine xM (by kernel_rfl) (?_)
   exact meet ⟨_, b12, ra14, rc14, rx14, rF14, (by exact qj (qj (qj (qj (rfl) rfl) rfl) rfl) rfl), N, H⟩
  have sz23 := H.base.size
  refine xf #[.slice xG t.qp.length xA] rfl rfl Try.call92 (cloneSS_ok w4.drew t.qp xG xA zF (H.get 3 rfl).1 (by first | assumption | omega)) ?_
  rintro _ w21 ⟨ra20, rn20, rc20, rx20, rF20, rfl, hG25, K⟩ _
  replace H := H.mergeIn K 3 rfl hG25
  dsimp only [List.cons_append, List.nil_append] at H
  obtain rfl := H.zx (α := List Int) 0 rfl 0 rfl (by decide)
  refine ⟨H.pick [1, 2] [1, 2, 3, 4, 5], ?_⟩
  refine xn [3] (by kernel_rfl) (by simp) (zg rfl ?_ xq)
  refine o_makeI H Try.underlying22 ti2 s.qg.length rfl rfl (by omega) (by omega) (by omega) fun b26 w27 H => ?_
  refine ⟨H.pick [2, 3] [1, 2, 3, 4, 5], ?_⟩
  have S := H.jP [2, 3] [1, 2, 3, 4, 5]
  refine rtp 7 (.slice (aa b26 0) s.qg.length s.qg.length) S ?_
  refine rtp 8 (.slice ra20 t.qp.length rc20) S ?_
  refine xM (by kernel_rfl) (?_)
  exact meet ⟨_, b26, ra20, rc20, rx20, rF20, (by exact qj (qj (qj (qj (rfl) rfl) rfl) rfl) rfl), N, H.pick [1, 0, 2, 3] [0, 1, 2, 3, 4, 5]⟩
 clear H N
 rintro ρ w28 ⟨junk, b6, ra7, rc8, rx9, rF10, rfl, N, H⟩
 refine t_n (qo (qo (qB ?_)))
 refine sw (zu [.int .i64 s.qI, .slice qw s.qf.length qm, .slice qG s.qg.length qC] Try.isAgg30 Try.sizeOf30 rfl (qH (H.cells 3 rfl) 0 3) ?_)
 refine sw (zu [.slice qP t.qh.length qJ, .slice xG t.qp.length xA, .slice qL t.ql.length qK] Try.isAgg41 Try.sizeOf41 rfl (qH (H.cells 2 rfl) 0 3) ?_)
 have sz32 := H.base.size
 refine sw (xf #[.agg #[.int .i64 s.qI, .slice qw s.qf.length qm, .slice qG s.qg.length qC], .agg #[.slice qP t.qh.length qJ, .slice xG t.qp.length xA, .slice qL t.ql.length qK]] rfl rfl Try.call61 (applicable_ok w28 s t qw qm qM qG qC xu qP qJ xJ xG xA zF qL qK xI (H.get 1 rfl).1 (H.get 2 rfl).1 (H.get 3 rfl).1 (H.get 4 rfl).1 (H.get 5 rfl).1 (by first | assumption | omega) (by first | assumption | omega)) ?_)
 rintro _ w30 ⟨ra29, rn29, rc29, rfl, M, K⟩ _
 replace H := H.merge K M
 dsimp only [List.cons_append, List.nil_append] at H
 obtain rfl := H.QD 0 rfl
 have al : (appls s t).length ≤ s.qg.length := applL_le s t s.qg.length
 refine sw (vI Try.underlying22 ra29 ((appls s t).length) rc29 rfl ?_)
 refine sp (.int .i64 0) ?_
 refine qA (t_n (xC ?_))
 refine vw (fun m' ρ w35 => ∃ (junk : Env) (k : Nat) (rest : List (List Int)) (Vg : List Value) (Xx : List Nat) (out : List Int) (m : Nat), ρ = upd (upd (upd (upd (upd (upd junk 2 (pp b1 0)) 5 (.slice (aa b6 0) s.qg.length s.qg.length)) 6 (.slice ra7 t.qp.length rc8)) 19 (.slice ra29 ((appls s t).length) rc29)) 20 (.int .i64 ((appls s t).length))) 21 (.int .i64 k) ∧ rest = zX s t m ∧ out = firstTo s t m s.qg.length ∧ ((k : Int) ≤ ((appls s t).length)) ∧ ((applL s t m).length = k) ∧ (m ≤ s.qg.length) ∧ m' = (((appls s t).length) - (k : Int)).toNat ∧ Fresh w.heap.size [] ∧ St w w35 [.row (.slice ra29 ((appls s t).length) rc29) 2 1 ((appls s t).length) ((appls s t).map (Value.int .i64)), .row (.slice ra7 t.qp.length rc8) 22 1 t.qp.length Vg, .row (.slice (aa b6 0) s.qg.length s.qg.length) 2 1 s.qg.length (out.map (Value.int .i64)), .box b3 [.slice qP t.qh.length qJ, .slice xG t.qp.length xA, .slice qL t.ql.length qK] 41, .box b1 [.int .i64 s.qI, .slice qw s.qf.length qm, .slice qG s.qg.length qC] 30] [jl false Xx Vg rest, isF false qM (.slice qw s.qf.length qm) s.qf, isF false xu (.slice qG s.qg.length qC) s.qg, isF false xJ (.slice qP t.qh.length qJ) t.qh, isF false zF (.slice xG t.qp.length xA) t.qp, isF false xI (.slice qL t.ql.length qK) t.ql]) ((((appls s t).length) - (0 : Int)).toNat) ⟨_, 0, t.qp, rx9, rF10, (List.replicate s.qg.length (0 : Int)), 0, (by exact qj (qj (qj (qj (qj (qj (rfl) rfl) rfl) rfl) rfl) rfl) rfl), (by rfl), (by exact firstTo_zero s t _), (by omega), (by rfl), (by omega), rfl, N, H⟩ ?_
 clear H N
 rintro m' ρ w36 ⟨junk, k, rest, Vg, Xx, out, m, rfl, rfl, rfl, i0, hm, hn, rfl, N, H⟩
 have hn_rest := H.zx (α := List Int) 1 rfl 0 rfl (by decide)
 have hn_out := H.QD 2 rfl
 refine qo (qB ?_)
 refine sp (.bool (decide ((k : Int) < ((appls s t).length)))) ?_
 refine qA (t_n (qo ?_))
 refine qX (decide ((k : Int) < ((appls s t).length))) rfl (fun h37 => ?_) (fun h37 => ?_)
 ·skip
  replace h37 := of_decide_eq_true h37
  obtain ⟨a0, a1, a2, a3, a4, a5⟩ := appls_at' hm hn (by omega)
  have q := p0.rule (i := ((appls s t)[k]!).toNat) (by omega)
  have qc := q.1
  have qk := q.cell
  have qr := q.2.1
  have bn1 := q.2.2.2.2.1
  have rl := (firstR_box p0 p1 m (by omega)).1
  have fl := jA s t m s.qg.length
  have ex : ((firstTo s t m s.qg.length).set ((appls s t)[k]!).toNat (yR (s.qg[((appls s t)[k]!).toNat]!).qR ((zX s t m)[(s.qg[((appls s t)[k]!).toNat]!).qy.toNat]!)))[((appls s t)[k]!).toNat]! = (yR (s.qg[((appls s t)[k]!).toNat]!).qR ((zX s t m)[(s.qg[((appls s t)[k]!).toNat]!).qy.toNat]!)) := by rw [getset (by rw [jA]; omega), if_pos rfl]
  have xb := firstC_bd p0 p1 (k := ((appls s t)[k]!).toNat) a2
  rw [← firstC_step a1 a3 a4] at xb
  refine xy (t_n (qo (xC (qo (qB ?_)))))
  obtain ⟨b38, rfl⟩ := H.XI 0 rfl (by omega)
  refine sw (xO k Try.underlying22 ti2 rfl rfl (by omega) (by omega) ?_)
  refine sw (qF (.int .i64 ((appls s t)[k]!)) Try.isAgg2 rfl (H.rowInt 0 rfl (iv := k) (i := k) (by omega) (by omega)) ?_)
  refine sp (.int .i64 ((appls s t)[k]!)) ?_
  refine qA (t_n (qo (qB ?_)))
  refine sw (qO b1 (0) 2 Try.underlying30 rfl rfl Try.sizeOf28 rfl ?_)
  refine sw (qF (.slice qG s.qg.length qC) Try.isAgg28 rfl (H.cell 4 rfl rfl) ?_)
  refine sp (.int .i64 ((appls s t)[k]!)) ?_
  obtain ⟨b39, o40, rfl⟩ := H.addr 2 rfl (by omega)
  obtain ⟨ae42Need, ce42Need, Fe42Need, ae42Have, ce42Have, Fe42Have, ae42Lack, ce42Lack, Fe42Lack, ae42Here, ce42Here, Fe42Here, ae42Out, ce42Out, Fe42Out, ae42Into, ce42Into, Fe42Into, H⟩ := H.yD 2 rfl ((appls s t)[k]!) (((appls s t)[k]!).toNat) (by omega) (by omega) (by omega)
  refine sw (xO ((appls s t)[k]!) Try.underlying28 ti92 rfl rfl (by omega) (by omega) ?_)
  refine sw (zu [.int .i64 ((s.qg[((appls s t)[k]!).toNat]!).qy), .int .i64 ((s.qg[((appls s t)[k]!).toNat]!).zk), .slice ae42Need (((s.qg[((appls s t)[k]!).toNat]!).qR).length) ce42Need, .slice ae42Have (((s.qg[((appls s t)[k]!).toNat]!).xg).length) ce42Have, .slice ae42Lack (((s.qg[((appls s t)[k]!).toNat]!).xk).length) ce42Lack, .slice ae42Here (((s.qg[((appls s t)[k]!).toNat]!).xw).length) ce42Here, .slice ae42Out (((s.qg[((appls s t)[k]!).toNat]!).zo).length) ce42Out, .slice ae42Into (((s.qg[((appls s t)[k]!).toNat]!).qE).length) ce42Into, .bool ((s.qg[((appls s t)[k]!).toNat]!).xQ)] Try.isAgg92 Try.sizeOf92 rfl (qH (H.get 6 rfl) 0 9) ?_)
  refine sw (zy H ti92 [.int .i64 0, .int .i64 0, .slice none 0 0, .slice none 0 0, .slice none 0 0, .slice none 0 0, .slice none 0 0, .slice none 0 0, .bool false] fun b43 w44 H => ?_)
  refine sw (xR H 0 [.int .i64 ((s.qg[((appls s t)[k]!).toNat]!).qy), .int .i64 ((s.qg[((appls s t)[k]!).toNat]!).zk), .slice ae42Need (((s.qg[((appls s t)[k]!).toNat]!).qR).length) ce42Need, .slice ae42Have (((s.qg[((appls s t)[k]!).toNat]!).xg).length) ce42Have, .slice ae42Lack (((s.qg[((appls s t)[k]!).toNat]!).xk).length) ce42Lack, .slice ae42Here (((s.qg[((appls s t)[k]!).toNat]!).xw).length) ce42Here, .slice ae42Out (((s.qg[((appls s t)[k]!).toNat]!).zo).length) ce42Out, .slice ae42Into (((s.qg[((appls s t)[k]!).toNat]!).qE).length) ce42Into, .bool ((s.qg[((appls s t)[k]!).toNat]!).xQ)] Try.sizeOf92 fun w45 H => ?_)
  try dsimp only [List.set] at H
  refine qA (t_n (qo ?_))
  refine yT rfl H [0, 1, 2, 4, 5] fun H => ?_
  have S := H.jP [0, 1, 2, 4, 5] [0, 1, 2, 3, 4, 5, 6, 7, 8, 9, 10, 11, 12]
  refine rtp 0 (.slice (aa b6 0) s.qg.length s.qg.length) S ?_
  refine rtp 1 (.int .i64 ((appls s t)[k]!)) S ?_
  refine rt 2 (pp b43 (0 + 2)) (xF b43 (0) 2 Try.underlying92 rfl rfl Try.sizeOf22 rfl) S ?_
  refine rt 3 (.slice ae42Need (((s.qg[((appls s t)[k]!).toNat]!).qR).length) ce42Need) (xm Try.isAgg22 rfl (fun _ h => h.cell 0 rfl rfl)) S ?_
  refine rtp 4 (.slice ra7 t.qp.length rc8) S ?_
  refine rt 5 (pp b43 (0 + 0)) (xF b43 (0) 0 Try.underlying92 rfl rfl Try.sizeOf2 rfl) S ?_
  refine rt 6 (.int .i64 ((s.qg[((appls s t)[k]!).toNat]!).qy)) (xm Try.isAgg2 rfl (fun _ h => h.cell 0 rfl rfl)) S ?_
  obtain ⟨b47, rfl⟩ := H.XI 2 rfl (by omega)
  refine rt 7 (pp b47 (0 + ((s.qg[((appls s t)[k]!).toNat]!).qy : Int).toNat * 1)) (xK b47 (0) t.qp.length rc8 ((s.qg[((appls s t)[k]!).toNat]!).qy) Try.underlying37 ti22 rfl rfl (by omega) (by omega)) (H.pick [0, 1, 2, 4, 5] [0, 1, 2, 3, 4, 5, 6, 7, 8, 9, 10, 11, 12]) ?_
  refine xn [8] (by kernel_rfl) (by simp) (zg rfl ?_ xq)
  obtain ⟨a48, c49, G50, s51, h52, H⟩ := H.jD 2 rfl 7 rfl (iv := (s.qg[((appls s t)[k]!).toNat]!).qy) (((s.qg[((appls s t)[k]!).toNat]!).qy).toNat) (by omega) (by omega)
  refine qF (.slice a48 (((zX s t m)[((s.qg[((appls s t)[k]!).toNat]!).qy).toNat]!).length) c49) Try.isAgg22 rfl (h52) ?_
  refine ⟨H.pick [0, 1, 2, 4, 5] [1, 2, 3, 4, 5, 6, 7, 8, 9, 10, 11, 12, 13], ?_⟩
  refine xn [9] (by kernel_rfl) (by simp) (zg rfl ?_ xq)
  obtain ⟨u1, u2, u5⟩ := firstR_row (c := (s.qg[((appls s t)[k]!).toNat]!).qy.toNat) p0 p1 (show m ≤ _ by omega) qk
  have u3 := bn1.len
  have u6 : ∀ q, q < ((s.qg[((appls s t)[k]!).toNat]!).qR).length → 0 ≤ ((zX s t m)[(s.qg[((appls s t)[k]!).toNat]!).qy.toNat]!)[q]! ∧ ((zX s t m)[(s.qg[((appls s t)[k]!).toNat]!).qy.toNat]!)[q]! ≤ 1000 := fun q hq => u5 q (by omega)
  refine xf #[.slice ae42Need (((s.qg[((appls s t)[k]!).toNat]!).qR).length) ce42Need, .slice a48 (((zX s t m)[((s.qg[((appls s t)[k]!).toNat]!).qy).toNat]!).length) c49] rfl rfl Try.call95 (timesIn_ok w45.drew ((s.qg[((appls s t)[k]!).toNat]!).qR) ((zX s t m)[((s.qg[((appls s t)[k]!).toNat]!).qy).toNat]!) ae42Need ce42Need Fe42Need a48 c49 G50 (H.get 1 rfl).1 (H.get 0 rfl).1 (by first | assumption | omega) (by first | assumption | omega)) ?_
  rintro _ w54 rfl x55
  replace H := H.ext x55
  refine ⟨H.pick [0, 1, 2, 4, 5] [1, 2, 3, 4, 5, 6, 7, 8, 9, 10, 11, 12, 13], ?_⟩
  refine rt 10 (pp b6 (0 + ((appls s t)[k]! : Int).toNat * 1)) (xK b6 (0) s.qg.length s.qg.length ((appls s t)[k]!) Try.underlying22 ti2 rfl rfl (by omega) (by omega)) (H.pick [0, 1, 2, 4, 5] [1, 2, 3, 4, 5, 6, 7, 8, 9, 10, 11, 12, 13]) ?_
  refine xn [11] (by kernel_rfl) (by simp) (zg rfl ?_ xq)
  refine o_storeInt H 3 rfl (yR ((s.qg[((appls s t)[k]!).toNat]!).qR) ((zX s t m)[((s.qg[((appls s t)[k]!).toNat]!).qy).toNat]!)) Try.sizeOf2 rfl rfl (i := (((appls s t)[k]!).toNat)) (by omega) (by omega) fun w56 H => ?_
  try dsimp only [List.set] at H
  refine ⟨H.pick [0, 1, 2, 4, 5] [1, 2, 3, 4, 5, 6, 7, 8, 9, 10, 11, 12, 13], ?_⟩
  refine xM (by kernel_rfl) (t_n ?_)
  refine yT rfl H [0, 1, 3, 4, 5] fun H => ?_
  have S := H.jP [0, 1, 3, 4, 5] [0, 1, 2, 3, 4, 5, 6, 7, 8, 9, 10, 11, 12, 13]
  refine rtp 0 (.slice (aa b47 0) t.qp.length rc8) S ?_
  refine rt 1 (pp b43 (0 + 0)) (xF b43 (0) 0 Try.underlying92 rfl rfl Try.sizeOf2 rfl) S ?_
  refine rt 2 (.int .i64 ((s.qg[((appls s t)[k]!).toNat]!).qy)) (xm Try.isAgg2 rfl (fun _ h => h.cell 0 rfl rfl)) S ?_
  refine rtp 3 (.slice (aa b47 0) t.qp.length rc8) S ?_
  refine rt 4 (pp b43 (0 + 0)) (xF b43 (0) 0 Try.underlying92 rfl rfl Try.sizeOf2 rfl) S ?_
  refine rt 5 (.int .i64 ((s.qg[((appls s t)[k]!).toNat]!).qy)) (xm Try.isAgg2 rfl (fun _ h => h.cell 0 rfl rfl)) S ?_
  refine rt 6 (pp b47 (0 + ((s.qg[((appls s t)[k]!).toNat]!).qy : Int).toNat * 1)) (xK b47 (0) t.qp.length rc8 ((s.qg[((appls s t)[k]!).toNat]!).qy) Try.underlying37 ti22 rfl rfl (by omega) (by omega)) S ?_
  refine rt 8 (pp b43 (0 + 2)) (xF b43 (0) 2 Try.underlying92 rfl rfl Try.sizeOf22 rfl) S ?_
  refine rt 9 (.slice ae42Need (((s.qg[((appls s t)[k]!).toNat]!).qR).length) ce42Need) (xm Try.isAgg22 rfl (fun _ h => h.cell 0 rfl rfl)) S ?_
  refine rtp 10 (.slice (aa b6 0) s.qg.length s.qg.length) S ?_
  refine rtp 11 (.int .i64 ((appls s t)[k]!)) S ?_
  refine rt 12 (pp b6 (0 + ((appls s t)[k]! : Int).toNat * 1)) (xK b6 (0) s.qg.length s.qg.length ((appls s t)[k]!) Try.underlying22 ti2 rfl rfl (by omega) (by omega)) S ?_
  refine rt 13 (.int .i64 (((firstTo s t m s.qg.length).set (((appls s t)[k]!).toNat) (yR ((s.qg[((appls s t)[k]!).toNat]!).qR) ((zX s t m)[((s.qg[((appls s t)[k]!).toNat]!).qy).toNat]!)))[((appls s t)[k]!).toNat]!)) (xm Try.isAgg2 rfl (fun _ h => h.rowInt 2 rfl (iv := (appls s t)[k]!) (i := (((appls s t)[k]!).toNat)) (by omega) (by omega))) S ?_
  refine rt 14 (.int .i64 (-(((firstTo s t m s.qg.length).set (((appls s t)[k]!).toNat) (yR ((s.qg[((appls s t)[k]!).toNat]!).qR) ((zX s t m)[((s.qg[((appls s t)[k]!).toNat]!).qy).toNat]!)))[((appls s t)[k]!).toNat]!))) (y_neg (((firstTo s t m s.qg.length).set (((appls s t)[k]!).toNat) (yR ((s.qg[((appls s t)[k]!).toNat]!).qR) ((zX s t m)[((s.qg[((appls s t)[k]!).toNat]!).qy).toNat]!)))[((appls s t)[k]!).toNat]!) rfl (by omega)) S ?_
  refine xn [7] (by kernel_rfl) (by simp) (zg rfl ?_ xq)
  obtain ⟨a58, c59, G60, s61, h62, H⟩ := H.jD 2 rfl 8 rfl (iv := (s.qg[((appls s t)[k]!).toNat]!).qy) (((s.qg[((appls s t)[k]!).toNat]!).qy).toNat) (by omega) (by omega)
  refine qF (.slice a58 (((zX s t m)[((s.qg[((appls s t)[k]!).toNat]!).qy).toNat]!).length) c59) Try.isAgg22 rfl (h62) ?_
  refine ⟨H.pick [0, 1, 3, 4, 5] [1, 2, 3, 4, 5, 6, 7, 8, 9, 10, 11, 12, 13, 14], ?_⟩
  refine xn [15] (by kernel_rfl) (by simp) (zg rfl ?_ xq)
  obtain ⟨u1, u2, u5⟩ := firstR_row (c := (s.qg[((appls s t)[k]!).toNat]!).qy.toNat) p0 p1 (show m ≤ _ by omega) qk
  have u3 := bn1.len
  have u4 := bn1.yz (t := -(((firstTo s t m s.qg.length).set ((appls s t)[k]!).toNat (yR (s.qg[((appls s t)[k]!).toNat]!).qR ((zX s t m)[(s.qg[((appls s t)[k]!).toNat]!).qy.toNat]!)))[((appls s t)[k]!).toNat]!)) (by omega)
  have sz63 := H.base.size
  refine xf #[.slice a58 (((zX s t m)[((s.qg[((appls s t)[k]!).toNat]!).qy).toNat]!).length) c59, .slice ae42Need (((s.qg[((appls s t)[k]!).toNat]!).qR).length) ce42Need, .int .i64 (-(((firstTo s t m s.qg.length).set (((appls s t)[k]!).toNat) (yR ((s.qg[((appls s t)[k]!).toNat]!).qR) ((zX s t m)[((s.qg[((appls s t)[k]!).toNat]!).qy).toNat]!)))[((appls s t)[k]!).toNat]!))] rfl rfl Try.call84 (plus_ok w56.drew ((zX s t m)[((s.qg[((appls s t)[k]!).toNat]!).qy).toNat]!) ((s.qg[((appls s t)[k]!).toNat]!).qR) (-(((firstTo s t m s.qg.length).set (((appls s t)[k]!).toNat) (yR ((s.qg[((appls s t)[k]!).toNat]!).qR) ((zX s t m)[((s.qg[((appls s t)[k]!).toNat]!).qy).toNat]!)))[((appls s t)[k]!).toNat]!)) a58 c59 G60 ae42Need ce42Need Fe42Need (H.get 0 rfl).1 (H.get 2 rfl).1 (by first | assumption | omega) (by first | assumption | omega) (by first | assumption | omega)) ?_
  rintro v68 w66 r68 x67
  replace H := H.zI x67 r68
  obtain ⟨a69, c70, rfl, hc71, hm72⟩ := H.jW 0 rfl
  refine ⟨H.pick [1, 2, 4, 5, 6] [1, 2, 3, 4, 5, 6, 7, 8, 9, 10, 11, 12, 13, 14], ?_⟩
  refine rt 16 (pp b47 (0 + ((s.qg[((appls s t)[k]!).toNat]!).qy : Int).toNat * 1)) (xK b47 (0) t.qp.length rc8 ((s.qg[((appls s t)[k]!).toNat]!).qy) Try.underlying37 ti22 rfl rfl (by omega) (by omega)) (H.pick [1, 2, 4, 5, 6] [1, 2, 3, 4, 5, 6, 7, 8, 9, 10, 11, 12, 13, 14]) ?_
  refine xn [17] (by kernel_rfl) (by simp) (zg rfl ?_ xq)
  obtain ⟨G74, N, hn75, H⟩ := H.yN 0 rfl N (H.Vb [])
  try dsimp only [List.set] at H
  refine jw false H 3 rfl 10 rfl (.slice a69 ((yj ((zX s t m)[((s.qg[((appls s t)[k]!).toNat]!).qy).toNat]!) ((s.qg[((appls s t)[k]!).toNat]!).qR) (-(((firstTo s t m s.qg.length).set (((appls s t)[k]!).toNat) (yR ((s.qg[((appls s t)[k]!).toNat]!).qR) ((zX s t m)[((s.qg[((appls s t)[k]!).toNat]!).qy).toNat]!)))[((appls s t)[k]!).toNat]!))).length) c70) 0 rfl rfl Try.sizeOf22 rfl rfl (i := (((s.qg[((appls s t)[k]!).toNat]!).qy).toNat)) (by omega) (by omega) (by simp) fun w73 xs76 F77 hs78 H => ?_
  try dsimp only [List.set] at H
  refine ⟨H.pick [1, 2, 4, 5, 6] [3, 4, 5, 6, 7, 8, 9, 10, 11, 12, 13, 14, 15, 16], ?_⟩
  refine xM (by kernel_rfl) (b_n (t_n ?_))
  refine qB ?_
  refine sw (vz k 1 rfl rfl (by omega) ?_)
  refine sp (.int .i64 (k + 1)) ?_
  refine qA ?_
  refine xH (m' := (((appls s t).length) - ((k + 1) : Int)).toNat) (by omega) ⟨_, k + 1, ((zX s t m).set (((s.qg[((appls s t)[k]!).toNat]!).qy).toNat) (yj ((zX s t m)[((s.qg[((appls s t)[k]!).toNat]!).qy).toNat]!) ((s.qg[((appls s t)[k]!).toNat]!).qR) (-(((firstTo s t m s.qg.length).set (((appls s t)[k]!).toNat) (yR ((s.qg[((appls s t)[k]!).toNat]!).qR) ((zX s t m)[((s.qg[((appls s t)[k]!).toNat]!).qy).toNat]!)))[((appls s t)[k]!).toNat]!)))), xs76, F77, ((firstTo s t m s.qg.length).set (((appls s t)[k]!).toNat) (yR ((s.qg[((appls s t)[k]!).toNat]!).qR) ((zX s t m)[((s.qg[((appls s t)[k]!).toNat]!).qy).toNat]!))), ((appls s t)[k]!).toNat + 1, (by exact qj (qj (qj (qj (qj (qj (rfl) rfl) rfl) rfl) rfl) rfl) rfl), ?_, ?_, ?_, ?_, ?_, rfl, (N.pick []), H.pick [2, 3, 4, 5, 6] [0, 12, 13, 14, 15, 16]⟩
  · exact firstR_step a1 a2 a3 a4 ex
  · exact firstTo_set a1 a2 a4 (firstC_step a1 a3 a4)
  · omega
  · exact a5
  · exact a2
 replace h37 := of_decide_eq_false h37
 refine ve (t_x (t_x (b_x (t_n (qo (qB ?_))))))
 refine sps [.slice (aa b6 0) s.qg.length s.qg.length, .slice (aa b6 0) s.qg.length s.qg.length] ?_
 refine qA (t_n (xE ?_))
 refine ret1 (.slice (aa b6 0) s.qg.length s.qg.length) rfl rfl ⟨_, rfl, ?_, H.base⟩
 rw [firstTo_end hn (appls_end hm hn (by omega))] at H
 exact ⟨(aa b6 0), s.qg.length, s.qg.length, rfl, N, H.pick [2] []⟩

end Go.Proofs.Ytkmlihdacnfhdaa
