/- Walks, printed by program (wip/tools/gv.py): what each function comes to, for all arguments. -/
import Derived.Test.YtkmlihdacnfhdaaGreatG9
namespace Go.Proofs.YtkmlihdacnfhdaaGreat
open Go.Proofs.YtkmlihdacnfhdaaGreat.Tot (tot)
open Go.Proofs.YtkmlihdacnfhdaaGreat.Mark (cnt mrk mkd mkd_mark cnt_mark)
open Go.RowKit
set_option linter.unusedVariables false
set_option linter.unusedSimpArgs false
set_option maxRecDepth 100000
set_option maxHeartbeats 4000000



theorem l03First_ok (w : World) (s : qR) (t : xF) (bs os : Nat) (qm : Option Addr) (ql : Nat) (qL : List Nat) (qE : Option Addr) (qA : Nat) (xk : List Nat) (bt ot : Nat) (xu : Option Addr) (qZ : Nat) (xY : List Nat) (xB : Option Addr) (xx : Nat) (zG : List Nat) (qV : Option Addr) (qU : Nat) (xJ : List Nat) (hs : vg w bs os [.int .i64 s.qF, .slice qm s.qg.length ql, .slice qE s.qf.length qA]) (qY : qM.rep w qL [.slice qm s.qg.length ql] s.qg) (xA : qM.rep w xk [.slice qE s.qf.length qA] s.qf) (ht : vg w bt ot [.slice xu t.qy.length qZ, .slice xB t.qG.length xx, .slice qV t.qB.length qU]) (zo : qM.rep w xY [.slice xu t.qy.length qZ] t.qy) (zT : qM.rep w zG [.slice xB t.qG.length xx] t.qG) (xR : qM.rep w xJ [.slice qV t.qB.length qU] t.qB) (p0 : Qj s) (p1 : zY s t) : Calls Tryz.prog 86 #[pp bs os, pp bt ot] w (Ret (fun v w' => ∃ (ra : Option Addr) (rn : Nat) (rc : Nat), v = .slice ra rn rc ∧ Fresh w.heap.size [] ∧ St w w' [.row (.slice ra rn rc) 2 1 rn ((xC s t).map (Value.int .i64))] []) w) := by
 refine enter (n := 91) Tryz.func86 rfl Tryz.ntmps86 (Nat.le_of_ble_eq_true rfl) ?_
 have H := (((((((St.start w).arg xR).arg zT).arg zo).argAt ht).arg xA).arg qY).argAt hs
 have zH := qJ qY
 have vN := qJ xA
 have QB := qJ zo
 have nhtBags := qJ zT
 have yS := qJ xR
 clear hs qY xA ht zo zT xR
 have N := Fresh.nil w.heap.size
 have p3 := p0.2.1
 have p7 := p1.2.1
 have p8 := kinds_le p0
 have p9 := p0.1.2.1
 have p11 : CellsN s = s.qg.length := rfl
 refine qh (qp ?_)
 refine sp (.slice none 0 0) ?_
 refine qo (t_n (qh (qp ?_)))
 refine sps [pp bs os, pp bt ot] ?_
 have sz4 := H.base.size
 refine sw (xm #[pp bs os, pp bt ot] rfl rfl Tryz.call79 (l03Applicable_ok w s t bs os qm ql qL qE qA xk bt ot xu qZ xY xB xx zG qV qU xJ (qK (H.get 0 rfl) 0 3) (H.get 1 rfl).1 (H.get 2 rfl).1 (qK (H.get 3 rfl) 0 3) (H.get 4 rfl).1 (H.get 5 rfl).1 (H.get 6 rfl).1 (by first | assumption | omega) (by first | assumption | omega)) ?_)
 rintro _ w2 ⟨ra1, rn1, rc1, rfl, M, K⟩ _
 replace H := H.merge K M
 dsimp only [List.cons_append, List.nil_append] at H
 obtain rfl := H.rowNB 0 rfl
 have al := appl_len s t
 refine sp (.slice ra1 ((appl s t).length) rc1) ?_
 refine qo (t_n (qh (qp ?_)))
 refine sw (Qq H Tryz.underlying27 ti22 fun b7 w8 H => ?_)
 refine sp (.slice (aa b7 0) 0 0) ?_
 refine qo (t_n (qh (qh (qp ?_))))
 refine sp (.int .i64 0) ?_
 refine qo (t_n (xn ?_))
 replace H := H.boxRow 0 rfl 1 0 rfl (by decide)
 try dsimp only [List.set] at H
 replace H := H.Qp (α := List Int)
 refine zC (fun m' ρ w9 => ∃ (junk : Env) (a_rest : Option Addr) (n_rest : Nat) (c_rest : Nat) (rest : List (List Int)) (x_rest : List Value) (F_rest : List Nat) (c : Nat), ρ = upd (upd (upd (upd (upd junk 0 (pp bs os)) 1 (pp bt ot)) 5 (.slice ra1 ((appl s t).length) rc1)) 6 (.slice a_rest n_rest c_rest)) 7 (.int .i64 c) ∧ rest = t.qG.take c ∧ ((c : Int) ≤ t.qG.length) ∧ m' = (t.qG.length - (c : Int)).toNat ∧ Fresh w.heap.size [F_rest] ∧ St w w9 [.row (.slice a_rest n_rest c_rest) 22 1 n_rest x_rest, .row (.slice ra1 ((appl s t).length) rc1) 4 1 ((appl s t).length) ((appl s t).map (Value.bool))] [jo true F_rest x_rest rest, atF bs os [.int .i64 s.qF, .slice qm s.qg.length ql, .slice qE s.qf.length qA], isF false qL (.slice qm s.qg.length ql) s.qg, isF false xk (.slice qE s.qf.length qA) s.qf, atF bt ot [.slice xu t.qy.length qZ, .slice xB t.qG.length xx, .slice qV t.qB.length qU], isF false xY (.slice xu t.qy.length qZ) t.qy, isF false zG (.slice xB t.qG.length xx) t.qG, isF false xJ (.slice qV t.qB.length qU) t.qB]) ((t.qG.length - (0 : Int)).toNat) ⟨_, (aa b7 0), 0, 0, ([] : List (List Int)), [], [], 0, (by exact qj (qj (qj (qj (qj (rfl) rfl) rfl) rfl) rfl) rfl), (by rfl), (by omega), rfl, N.emp, H⟩ ?_
 clear H N
 rintro m' ρ w10 ⟨junk, a_rest, n_rest, c_rest, rest, x_rest, F_rest, c, rfl, rfl, i0, rfl, N, H⟩
 have hn_rest := H.jB (α := List Int) 0 rfl 0 rfl (by decide)
 have p4 := (p1.bagLen (k := c))
 rw [List.length_take_of_le (by omega)] at hn_rest
 refine qh (qh (qp ?_))
 refine sps [.int .i64 c, pp bt ot, pp bt ot] ?_
 refine sw (qH bt (ot) 1 Tryz.underlying38 rfl rfl Tryz.sizeOf27 rfl ?_)
 refine sw (qC (.slice xB t.qG.length xx) Tryz.isAgg27 rfl (H.xU 4 rfl 1 rfl) ?_)
 refine sw (zK Tryz.underlying27 xB t.qG.length xx rfl ?_)
 refine sp (.bool (decide ((c : Int) < t.qG.length))) ?_
 refine qo (t_n ?_)
 refine qP (decide ((c : Int) < t.qG.length)) rfl (fun h11 => ?_) (fun h11 => ?_)
 ·skip
  replace h11 := of_decide_eq_true h11
  refine xg (t_n (qh (xn (qp ?_))))
  refine sps [.slice a_rest n_rest c_rest, pp bt ot, pp bt ot] ?_
  refine sw (qH bt (ot) 1 Tryz.underlying38 rfl rfl Tryz.sizeOf27 rfl ?_)
  refine sw (qC (.slice xB t.qG.length xx) Tryz.isAgg27 rfl (H.xU 4 rfl 1 rfl) ?_)
  refine sp (.int .i64 c) ?_
  obtain ⟨b12, o13, rfl⟩ := H.addr 6 rfl (by omega)
  obtain ⟨ae15, ce15, Fe15, H⟩ := H.Xk 6 rfl c c (by omega) (by omega) (by omega)
  refine sw (xE c Tryz.underlying27 ti22 rfl rfl (by omega) (by omega) ?_)
  refine sw (qC (.slice ae15 ((t.qG[c]!).length) ce15) Tryz.isAgg22 rfl (H.xU 1 rfl 0 rfl) ?_)
  have p5 := (p1.bagLen (k := c) (by omega)).len
  have sz16 := H.base.size
  have lt17 := H.ltN (L := [F_rest]) [2]
  refine sw (xm #[.slice ae15 ((t.qG[c]!).length) ce15] rfl rfl Tryz.call120 (l00Own_ok w10 (t.qG[c]!) ae15 ce15 Fe15 (H.get 0 rfl).1 (by first | assumption | omega)) ?_)
  rintro v21 w19 r21 x20
  replace H := H.jh x20 r21
  obtain ⟨a22, c23, rfl, hc24, hm25⟩ := H.Xe 0 rfl
  refine sw (o_build1C H Tryz.underlying27 ti22 [.slice a22 ((t.qG[c]!).length) c23] fun b26 w27 H => ?_)
  obtain ⟨G31, N, hn32, H⟩ := H.Xm 1 rfl N (H.awayN [2])
  try dsimp only [List.set] at H
  refine sw (o_appendR H 2 rfl 0 rfl Tryz.underlying27 ti22 rfl (by decide) rfl rfl rfl (by simp [Value.oneCell', Value.cells]) (by unfold maxLen; omega) (by omega) fun a28 c29 w30 H => ?_)
  try dsimp only [List.set] at H
  replace H := H.repsSnoc 3 rfl 0 rfl
  replace N : Fresh w.heap.size [(F_rest ++ G31)] := (N.pick [1, 0]).join
  refine sp (.slice a28 (n_rest + 1) c29) ?_
  refine qo (b_n (t_n (qp ?_)))
  refine sp (.int .i64 c) ?_
  refine sw (zD c 1 rfl rfl (by (first | omega | (have u8 := firstC_bd p0 p1 (k := i) (by omega); rw [QQ ‹_›] at u8; omega))) ?_)
  refine sp (.int .i64 (c + 1)) ?_
  refine qo ?_
  refine xy (m' := (t.qG.length - ((c + 1) : Int)).toNat) (by omega) ⟨_, a28, n_rest + 1, c29, ((t.qG.take c) ++ [(t.qG[c]!)]), x_rest ++ [.slice a22 ((t.qG[c]!).length) c23], (F_rest ++ G31), c + 1, (by exact qj (qj (qj (qj (qj (rfl) rfl) rfl) rfl) rfl) rfl), ?_, ?_, rfl, N, H.pick [2, 3] [0, 5, 6, 7, 8, 9, 10, 11]⟩
  · exact take_snoc (by omega)
  · omega
 replace h11 := of_decide_eq_false h11
 refine zx (t_x (t_x (b_x (t_n (qh (qp ?_))))))
 refine sw (Qq H Tryz.underlying22 ti2 fun b33 w34 H => ?_)
 refine sp (.slice (aa b33 0) 0 0) ?_
 refine qo (t_n (qh (qh (qp ?_))))
 refine sp (.int .i64 0) ?_
 refine qo (t_n (xn ?_))
 replace H := H.boxRowI 0 [] 0
 try dsimp only [List.set] at H
 refine zC (fun m' ρ w35 => ∃ (junk : Env) (yl : Option Addr) (vO : Nat) (jK : Nat) (out : List Int) (i : Nat) (rest_1 : List (List Int)) (x_rest_1 : List Value) (F_rest_1 : List Nat), ρ = upd (upd (upd (upd (upd junk 0 (pp bs os)) 5 (.slice ra1 ((appl s t).length) rc1)) 6 (.slice a_rest n_rest c_rest)) 8 (.slice yl vO jK)) 9 (.int .i64 i) ∧ out = firstTo s t i i ∧ rest_1 = zk s t i ∧ ((i : Int) ≤ ((appl s t).length)) ∧ m' = (((appl s t).length) - (i : Int)).toNat ∧ Fresh w.heap.size [F_rest_1] ∧ St w w35 [.row (.slice yl vO jK) 2 1 vO (out.map (Value.int .i64)), .row (.slice a_rest n_rest c_rest) 22 1 n_rest x_rest_1, .row (.slice ra1 ((appl s t).length) rc1) 4 1 ((appl s t).length) ((appl s t).map (Value.bool))] [jo true F_rest_1 x_rest_1 rest_1, atF bs os [.int .i64 s.qF, .slice qm s.qg.length ql, .slice qE s.qf.length qA], isF false qL (.slice qm s.qg.length ql) s.qg, isF false xk (.slice qE s.qf.length qA) s.qf]) ((((appl s t).length) - (0 : Int)).toNat) ⟨_, (aa b33 0), 0, 0, ([] : List Int), 0, (t.qG.take c), x_rest, F_rest, (by exact qj (qj (qj (qj (qj (rfl) rfl) rfl) rfl) rfl) rfl), (by rfl), (by rw [List.take_of_length_le (by omega)]; rfl), (by omega), rfl, N, H.pick [0, 1, 2] [0, 1, 2, 3]⟩ ?_
 clear H N
 rintro m' ρ w36 ⟨junk, yl, vO, jK, out, i, rest_1, x_rest_1, F_rest_1, rfl, rfl, rfl, i0, rfl, N, H⟩
 have hn_out := H.rowNI 0 rfl
 have hn_rest := H.jB (α := List Int) 1 rfl 0 rfl (by decide)
 have fl := vw s t i i
 have rl := (firstR_box p0 p1 i (by omega)).1
 refine qh (qh (qp ?_))
 refine sps [.int .i64 i, .slice ra1 ((appl s t).length) rc1] ?_
 refine sw (zK Tryz.underlying26 ra1 ((appl s t).length) rc1 rfl ?_)
 refine sp (.bool (decide ((i : Int) < ((appl s t).length)))) ?_
 refine qo (t_n ?_)
 refine qP (decide ((i : Int) < ((appl s t).length))) rfl (fun h37 => ?_) (fun h37 => ?_)
 ·skip
  replace h37 := of_decide_eq_true h37
  have q := p0.rule (i := i) (by omega)
  have qc := q.1
  have qk := q.cell
  have qr := q.2.1
  have b1 := q.2.2.2.2.1
  refine xg (t_n (qh (xn (qh (qp ?_)))))
  refine sp (.int .i64 0) ?_
  refine qo (t_n (qh (qh (qp ?_))))
  refine sps [.slice ra1 ((appl s t).length) rc1, .int .i64 i] ?_
  obtain ⟨b38, rfl⟩ := H.rowAddr 2 rfl (by omega)
  refine sw (xE i Tryz.underlying26 ti4 rfl rfl (by omega) (by omega) ?_)
  refine sw (qC (.bool ((appl s t)[i]!)) Tryz.isAgg4 rfl (H.rowBool 2 rfl (iv := i) (i := i) (by omega) (by omega)) ?_)
  refine qo (t_n ?_)
  refine qP ((appl s t)[i]!) rfl (fun h39 => ?_) (fun h39 => ?_)
  ·skip
   replace h39 := appl_true (by omega) h39
   refine qh (qp ?_)
   refine sps [pp bs os, pp bs os] ?_
   refine sw (qH bs (os) 2 Tryz.underlying36 rfl rfl Tryz.sizeOf34 rfl ?_)
   refine sw (qC (.slice qE s.qf.length qA) Tryz.isAgg34 rfl (H.xU 1 rfl 2 rfl) ?_)
   refine sp (.int .i64 i) ?_
   obtain ⟨b40, o41, rfl⟩ := H.addr 3 rfl (by omega)
   obtain ⟨QD, QC, Fe43Need, ae43Have, ce43Have, Fe43Have, ae43Lack, ce43Lack, Fe43Lack, ae43Here, ce43Here, Fe43Here, ae43Out, ce43Out, Fe43Out, ae43Into, Qs, Fe43Into, H⟩ := H.jv 3 rfl i i (by omega) (by omega) (by omega)
   refine sw (xE i Tryz.underlying34 ti110 rfl rfl (by omega) (by omega) ?_)
   refine sw (qH b40 (o41 + (i : Int).toNat * 9) 0 Tryz.underlying110 rfl rfl Tryz.sizeOf2 rfl ?_)
   refine sw (qC (.int .i64 ((s.qf[i]!).qw)) Tryz.isAgg2 rfl (H.xU 6 rfl 0 rfl) ?_)
   refine sp (.int .i64 ((s.qf[i]!).qw)) ?_
   refine qo (t_n (qh ?_))
   refine jf rfl H fun H => ?_
   refine rtp 0 (pp bs os) H ?_
   refine rtp 1 (pp bs os) H ?_
   refine rt 2 (pp bs (os + 2)) (xH bs (os) 2 Tryz.underlying36 rfl rfl Tryz.sizeOf34 rfl) H ?_
   refine rt 3 (.slice (aa b40 o41) s.qf.length qA) (xw Tryz.isAgg34 rfl (fun _ h => h.xU 8 rfl 2 rfl)) H ?_
   refine rtp 4 (.int .i64 i) H ?_
   refine rt 5 (pp b40 (o41 + (i : Int).toNat * 9)) (xQ b40 (o41) s.qf.length qA i Tryz.underlying34 ti110 rfl rfl (by omega) (by omega)) H ?_
   refine rt 6 (pp b40 (o41 + (i : Int).toNat * 9 + 2)) (xH b40 (o41 + (i : Int).toNat * 9) 2 Tryz.underlying110 rfl rfl Tryz.sizeOf22 rfl) H ?_
   refine rt 7 (.slice QD (((s.qf[i]!).qI).length) QC) (xw Tryz.isAgg22 rfl (fun _ h => h.xU 6 rfl 2 rfl)) H ?_
   refine rtp 8 (.slice a_rest n_rest c_rest) H ?_
   refine rtp 9 (.int .i64 ((s.qf[i]!).qw)) H ?_
   obtain ⟨b45, rfl⟩ := H.rowAddr 1 rfl (by omega)
   refine rt 10 (pp b45 (0 + ((s.qf[i]!).qw : Int).toNat * 1)) (xQ b45 (0) n_rest c_rest ((s.qf[i]!).qw) Tryz.underlying27 ti22 rfl rfl (by omega) (by omega)) H ?_
   refine zt [11] (by kernel_rfl) (by simp) (yF rfl ?_ zu)
   obtain ⟨a46, c47, G48, s49, h50, H⟩ := H.Qb 1 rfl 7 rfl (iv := (s.qf[i]!).qw) (((s.qf[i]!).qw).toNat) (by omega) (by omega)
   refine qC (.slice a46 (((zk s t i)[((s.qf[i]!).qw).toNat]!).length) c47) Tryz.isAgg22 rfl (h50) ?_
   refine ⟨H.pick [0, 1, 2] [1, 2, 3, 4, 5, 6, 7, 8, 9, 10, 11], ?_⟩
   refine zt [12] (by kernel_rfl) (by simp) (yF rfl ?_ zu)
   obtain ⟨u1, u2, u5⟩ := firstR_row (c := (s.qf[i]!).qw.toNat) p0 p1 (show i ≤ _ by omega) qk
   have u3 := b1.len
   have u6 : ∀ k, k < ((s.qf[i]!).qI).length → 0 ≤ ((zk s t i)[(s.qf[i]!).qw.toNat]!)[k]! ∧ ((zk s t i)[(s.qf[i]!).qw.toNat]!)[k]! ≤ 1000 := fun k hk => u5 k (by omega)
   have u7 := sum_pos b1.1 q.2.2.2.2.2.2.2.2.2.1
   refine xm #[.slice QD (((s.qf[i]!).qI).length) QC, .slice a46 (((zk s t i)[((s.qf[i]!).qw).toNat]!).length) c47] rfl rfl Tryz.call139 (l01Times_ok w36.drew ((s.qf[i]!).qI) ((zk s t i)[((s.qf[i]!).qw).toNat]!) QD QC Fe43Need a46 c47 G48 (H.get 1 rfl).1 (H.get 0 rfl).1 (by first | assumption | omega) (by first | assumption | omega) (by first | assumption | omega)) ?_
   rintro _ w52 rfl x53
   replace H := H.ext x53
   refine ⟨H.pick [0, 1, 2] [1, 2, 3, 4, 5, 6, 7, 8, 9, 10, 11], ?_⟩
   refine rtp 13 (.int .i64 (jq ((s.qf[i]!).qI) ((zk s t i)[((s.qf[i]!).qw).toNat]!))) (H.pick [0, 1, 2] [1, 2, 3, 4, 5, 6, 7, 8, 9, 10, 11]) ?_
   refine xZ (by kernel_rfl) (t_n ?_)
   refine QI rfl H [0, 2] fun H => ?_
   have S := H.QN [0, 2] [0, 1, 2, 3, 4, 5, 6, 7, 8, 9, 10, 11]
   refine rtp 0 (.slice (aa b45 0) n_rest c_rest) S ?_
   refine rtp 1 (.int .i64 ((s.qf[i]!).qw)) S ?_
   refine rtp 2 (.slice (aa b45 0) n_rest c_rest) S ?_
   refine rtp 3 (.int .i64 ((s.qf[i]!).qw)) S ?_
   refine rt 4 (pp b45 (0 + ((s.qf[i]!).qw : Int).toNat * 1)) (xQ b45 (0) n_rest c_rest ((s.qf[i]!).qw) Tryz.underlying27 ti22 rfl rfl (by omega) (by omega)) S ?_
   refine rtp 6 (pp bs os) S ?_
   refine rtp 7 (pp bs os) S ?_
   refine rt 8 (pp bs (os + 2)) (xH bs (os) 2 Tryz.underlying36 rfl rfl Tryz.sizeOf34 rfl) S ?_
   refine rt 9 (.slice (aa b40 o41) s.qf.length qA) (xw Tryz.isAgg34 rfl (fun _ h => h.xU 9 rfl 2 rfl)) S ?_
   refine rtp 10 (.int .i64 i) S ?_
   refine rt 11 (pp b40 (o41 + (i : Int).toNat * 9)) (xQ b40 (o41) s.qf.length qA i Tryz.underlying34 ti110 rfl rfl (by omega) (by omega)) S ?_
   refine rt 12 (pp b40 (o41 + (i : Int).toNat * 9 + 2)) (xH b40 (o41 + (i : Int).toNat * 9) 2 Tryz.underlying110 rfl rfl Tryz.sizeOf22 rfl) S ?_
   refine rt 13 (.slice QD (((s.qf[i]!).qI).length) QC) (xw Tryz.isAgg22 rfl (fun _ h => h.xU 7 rfl 2 rfl)) S ?_
   refine rtp 14 (.int .i64 (jq ((s.qf[i]!).qI) ((zk s t i)[((s.qf[i]!).qw).toNat]!))) S ?_
   refine rt 15 (.int .i64 (-(jq ((s.qf[i]!).qI) ((zk s t i)[((s.qf[i]!).qw).toNat]!)))) (y_neg (jq ((s.qf[i]!).qI) ((zk s t i)[((s.qf[i]!).qw).toNat]!)) rfl (by (first | omega | (have u8 := firstC_bd p0 p1 (k := i) (by omega); rw [QQ ‹_›] at u8; omega)))) S ?_
   refine zt [5] (by kernel_rfl) (by simp) (yF rfl ?_ zu)
   obtain ⟨a55, c56, G57, s58, h59, H⟩ := H.Qb 1 rfl 8 rfl (iv := (s.qf[i]!).qw) (((s.qf[i]!).qw).toNat) (by omega) (by omega)
   refine qC (.slice a55 (((zk s t i)[((s.qf[i]!).qw).toNat]!).length) c56) Tryz.isAgg22 rfl (h59) ?_
   refine ⟨H.pick [0, 2] [1, 2, 3, 4, 5, 6, 7, 8, 9, 10, 11, 12], ?_⟩
   refine zt [16] (by kernel_rfl) (by simp) (yF rfl ?_ zu)
   obtain ⟨u1, u2, u5⟩ := firstR_row (c := (s.qf[i]!).qw.toNat) p0 p1 (show i ≤ _ by omega) qk
   have u3 := b1.len
   have u8 := firstC_bd p0 p1 (k := i) (by omega)
   rw [QQ ‹_›] at u8
   have u4 := b1.jw (t := -(jq (s.qf[i]!).qI ((zk s t i)[(s.qf[i]!).qw.toNat]!))) (by omega)
   have sz60 := H.base.size
   have lt61 := H.ltN (L := [F_rest_1]) [9]
   refine xm #[.slice a55 (((zk s t i)[((s.qf[i]!).qw).toNat]!).length) c56, .slice QD (((s.qf[i]!).qI).length) QC, .int .i64 (-(jq ((s.qf[i]!).qI) ((zk s t i)[((s.qf[i]!).qw).toNat]!)))] rfl rfl Tryz.call88 (l01Plus_ok w52.drew ((zk s t i)[((s.qf[i]!).qw).toNat]!) ((s.qf[i]!).qI) (-(jq ((s.qf[i]!).qI) ((zk s t i)[((s.qf[i]!).qw).toNat]!))) a55 c56 G57 QD QC Fe43Need (H.get 0 rfl).1 (H.get 2 rfl).1 (by first | assumption | omega) (by first | assumption | omega) (by first | assumption | omega)) ?_
   rintro v65 w63 r65 x64
   replace H := H.jh x64 r65
   obtain ⟨a66, c67, rfl, hc68, hm69⟩ := H.Xe 0 rfl
   refine ⟨H.pick [1, 3] [1, 2, 3, 4, 5, 6, 7, 8, 9, 10, 11, 12], ?_⟩
   refine rt 17 (pp b45 (0 + ((s.qf[i]!).qw : Int).toNat * 1)) (xQ b45 (0) n_rest c_rest ((s.qf[i]!).qw) Tryz.underlying27 ti22 rfl rfl (by omega) (by omega)) (H.pick [1, 3] [1, 2, 3, 4, 5, 6, 7, 8, 9, 10, 11, 12]) ?_
   refine zt [18] (by kernel_rfl) (by simp) (yF rfl ?_ zu)
   obtain ⟨G71, N, hn72, H⟩ := H.Xm 0 rfl N (H.awayN [9])
   try dsimp only [List.set] at H
   refine yg true H 2 rfl 10 rfl (.slice a66 ((yc ((zk s t i)[((s.qf[i]!).qw).toNat]!) ((s.qf[i]!).qI) (-(jq ((s.qf[i]!).qI) ((zk s t i)[((s.qf[i]!).qw).toNat]!)))).length) c67) 0 rfl rfl Tryz.sizeOf22 rfl rfl (i := (((s.qf[i]!).qw).toNat)) (by omega) (by omega) (by simp) fun w70 xs73 F74 hs75 H => ?_
   replace N : Fresh w.heap.size [F74] := (N.pick [1, 0]).repl hs75
   try dsimp only [List.set] at H
   refine ⟨H.pick [1, 3] [3, 4, 5, 6, 7, 8, 9, 10, 11, 12, 13, 14], ?_⟩
   refine xZ (by kernel_rfl) (t_n ?_)
   refine qp ?_
   refine sps [.slice yl vO jK, .int .i64 (jq ((s.qf[i]!).qI) ((zk s t i)[((s.qf[i]!).qw).toNat]!))] ?_
   refine sw (o_build1C H Tryz.underlying22 ti2 [.int .i64 (jq ((s.qf[i]!).qI) ((zk s t i)[((s.qf[i]!).qw).toNat]!))] fun b76 w77 H => ?_)
   refine sw (o_appendR H 2 rfl 0 rfl Tryz.underlying22 ti2 rfl (by decide) rfl rfl rfl (by simp [Value.oneCell', Value.cells]) (by unfold maxLen; omega) (by omega) fun a78 c79 w80 H => ?_)
   rw [snocI] at H
   try dsimp only [List.set] at H
   refine sp (.slice a78 (vO + 1) c79) ?_
   refine qo (b_n (t_n (qp ?_)))
   refine sp (.int .i64 i) ?_
   refine sw (zD i 1 rfl rfl (by (first | omega | (have u8 := firstC_bd p0 p1 (k := i) (by omega); rw [QQ ‹_›] at u8; omega))) ?_)
   refine sp (.int .i64 (i + 1)) ?_
   refine qo ?_
   refine xy (m' := (((appl s t).length) - ((i + 1) : Int)).toNat) (by omega) ⟨_, a78, vO + 1, c79, ((firstTo s t i i) ++ [jq ((s.qf[i]!).qI) ((zk s t i)[((s.qf[i]!).qw).toNat]!)]), i + 1, ((zk s t i).set (((s.qf[i]!).qw).toNat) (yc ((zk s t i)[((s.qf[i]!).qw).toNat]!) ((s.qf[i]!).qI) (-(jq ((s.qf[i]!).qI) ((zk s t i)[((s.qf[i]!).qw).toNat]!))))), xs73, F74, (by exact qj (qj (qj (qj (qj (rfl) rfl) rfl) rfl) rfl) rfl), ?_, ?_, ?_, rfl, N, H.pick [2, 3, 4] [0, 12, 13, 14]⟩
   · exact firstTo_snoc' (by first | exact (QQ ‹_›).symm | exact (firstC_no ‹_›).symm)
   · first | exact (firstR_yes ‹_›).symm | exact (firstR_no ‹_›).symm
   · omega
  replace h39 := appl_false (by omega) h39
  refine xg (t_n (qp ?_))
  refine sps [.slice yl vO jK, .int .i64 0] ?_
  refine sw (o_build1C H Tryz.underlying22 ti2 [.int .i64 0] fun b81 w82 H => ?_)
  refine sw (o_appendR H 1 rfl 0 rfl Tryz.underlying22 ti2 rfl (by decide) rfl rfl rfl (by simp [Value.oneCell', Value.cells]) (by unfold maxLen; omega) (by omega) fun a83 c84 w85 H => ?_)
  rw [snocI] at H
  try dsimp only [List.set] at H
  refine sp (.slice a83 (vO + 1) c84) ?_
  refine qo (b_n (t_n (qp ?_)))
  refine sp (.int .i64 i) ?_
  refine sw (zD i 1 rfl rfl (by (first | omega | (have u8 := firstC_bd p0 p1 (k := i) (by omega); rw [QQ ‹_›] at u8; omega))) ?_)
  refine sp (.int .i64 (i + 1)) ?_
  refine qo ?_
  refine xy (m' := (((appl s t).length) - ((i + 1) : Int)).toNat) (by omega) ⟨_, a83, vO + 1, c84, ((firstTo s t i i) ++ [0]), i + 1, (zk s t i), x_rest_1, F_rest_1, (by exact qj (qj (qj (qj (qj (rfl) rfl) rfl) rfl) rfl) rfl), ?_, ?_, ?_, rfl, N, H.pick [1, 2, 3] [0, 1, 2, 3]⟩
  · exact firstTo_snoc' (by first | exact (QQ ‹_›).symm | exact (firstC_no ‹_›).symm)
  · first | exact (firstR_yes ‹_›).symm | exact (firstR_no ‹_›).symm
  · omega
 replace h37 := of_decide_eq_false h37
 refine zx (t_x (t_x (b_x (t_n (qh (qp ?_))))))
 refine sps [.slice yl vO jK, .slice yl vO jK] ?_
 refine qo (t_n (xh ?_))
 refine ret1 (.slice yl vO jK) rfl rfl ⟨_, rfl, ?_, H.base⟩
 obtain rfl : i = s.qf.length := by omega
 exact ⟨yl, vO, jK, rfl, (N.pick []), H.pick [0] []⟩

end Go.Proofs.YtkmlihdacnfhdaaGreat
