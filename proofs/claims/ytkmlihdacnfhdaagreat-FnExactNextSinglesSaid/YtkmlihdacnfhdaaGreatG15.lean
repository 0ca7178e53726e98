/- Walks, printed by program (wip/tools/gv.py): what each function comes to, for all arguments. -/
import Derived.Test.YtkmlihdacnfhdaaGreatG14
namespace Go.Proofs.YtkmlihdacnfhdaaGreat
open Go.Proofs.YtkmlihdacnfhdaaGreat.Tot (tot)
open Go.Proofs.YtkmlihdacnfhdaaGreat.Mark (cnt mrk mkd mkd_mark cnt_mark)
open Go.RowKit
set_option linter.unusedVariables false
set_option linter.unusedSimpArgs false
set_option maxRecDepth 100000
set_option maxHeartbeats 4000000



theorem Vl (w : World) (s : qU) (qp : Option Addr) (qo : Nat) (qO : List Nat) (qF : Option Addr) (qC : Nat) (xq : List Nat) (xn : qQ.rep w qO [.slice qp s.qf.length qo] s.qf) (xM : qQ.rep w xq [.slice qF s.qg.length qC] s.qg) : Calls Tryz.prog 113 #[.agg #[.int .i64 s.qI, .slice qp s.qf.length qo, .slice qF s.qg.length qC]] w (Ret (fun v w' => v = .int .i64 s.qf.length) w) := by
 refine enter (n := 6) Tryz.func113 rfl Tryz.ntmps113 (Nat.le_of_ble_eq_true rfl) ?_
 have H := ((St.start w).arg xM).arg xn
 have vk := qJ xn
 have jr := qJ xM
 clear xn xM
 have N := Fresh.nil w.heap.size
 refine qm (qy ?_)
 refine sw (jW H [.int .i64 s.qI, .slice qp s.qf.length qo, .slice qF s.qg.length qC] fun b1 w2 H => ?_)
 refine sp (.int .i64 0) ?_
 refine qw (t_n (qm (qy ?_)))
 refine sw (qM b1 (0) 1 Tryz.underlying36 rfl rfl Tryz.sizeOf22 rfl ?_)
 refine sw (qE (.slice qp s.qf.length qo) Tryz.isAgg22 rfl (H.cell 0 rfl rfl) ?_)
 refine sw (zD Tryz.underlying22 qp s.qf.length qo rfl ?_)
 refine sp (.int .i64 s.qf.length) ?_
 refine qw (t_n (xx ?_))
 refine ret1 (.int .i64 s.qf.length) rfl rfl ⟨_, rfl, ?_, H.base⟩
 rfl

theorem step_ok (w : World) (s : qU) (t : qP) (counts : List Int) (qp : Option Addr) (qo : Nat) (qO : List Nat) (qF : Option Addr) (qC : Nat) (xq : List Nat) (qN : Option Addr) (qH : Nat) (xK : List Nat) (xG : Option Addr) (xy : Nat) (zk : List Nat) (qL : Option Addr) (qK : Nat) (xH : List Nat) (acounts : Option Addr) (ccounts : Nat) (Fcounts : List Nat) (xn : qQ.rep w qO [.slice qp s.qf.length qo] s.qf) (xM : qQ.rep w xq [.slice qF s.qg.length qC] s.qg) (zl : qQ.rep w xK [.slice qN t.qh.length qH] t.qh) (zV : qQ.rep w zk [.slice xG t.qx.length xy] t.qx) (xX : qQ.rep w xH [.slice qL t.ql.length qK] t.ql) (hcounts : qQ.rep w Fcounts [.slice acounts counts.length ccounts] counts) (p0 : Qb s) (p1 : zM s t) (p2 : CntOk s counts) (p3 : IsCh s t counts) : Calls Tryz.prog 66 #[.agg #[.int .i64 s.qI, .slice qp s.qf.length qo, .slice qF s.qg.length qC], .agg #[.slice qN t.qh.length qH, .slice xG t.qx.length xy, .slice qL t.ql.length qK], .slice acounts counts.length ccounts] w (Ret (fun v w' => ∃ (ra0Alive : Option Addr) (rn0Alive : Nat) (rc0Alive : Nat) (ra0Bags : Option Addr) (rn0Bags : Nat) (rc0Bags : Nat) (rx0Bags : List Value) (rF0Bags : List Nat) (ra0Around : Option Addr) (rn0Around : Nat) (rc0Around : Nat), v = .tuple #[.agg #[.slice ra0Alive rn0Alive rc0Alive, .slice ra0Bags rn0Bags rc0Bags, .slice ra0Around rn0Around rc0Around], .int .i64 ((xU s t counts).2)] ∧ Fresh w.heap.size [rF0Bags] ∧ St w w' [.row (.slice ra0Alive rn0Alive rc0Alive) 4 1 rn0Alive ((((xU s t counts).1).qh).map (Value.bool)), .row (.slice ra0Bags rn0Bags rc0Bags) 22 1 rn0Bags rx0Bags, .row (.slice ra0Around rn0Around rc0Around) 2 1 rn0Around ((((xU s t counts).1).ql).map (Value.int .i64))] [vK true rF0Bags rx0Bags (((xU s t counts).1).qx)]) w) := by
 refine enter (n := 108) Tryz.func66 rfl Tryz.ntmps66 (Nat.le_of_ble_eq_true rfl) ?_
 have H := ((((((St.start w).arg hcounts).arg xX).arg zV).arg zl).arg xM).arg xn
 have vk := qJ xn
 have jr := qJ xM
 have QX := qJ zl
 have XH := qJ zV
 have yZ := qJ xX
 have nhcounts := qJ hcounts
 clear xn xM zl zV xX hcounts
 have N := Fresh.nil w.heap.size
 have p5 := p0.2.1
 have p6 := p2.1
 have p7 := p1.2.1
 have p8 := kinds_le p0
 have p9 := p0.1.2.1
 have p11 : vY s = s.qf.length := rfl
 have p12 := p1.1
 have p15 := p0.1
 have p16 := p0.1.1
 have p17 := p1.around.1
 refine qm (qy ?_)
 refine sw (jW H [.int .i64 s.qI, .slice qp s.qf.length qo, .slice qF s.qg.length qC] fun b1 w2 H => ?_)
 refine sw (jW H [.slice qN t.qh.length qH, .slice xG t.qx.length xy, .slice qL t.ql.length qK] fun b3 w4 H => ?_)
 refine sw (zL H ti38 [.slice none 0 0, .slice none 0 0, .slice none 0 0] fun b5 w6 H => ?_)
 refine sp (.int .i64 0) ?_
 refine qw (t_n (qm ?_))
 refine c_cut (fun ρ w7 => ∃ (junk : Env) (a8 : Option Addr) (c9 : Nat) (rx10 : List Value) (rF11 : List Nat), ρ = upd (upd (upd (upd (upd junk 2 (.slice acounts counts.length ccounts)) 3 (pp b1 0)) 4 (pp b3 0)) 6 (pp b5 0)) 8 (.slice a8 (t.qx.length + 1) c9) ∧ Fresh w.heap.size [] ∧ St w w7 [.row (.slice a8 (t.qx.length + 1) c9) 22 1 (t.qx.length + 1) (rx10 ++ [.slice qL t.ql.length qK]), .box b5 [.slice none 0 0, .slice none 0 0, .slice none 0 0] 38, .box b3 [.slice qN t.qh.length qH, .slice xG t.qx.length xy, .slice qL t.ql.length qK] 38, .box b1 [.int .i64 s.qI, .slice qp s.qf.length qo, .slice qF s.qg.length qC] 36] [vK false (rF11 ++ xH) (rx10 ++ [.slice qL t.ql.length qK]) (t.qx ++ [t.ql]), isF false qO (.slice qp s.qf.length qo) s.qf, isF false xq (.slice qF s.qg.length qC) s.qg, isF false xK (.slice qN t.qh.length qH) t.qh, isF false zk (.slice xG t.qx.length xy) t.qx, isF false xH (.slice qL t.ql.length qK) t.ql, isF false Fcounts (.slice acounts counts.length ccounts) counts]) ?_ ?_
 ·skip
  refine jk rfl H fun H => ?_
  refine rt 0 (pp b3 (0 + 1)) (xE b3 (0) 1 Tryz.underlying38 rfl rfl Tryz.sizeOf27 rfl) H ?_
  refine rt 1 (.slice xG t.qx.length xy) (xm Tryz.isAgg27 rfl (fun _ h => h.cell 1 rfl rfl)) H ?_
  refine rt 3 (pp b3 (0 + 2)) (xE b3 (0) 2 Tryz.underlying38 rfl rfl Tryz.sizeOf22 rfl) H ?_
  refine rt 4 (.slice qL t.ql.length qK) (xm Tryz.isAgg22 rfl (fun _ h => h.cell 1 rfl rfl)) H ?_
  refine xB [2, 5] (by kernel_rfl) (by simp) (zh rfl ?_ (zh rfl ?_ xC))
  ·skip
   have sz16 := H.base.size
   refine xf #[.slice xG t.qx.length xy] rfl rfl Tryz.call98 (cloneSS_ok w6.drew t.qx xG xy zk (H.get 3 rfl).1 (by first | assumption | omega)) ?_
   rintro _ w14 ⟨ra13, rn13, rc13, rx13, rF13, rfl, hG18, K⟩ _
   replace H := H.mergeIn K 3 rfl hG18
   dsimp only [List.cons_append, List.nil_append] at H
   obtain rfl := H.zB (α := List Int) 0 rfl 0 rfl (by decide)
   refine ⟨H.pick [1, 2, 3] [1, 2, 3, 4, 5, 6], ?_⟩
   refine xB [5] (by kernel_rfl) (by simp) (zh rfl ?_ xC)
   refine Qq H Tryz.underlying27 ti22 [.slice qL t.ql.length qK] fun b19 w20 H => ?_
   refine ⟨H.pick [2, 3, 4] [1, 2, 3, 4, 5, 6], ?_⟩
   refine xB [6] (by kernel_rfl) (by simp) (zh rfl ?_ xC)
   refine Qr H 1 rfl 0 rfl Tryz.underlying27 ti22 rfl (by decide) rfl rfl rfl (by simp [Value.oneCell', Value.cells]) (by unfold maxLen; omega) (by omega) fun a21 c22 w23 H => ?_
   try dsimp only [List.set] at H
   replace H := H.XO 0 rfl 5 rfl
   refine ⟨H.pick [2, 3, 4] [2, 3, 4, 5, 6, 7], ?_⟩
   refine rtp 7 (.slice a21 (t.qx.length + 1) c22) (H.pick [2, 3, 4] [2, 3, 4, 5, 6, 7]) ?_
   refine xO (by kernel_rfl) (?_)
   exact meet ⟨_, a21, c22, rx13, rF13, (by exact qj (qj (qj (qj (qj (rfl) rfl) rfl) rfl) rfl) rfl), N, H.pick [1, 2, 3, 4] [0, 2, 3, 4, 5, 6, 7]⟩
  refine Qq H Tryz.underlying27 ti22 [.slice qL t.ql.length qK] fun b24 w25 H => ?_
  refine ⟨H.pick [1, 2, 3] [0, 1, 2, 3, 4, 5], ?_⟩
  refine xB [2] (by kernel_rfl) (by simp) (zh rfl ?_ xC)
  have sz29 := H.base.size
  refine xf #[.slice xG t.qx.length xy] rfl rfl Tryz.call98 (cloneSS_ok w25 t.qx xG xy zk (H.get 3 rfl).1 (by first | assumption | omega)) ?_
  rintro _ w27 ⟨ra26, rn26, rc26, rx26, rF26, rfl, hG31, K⟩ _
  replace H := H.mergeIn K 3 rfl hG31
  dsimp only [List.cons_append, List.nil_append] at H
  obtain rfl := H.zB (α := List Int) 0 rfl 0 rfl (by decide)
  refine ⟨H.pick [2, 3, 4] [1, 2, 3, 4, 5, 6], ?_⟩
  refine xB [6] (by kernel_rfl) (by simp) (zh rfl ?_ xC)
  refine Qr H 0 rfl 1 rfl Tryz.underlying27 ti22 rfl (by decide) rfl rfl rfl (by simp [Value.oneCell', Value.cells]) (by unfold maxLen; omega) (by omega) fun a32 c33 w34 H => ?_
  try dsimp only [List.set] at H
  replace H := H.XO 0 rfl 5 rfl
  refine ⟨H.pick [2, 3, 4] [2, 3, 4, 5, 6, 7], ?_⟩
  refine rtp 7 (.slice a32 (t.qx.length + 1) c33) (H.pick [2, 3, 4] [2, 3, 4, 5, 6, 7]) ?_
  refine xO (by kernel_rfl) (?_)
  exact meet ⟨_, a32, c33, rx26, rF26, (by exact qj (qj (qj (qj (qj (rfl) rfl) rfl) rfl) rfl) rfl), N, H.pick [0, 2, 3, 4] [0, 2, 3, 4, 5, 6, 7]⟩
 clear H N
 rintro ρ w35 ⟨junk, a8, c9, rx10, rF11, rfl, N, H⟩
 refine t_n (qm (qy ?_))
 refine sw (qM b1 (0) 1 Tryz.underlying36 rfl rfl Tryz.sizeOf22 rfl ?_)
 refine sw (qE (.slice qp s.qf.length qo) Tryz.isAgg22 rfl (H.cell 3 rfl rfl) ?_)
 refine sw (zD Tryz.underlying22 qp s.qf.length qo rfl ?_)
 refine sw (o_makeB H Tryz.underlying26 ti4 s.qf.length rfl rfl (by omega) (by omega) (by omega) fun b36 w37 H => ?_)
 refine sp (.slice (aa b36 0) s.qf.length s.qf.length) ?_
 refine qw (t_n (qm (qm (qy ?_))))
 refine sp (.slice acounts counts.length ccounts) ?_
 refine sw (zD Tryz.underlying22 acounts counts.length ccounts rfl ?_)
 refine sp (.int .i64 0) ?_
 refine qw (t_n (xu ?_))
 refine zG (fun m' ρ w38 => ∃ (junk : Env) (i : Nat) (melts : List Bool) (bags : List (List Int)) (x_bags : List Value) (F_bags : List Nat), ρ = upd (upd (upd (upd (upd (upd (upd (upd junk 3 (pp b1 0)) 4 (pp b3 0)) 6 (pp b5 0)) 8 (.slice a8 (t.qx.length + 1) c9)) 9 (.slice (aa b36 0) s.qf.length s.qf.length)) 26 (.slice acounts counts.length ccounts)) 27 (.int .i64 counts.length)) 28 (.int .i64 i) ∧ melts = yl s counts s.qf.length i ∧ ((i : Int) ≤ counts.length) ∧ (Ent (s.qf.length + 1) (QR s) (fun p q => base0 s t p q + allS s t counts i p q) (20000000 + 6000000 * i) bags) ∧ (bags.length = s.qf.length + 1) ∧ m' = (counts.length - (i : Int)).toNat ∧ Fresh w.heap.size [] ∧ St w w38 [.row (.slice (aa b36 0) s.qf.length s.qf.length) 4 1 s.qf.length (melts.map (Value.bool)), .row (.slice a8 (t.qx.length + 1) c9) 22 1 (t.qx.length + 1) x_bags, .box b5 [.slice none 0 0, .slice none 0 0, .slice none 0 0] 38, .box b3 [.slice qN t.qh.length qH, .slice xG t.qx.length xy, .slice qL t.ql.length qK] 38, .box b1 [.int .i64 s.qI, .slice qp s.qf.length qo, .slice qF s.qg.length qC] 36] [vK false F_bags x_bags bags, isF false qO (.slice qp s.qf.length qo) s.qf, isF false xq (.slice qF s.qg.length qC) s.qg, isF false xK (.slice qN t.qh.length qH) t.qh, isF false zk (.slice xG t.qx.length xy) t.qx, isF false xH (.slice qL t.ql.length qK) t.ql, isF false Fcounts (.slice acounts counts.length ccounts) counts]) ((counts.length - (0 : Int)).toNat) ⟨_, 0, (List.replicate s.qf.length (false)), (t.qx ++ [t.ql]), rx10 ++ [.slice qL t.ql.length qK], (rF11 ++ xH), (by exact qj (qj (qj (qj (qj (qj (qj (qj (rfl) rfl) rfl) rfl) rfl) rfl) rfl) rfl) rfl), (by exact meltsL_zero s counts _), (by omega), (by exact (start_ent p1).to (fun _ _ => rfl) (by omega)), (by simp; omega), rfl, N, H⟩ ?_
 clear H N
 rintro m' ρ w39 ⟨junk, i, melts, bags, x_bags, F_bags, rfl, rfl, i0, E_bags, z_bags, rfl, N, H⟩
 have hn_melts := H.Vb 0 rfl
 have hn_bags := H.zB (α := List Int) 1 rfl 0 rfl (by decide)
 refine qm (qy ?_)
 refine sp (.bool (decide ((i : Int) < counts.length))) ?_
 refine qw (t_n (qm ?_))
 refine qV (decide ((i : Int) < counts.length)) rfl (fun h40 => ?_) (fun h40 => ?_)
 ·skip
  replace h40 := of_decide_eq_true h40
  have q := p0.rule (i := i) (by omega)
  have qc := q.1
  have qk := q.cell
  have qr := q.2.1
  have bn1 := q.2.2.2.2.1
  have bn2 := q.2.2.2.2.2.2.2.1
  have bn3 := q.2.2.2.2.2.2.2.2.1
  have ln1 := bn1.len
  have ln2 := bn2.len
  have ln3 := bn3.len
  have p10 := p2.bd (i := i) (by omega)
  have qn := q.2.2.2.1
  have ml := meltsL_len s counts s.qf.length i
  refine xh (t_n (qm (xu (qm (qy ?_)))))
  refine sp (.int .i64 i) ?_
  obtain ⟨b41, o42, rfl⟩ := H.addr 6 rfl (by omega)
  refine sw (xJ i Tryz.underlying22 ti2 rfl rfl (by omega) (by omega) ?_)
  refine sw (qE (.int .i64 (counts[i]!)) Tryz.isAgg2 rfl (H.vP 6 rfl i (by omega) (by omega)) ?_)
  refine sps [.int .i64 i, .int .i64 (counts[i]!)] ?_
  refine qw (t_n (qm (qy ?_)))
  refine sw (qM b1 (0) 2 Tryz.underlying36 rfl rfl Tryz.sizeOf34 rfl ?_)
  refine sw (qE (.slice qF s.qg.length qC) Tryz.isAgg34 rfl (H.cell 4 rfl rfl) ?_)
  refine sp (.int .i64 i) ?_
  obtain ⟨b44, o45, rfl⟩ := H.addr 2 rfl (by omega)
  obtain ⟨Xc, Xb, Fe47Need, XW, XU, Fe47Have, XV, XT, Fe47Lack, QN, QK, Fe47Here, QH, QF, Fe47Out, QA, Qz, Fe47Into, H⟩ := H.yE 2 rfl i i (by omega) (by omega) (by omega)
  refine sw (xJ i Tryz.underlying34 ti110 rfl rfl (by omega) (by omega) ?_)
  refine sw (zi [.int .i64 ((s.qg[i]!).qA), .int .i64 ((s.qg[i]!).xZ), .slice Xc (((s.qg[i]!).qW).length) Xb, .slice XW (((s.qg[i]!).xg).length) XU, .slice XV (((s.qg[i]!).xk).length) XT, .slice QN (((s.qg[i]!).xw).length) QK, .slice QH (((s.qg[i]!).zf).length) QF, .slice QA (((s.qg[i]!).qB).length) Qz, .bool ((s.qg[i]!).xP)] Tryz.isAgg110 Tryz.sizeOf110 rfl (qG (H.get 6 rfl) 0 9) ?_)
  refine sw (zL H ti110 [.int .i64 0, .int .i64 0, .slice none 0 0, .slice none 0 0, .slice none 0 0, .slice none 0 0, .slice none 0 0, .slice none 0 0, .bool false] fun b48 w49 H => ?_)
  refine sw (zn H 0 [.int .i64 ((s.qg[i]!).qA), .int .i64 ((s.qg[i]!).xZ), .slice Xc (((s.qg[i]!).qW).length) Xb, .slice XW (((s.qg[i]!).xg).length) XU, .slice XV (((s.qg[i]!).xk).length) XT, .slice QN (((s.qg[i]!).xw).length) QK, .slice QH (((s.qg[i]!).zf).length) QF, .slice QA (((s.qg[i]!).qB).length) Qz, .bool ((s.qg[i]!).xP)] Tryz.sizeOf110 fun w50 H => ?_)
  try dsimp only [List.set] at H
  refine qw (t_n (qm ?_))
  refine Qa rfl H [0, 1, 3, 4, 5] fun H => ?_
  have S := H.Qc [0, 1, 3, 4, 5] [0, 1, 2, 3, 4, 5, 6, 7, 8, 9, 10, 11, 12, 13]
  refine rtp 0 (.slice a8 (t.qx.length + 1) c9) S ?_
  refine rt 1 (pp b48 (0 + 0)) (xE b48 (0) 0 Tryz.underlying110 rfl rfl Tryz.sizeOf2 rfl) S ?_
  refine rt 2 (.int .i64 ((s.qg[i]!).qA)) (xm Tryz.isAgg2 rfl (fun _ h => h.cell 0 rfl rfl)) S ?_
  refine rtp 3 (.slice a8 (t.qx.length + 1) c9) S ?_
  refine rt 4 (pp b48 (0 + 0)) (xE b48 (0) 0 Tryz.underlying110 rfl rfl Tryz.sizeOf2 rfl) S ?_
  refine rt 5 (.int .i64 ((s.qg[i]!).qA)) (xm Tryz.isAgg2 rfl (fun _ h => h.cell 0 rfl rfl)) S ?_
  obtain ⟨b52, rfl⟩ := H.Vr 2 rfl (by omega)
  have S := H.Qc [0, 1, 3, 4, 5] [0, 1, 2, 3, 4, 5, 6, 7, 8, 9, 10, 11, 12, 13]
  refine rt 6 (pp b52 (0 + ((s.qg[i]!).qA : Int).toNat * 1)) (xN b52 (0) (t.qx.length + 1) c9 ((s.qg[i]!).qA) Tryz.underlying27 ti22 rfl rfl (by omega) (by omega)) S ?_
  refine rt 8 (pp b48 (0 + 2)) (xE b48 (0) 2 Tryz.underlying110 rfl rfl Tryz.sizeOf22 rfl) S ?_
  refine rt 9 (.slice Xc (((s.qg[i]!).qW).length) Xb) (xm Tryz.isAgg22 rfl (fun _ h => h.cell 0 rfl rfl)) S ?_
  refine rtp 10 (.int .i64 (counts[i]!)) S ?_
  refine rt 11 (.int .i64 (-(counts[i]!))) (y_neg (counts[i]!) rfl (by omega)) S ?_
  refine xB [7] (by kernel_rfl) (by simp) (zh rfl ?_ xC)
  obtain ⟨a53, c54, G55, s56, h57, H⟩ := H.jq 2 rfl 7 rfl (iv := (s.qg[i]!).qA) (((s.qg[i]!).qA).toNat) (by omega) (by omega)
  refine qE (.slice a53 ((bags[((s.qg[i]!).qA).toNat]!).length) c54) Tryz.isAgg22 rfl (h57) ?_
  refine ⟨H.pick [0, 1, 3, 4, 5] [1, 2, 3, 4, 5, 6, 7, 8, 9, 10, 11, 12, 13, 14], ?_⟩
  refine xB [12] (by kernel_rfl) (by simp) (zh rfl ?_ xC)
  obtain ⟨u1, u2⟩ := E_bags.sh.row (c := ((s.qg[i]!).qA).toNat) (by omega) p8 (by omega)
  have u4 := (by first | exact bn1.jU (by omega) | exact bn2.jU (by omega) | exact bn3.jU (by omega) | exact bn4.jU (by omega) : SmallT ((s.qg[i]!).qW) (-(counts[i]!)))
  have sz58 := H.base.size
  refine xf #[.slice a53 ((bags[((s.qg[i]!).qA).toNat]!).length) c54, .slice Xc (((s.qg[i]!).qW).length) Xb, .int .i64 (-(counts[i]!))] rfl rfl Tryz.call100 (plus_ok w50.drew (bags[((s.qg[i]!).qA).toNat]!) ((s.qg[i]!).qW) (-(counts[i]!)) a53 c54 G55 Xc Xb Fe47Need (H.get 0 rfl).1 (H.get 1 rfl).1 (by first | assumption | omega) (by first | assumption | omega) (by first | assumption | omega)) ?_
  rintro v63 w61 r63 x62
  replace H := H.zF x62 r63
  obtain ⟨a64, c65, rfl, hc66, hm67⟩ := H.jP 0 rfl
  refine ⟨H.pick [1, 2, 4, 5, 6] [1, 2, 3, 4, 5, 6, 7, 8, 9, 10, 11, 12, 13, 14], ?_⟩
  refine rt 13 (pp b52 (0 + ((s.qg[i]!).qA : Int).toNat * 1)) (xN b52 (0) (t.qx.length + 1) c9 ((s.qg[i]!).qA) Tryz.underlying27 ti22 rfl rfl (by omega) (by omega)) (H.pick [1, 2, 4, 5, 6] [1, 2, 3, 4, 5, 6, 7, 8, 9, 10, 11, 12, 13, 14]) ?_
  refine xB [14] (by kernel_rfl) (by simp) (zh rfl ?_ xC)
  obtain ⟨G69, N, hn70, H⟩ := H.yh 0 rfl N (H.XF [])
  try dsimp only [List.set] at H
  refine jh false H 3 rfl 9 rfl (.slice a64 ((jV (bags[((s.qg[i]!).qA).toNat]!) ((s.qg[i]!).qW) (-(counts[i]!))).length) c65) 0 rfl rfl Tryz.sizeOf22 rfl rfl (i := (((s.qg[i]!).qA).toNat)) (by omega) (by omega) (by simp) fun w68 xs71 F72 hs73 H => ?_
  try dsimp only [List.set] at H
  refine ⟨H.pick [1, 2, 4, 5, 6] [3, 4, 5, 6, 7, 8, 9, 10, 11, 12, 13, 14, 15, 16], ?_⟩
  refine xO (by kernel_rfl) (t_n ?_)
  refine qm (qy ?_)
  refine sw (zi [.int .i64 s.qI, .slice qp s.qf.length qo, .slice (aa b44 o45) s.qg.length qC] Tryz.isAgg36 Tryz.sizeOf36 rfl (qG (H.cells 6 rfl) 0 3) ?_)
  refine sw (zi [.slice qN t.qh.length qH, .slice xG t.qx.length xy, .slice qL t.ql.length qK] Tryz.isAgg38 Tryz.sizeOf38 rfl (qG (H.cells 5 rfl) 0 3) ?_)
  refine sp (.slice (aa b52 0) (t.qx.length + 1) c9) ?_
  refine sw (zi [.int .i64 ((s.qg[i]!).qA), .int .i64 ((s.qg[i]!).xZ), .slice Xc (((s.qg[i]!).qW).length) Xb, .slice XW (((s.qg[i]!).xg).length) XU, .slice XV (((s.qg[i]!).xk).length) XT, .slice QN (((s.qg[i]!).xw).length) QK, .slice QH (((s.qg[i]!).zf).length) QF, .slice QA (((s.qg[i]!).qB).length) Qz, .bool ((s.qg[i]!).xP)] Tryz.isAgg110 Tryz.sizeOf110 rfl (qG (H.cells 1 rfl) 0 9) ?_)
  refine sp (.int .i64 (counts[i]!)) ?_
  obtain ⟨bg74, e_bg74⟩ : ∃ z, z = (bags.set (((s.qg[i]!).qA).toNat) (jV (bags[((s.qg[i]!).qA).toNat]!) ((s.qg[i]!).qW) (-(counts[i]!)))) := ⟨_, rfl⟩
  rw [← e_bg74] at H
  have E_bg74 := Ent.add (D := 1000000) E_bags e_bg74 (by omega) (by first | exact bn1.mul (by omega) | exact bn2.mul (by omega) | exact bn3.mul (by omega) | exact bn4.mul (by omega)) (by omega)
  have z_bg74 := E_bg74.sh.1
  have E_cur := E_bg74
  refine sw (Qd #[.agg #[.int .i64 s.qI, .slice qp s.qf.length qo, .slice (aa b44 o45) s.qg.length qC], .agg #[.slice qN t.qh.length qH, .slice xG t.qx.length xy, .slice qL t.ql.length qK], .slice (aa b52 0) (t.qx.length + 1) c9, .agg #[.int .i64 ((s.qg[i]!).qA), .int .i64 ((s.qg[i]!).xZ), .slice Xc (((s.qg[i]!).qW).length) Xb, .slice XW (((s.qg[i]!).xg).length) XU, .slice XV (((s.qg[i]!).xk).length) XT, .slice QN (((s.qg[i]!).xw).length) QK, .slice QH (((s.qg[i]!).zf).length) QF, .slice QA (((s.qg[i]!).qB).length) Qz, .bool ((s.qg[i]!).xP)], .int .i64 (counts[i]!)] rfl rfl Tryz.call97 ?_)
  refine enter (n := 53) Tryz.func97 rfl Tryz.ntmps97 (Nat.le_of_ble_eq_true rfl) ?_
  refine qm (qy ?_)
  refine sw (jW H [.int .i64 s.qI, .slice qp s.qf.length qo, .slice (aa b44 o45) s.qg.length qC] fun b75 w76 H => ?_)
  refine sw (jW H [.slice qN t.qh.length qH, .slice xG t.qx.length xy, .slice qL t.ql.length qK] fun b77 w78 H => ?_)
  refine sw (jW H [.slice (aa b52 0) (t.qx.length + 1) c9] fun b79 w80 H => ?_)
  refine sw (jW H [.int .i64 ((s.qg[i]!).qA), .int .i64 ((s.qg[i]!).xZ), .slice Xc (((s.qg[i]!).qW).length) Xb, .slice XW (((s.qg[i]!).xg).length) XU, .slice XV (((s.qg[i]!).xk).length) XT, .slice QN (((s.qg[i]!).xw).length) QK, .slice QH (((s.qg[i]!).zf).length) QF, .slice QA (((s.qg[i]!).qB).length) Qz, .bool ((s.qg[i]!).xP)] fun b81 w82 H => ?_)
  refine sw (jW H [.int .i64 (counts[i]!)] fun b83 w84 H => ?_)
  refine qw (t_n (qm (qy ?_)))
  refine sps [.func (.func 143) #[] #[pp b79 0, pp b83 0], .func (.func 143) #[] #[pp b79 0, pp b83 0]] ?_
  refine qw (t_n (qm (qy ?_)))
  refine sp (.func (.func 143) #[] #[pp b79 0, pp b83 0]) ?_
  refine sw (qM b81 (0) 0 Tryz.underlying110 rfl rfl Tryz.sizeOf2 rfl ?_)
  refine sw (qE (.int .i64 ((s.qg[i]!).qA)) Tryz.isAgg2 rfl (H.cell 1 rfl rfl) ?_)
  refine sw (qM b81 (0) 5 Tryz.underlying110 rfl rfl Tryz.sizeOf22 rfl ?_)
  refine sw (qE (.slice QN (((s.qg[i]!).xw).length) QK) Tryz.isAgg22 rfl (H.cell 1 rfl rfl) ?_)
  refine sw (Qd #[.int .i64 ((s.qg[i]!).qA), .slice QN (((s.qg[i]!).xw).length) QK, pp b79 0, pp b83 0] rfl rfl Tryz.call143 ?_)
  refine enter (n := 16) Tryz.func143 rfl Tryz.ntmps143 (Nat.le_of_ble_eq_true rfl) ?_
  refine Qa rfl H [0, 1, 2, 3, 4, 5, 6, 7, 9, 10, 11] fun H => ?_
  have S := H.Qc [0, 1, 2, 3, 4, 5, 6, 7, 9, 10, 11] [0, 1, 2, 3, 4, 5, 6, 7, 8, 9, 10, 11, 12, 13, 14, 15, 16]
  refine rt 0 (.slice (aa b52 0) (t.qx.length + 1) c9) (xm Tryz.isAgg27 rfl (fun _ h => h.cell 2 rfl rfl)) S ?_
  refine rtp 1 (.int .i64 ((s.qg[i]!).qA)) S ?_
  refine rt 2 (.slice (aa b52 0) (t.qx.length + 1) c9) (xm Tryz.isAgg27 rfl (fun _ h => h.cell 2 rfl rfl)) S ?_
  refine rtp 3 (.int .i64 ((s.qg[i]!).qA)) S ?_
  refine rt 4 (pp b52 (0 + ((s.qg[i]!).qA : Int).toNat * 1)) (xN b52 (0) (t.qx.length + 1) c9 ((s.qg[i]!).qA) Tryz.underlying27 ti22 rfl rfl (by omega) (by omega)) S ?_
  refine rtp 6 (.slice QN (((s.qg[i]!).xw).length) QK) S ?_
  refine rt 7 (.int .i64 (counts[i]!)) (xm Tryz.isAgg2 rfl (fun _ h => h.cell 0 rfl rfl)) S ?_
  refine xB [5] (by kernel_rfl) (by simp) (zh rfl ?_ xC)
  obtain ⟨a86, c87, G88, s89, h90, H⟩ := H.jq 8 rfl 0 rfl (iv := (s.qg[i]!).qA) (((s.qg[i]!).qA).toNat) (by omega) (by omega)
  refine qE (.slice a86 ((bg74[((s.qg[i]!).qA).toNat]!).length) c87) Tryz.isAgg22 rfl (h90) ?_
  refine ⟨H.pick [0, 1, 2, 3, 4, 5, 6, 7, 9, 10, 11] [1, 2, 3, 4, 5, 6, 7, 8, 9, 10, 11, 12, 13, 14, 15, 16, 17], ?_⟩
  refine xB [8] (by kernel_rfl) (by simp) (zh rfl ?_ xC)
  obtain ⟨u1, u2⟩ := E_bg74.sh.row (c := ((s.qg[i]!).qA).toNat) (by omega) p8 (by omega)
  have u4 := (by first | exact bn1.jU (by omega) | exact bn2.jU (by omega) | exact bn3.jU (by omega) | exact bn4.jU (by omega) : SmallT ((s.qg[i]!).xw) (counts[i]!))
  have sz91 := H.base.size
  have lt92 := H.ltN (L := [G69]) [2]
  refine xf #[.slice a86 ((bg74[((s.qg[i]!).qA).toNat]!).length) c87, .slice QN (((s.qg[i]!).xw).length) QK, .int .i64 (counts[i]!)] rfl rfl Tryz.call100 (plus_ok w84.drew (bg74[((s.qg[i]!).qA).toNat]!) ((s.qg[i]!).xw) (counts[i]!) a86 c87 G88 QN QK Fe47Here (H.get 0 rfl).1 (H.get 7 rfl).1 (by first | assumption | omega) (by first | assumption | omega) (by first | assumption | omega)) ?_
  rintro v96 w94 r96 x95
  replace H := H.zF x95 r96
  obtain ⟨a97, c98, rfl, hc99, hm100⟩ := H.jP 0 rfl
  refine ⟨H.pick [1, 2, 3, 4, 5, 6, 7, 8, 10, 11, 12] [1, 2, 3, 4, 5, 6, 7, 8, 9, 10, 11, 12, 13, 14, 15, 16, 17], ?_⟩
  refine rt 9 (pp b52 (0 + ((s.qg[i]!).qA : Int).toNat * 1)) (xN b52 (0) (t.qx.length + 1) c9 ((s.qg[i]!).qA) Tryz.underlying27 ti22 rfl rfl (by omega) (by omega)) (H.pick [1, 2, 3, 4, 5, 6, 7, 8, 10, 11, 12] [1, 2, 3, 4, 5, 6, 7, 8, 9, 10, 11, 12, 13, 14, 15, 16, 17]) ?_
  refine xB [10] (by kernel_rfl) (by simp) (zh rfl ?_ xC)
  obtain ⟨G102, N, hn103, H⟩ := H.yh 0 rfl N (H.XF [2])
  try dsimp only [List.set] at H
  refine jh false H 9 rfl 2 rfl (.slice a97 ((jV (bg74[((s.qg[i]!).qA).toNat]!) ((s.qg[i]!).xw) (counts[i]!)).length) c98) 0 rfl rfl Tryz.sizeOf22 rfl rfl (i := (((s.qg[i]!).qA).toNat)) (by omega) (by omega) (by simp) fun w101 xs104 F105 hs106 H => ?_
  try dsimp only [List.set] at H
  refine ⟨H.pick [1, 2, 3, 4, 5, 6, 7, 8, 10, 11, 12] [3, 4, 5, 6, 7, 8, 9, 10, 11, 12, 13, 14, 15, 16, 17, 18, 19], ?_⟩
  refine xO (by kernel_rfl) (?_)
  refine ret0 rfl ⟨_, rfl, ?_⟩
  replace H := H.erases [6, 0]
  dsimp only [Qe, List.eraseIdx] at H
  obtain ⟨bg107, e_bg107⟩ : ∃ z, z = (bg74.set (((s.qg[i]!).qA).toNat) (jV (bg74[((s.qg[i]!).qA).toNat]!) ((s.qg[i]!).xw) (counts[i]!))) := ⟨_, rfl⟩
  rw [← e_bg107] at H
  have E_bg107 := Ent.add (D := 1000000) E_bg74 e_bg107 (by omega) (by first | exact bn1.mul (by omega) | exact bn2.mul (by omega) | exact bn3.mul (by omega) | exact bn4.mul (by omega)) (by omega)
  have z_bg107 := E_bg107.sh.1
  have E_cur := E_bg107
  refine qw (t_n (qm (qm (qy ?_))))
  refine sw (zi [.int .i64 s.qI, .slice qp s.qf.length qo, .slice (aa b44 o45) s.qg.length qC] Tryz.isAgg36 Tryz.sizeOf36 rfl (qG (H.cells 4 rfl) 0 3) ?_)
  refine sw (zi [.slice qN t.qh.length qH, .slice xG t.qx.length xy, .slice qL t.ql.length qK] Tryz.isAgg38 Tryz.sizeOf38 rfl (qG (H.cells 3 rfl) 0 3) ?_)
  refine sw (qM b81 (0) 0 Tryz.underlying110 rfl rfl Tryz.sizeOf2 rfl ?_)
  refine sw (qE (.int .i64 ((s.qg[i]!).qA)) Tryz.isAgg2 rfl (H.cell 1 rfl rfl) ?_)
  have qc' := qc
  refine sw (xf #[.agg #[.int .i64 s.qI, .slice qp s.qf.length qo, .slice (aa b44 o45) s.qg.length qC], .agg #[.slice qN t.qh.length qH, .slice xG t.qx.length xy, .slice qL t.ql.length qK], .int .i64 ((s.qg[i]!).qA)] rfl rfl Tryz.call144 (parentNow_ok w101 s t ((s.qg[i]!).qA) qp qo qO (aa b44 o45) qC xq qN qH xK xG xy zk qL qK xH (H.get 14 rfl).1 (H.get 15 rfl).1 (H.get 16 rfl).1 (H.get 17 rfl).1 (H.get 18 rfl).1 (by first | assumption | omega) (by first | assumption | omega) (by first | assumption | omega)) ?_)
  rintro _ w109 rfl x110
  replace H := H.ext x110
  have pl := parentNow_lt p15 p1.2.2.1 qc
  refine sp (.int .i64 (qZ s t ((s.qg[i]!).qA))) ?_
  refine qw (t_n (qm (qy ?_)))
  refine sps [.int .i64 (qZ s t ((s.qg[i]!).qA)), .bool (decide ((qZ s t ((s.qg[i]!).qA) : Int) ≥ 0))] ?_
  refine qw (t_n ?_)
  refine qV (decide ((qZ s t ((s.qg[i]!).qA) : Int) ≥ 0)) rfl (fun h111 => ?_) (fun h111 => ?_)
  ·skip
   replace h111 := of_decide_eq_true h111
   have po := outPl_in (r := s.qg[i]!) p15 ‹_›
   refine qy ?_
   refine sps [.func (.func 143) #[] #[pp b79 0, pp b83 0], .int .i64 (qZ s t ((s.qg[i]!).qA))] ?_
   refine sw (qM b81 (0) 6 Tryz.underlying110 rfl rfl Tryz.sizeOf22 rfl ?_)
   refine sw (qE (.slice QH (((s.qg[i]!).zf).length) QF) Tryz.isAgg22 rfl (H.cell 1 rfl rfl) ?_)
   refine sw (Qd #[.int .i64 (qZ s t ((s.qg[i]!).qA)), .slice QH (((s.qg[i]!).zf).length) QF, pp b79 0, pp b83 0] rfl rfl Tryz.call143 ?_)
   refine enter (n := 16) Tryz.func143 rfl Tryz.ntmps143 (Nat.le_of_ble_eq_true rfl) ?_
   refine Qa rfl H [0, 1, 2, 3, 4, 5, 6, 8, 9, 10] fun H => ?_
   have S := H.Qc [0, 1, 2, 3, 4, 5, 6, 8, 9, 10] [0, 1, 2, 3, 4, 5, 6, 7, 8, 9, 10, 11, 12, 13, 14, 15, 16, 17, 18, 19]
   refine rt 0 (.slice (aa b52 0) (t.qx.length + 1) c9) (xm Tryz.isAgg27 rfl (fun _ h => h.cell 2 rfl rfl)) S ?_
   refine rtp 1 (.int .i64 (qZ s t ((s.qg[i]!).qA))) S ?_
   refine rt 2 (.slice (aa b52 0) (t.qx.length + 1) c9) (xm Tryz.isAgg27 rfl (fun _ h => h.cell 2 rfl rfl)) S ?_
   refine rtp 3 (.int .i64 (qZ s t ((s.qg[i]!).qA))) S ?_
   refine rt 4 (pp b52 (0 + (qZ s t ((s.qg[i]!).qA) : Int).toNat * 1)) (xN b52 (0) (t.qx.length + 1) c9 (qZ s t ((s.qg[i]!).qA)) Tryz.underlying27 ti22 rfl rfl (by omega) (by omega)) S ?_
   refine rtp 6 (.slice QH (((s.qg[i]!).zf).length) QF) S ?_
   refine rt 7 (.int .i64 (counts[i]!)) (xm Tryz.isAgg2 rfl (fun _ h => h.cell 0 rfl rfl)) S ?_
   refine xB [5] (by kernel_rfl) (by simp) (zh rfl ?_ xC)
   obtain ⟨a113, c114, G115, s116, h117, H⟩ := H.jq 7 rfl 0 rfl (iv := qZ s t ((s.qg[i]!).qA)) ((qZ s t ((s.qg[i]!).qA)).toNat) (by omega) (by omega)
   refine qE (.slice a113 ((bg107[(qZ s t ((s.qg[i]!).qA)).toNat]!).length) c114) Tryz.isAgg22 rfl (h117) ?_
   refine ⟨H.pick [0, 1, 2, 3, 4, 5, 6, 8, 9, 10] [1, 2, 3, 4, 5, 6, 7, 8, 9, 10, 11, 12, 13, 14, 15, 16, 17, 18, 19, 20], ?_⟩
   refine xB [8] (by kernel_rfl) (by simp) (zh rfl ?_ xC)
   obtain ⟨u1, u2⟩ := E_bg107.sh.row (c := (qZ s t ((s.qg[i]!).qA)).toNat) (by omega) p8 (by omega)
   have u4 := (by first | exact bn1.jU (by omega) | exact bn2.jU (by omega) | exact bn3.jU (by omega) | exact bn4.jU (by omega) : SmallT ((s.qg[i]!).zf) (counts[i]!))
   have sz118 := H.base.size
   have lt119 := H.ltN (L := [G102, G69]) [2, 5]
   refine xf #[.slice a113 ((bg107[(qZ s t ((s.qg[i]!).qA)).toNat]!).length) c114, .slice QH (((s.qg[i]!).zf).length) QF, .int .i64 (counts[i]!)] rfl rfl Tryz.call100 (plus_ok w109.drew (bg107[(qZ s t ((s.qg[i]!).qA)).toNat]!) ((s.qg[i]!).zf) (counts[i]!) a113 c114 G115 QH QF Fe47Out (H.get 0 rfl).1 (H.get 11 rfl).1 (by first | assumption | omega) (by first | assumption | omega) (by first | assumption | omega)) ?_
   rintro v123 w121 r123 x122
   replace H := H.zF x122 r123
   obtain ⟨a124, c125, rfl, hc126, hm127⟩ := H.jP 0 rfl
   refine ⟨H.pick [1, 2, 3, 4, 5, 6, 7, 9, 10, 11] [1, 2, 3, 4, 5, 6, 7, 8, 9, 10, 11, 12, 13, 14, 15, 16, 17, 18, 19, 20], ?_⟩
   refine rt 9 (pp b52 (0 + (qZ s t ((s.qg[i]!).qA) : Int).toNat * 1)) (xN b52 (0) (t.qx.length + 1) c9 (qZ s t ((s.qg[i]!).qA)) Tryz.underlying27 ti22 rfl rfl (by omega) (by omega)) (H.pick [1, 2, 3, 4, 5, 6, 7, 9, 10, 11] [1, 2, 3, 4, 5, 6, 7, 8, 9, 10, 11, 12, 13, 14, 15, 16, 17, 18, 19, 20]) ?_
   refine xB [10] (by kernel_rfl) (by simp) (zh rfl ?_ xC)
   obtain ⟨G129, N, hn130, H⟩ := H.yh 0 rfl N (H.XF [2, 5])
   try dsimp only [List.set] at H
   refine jh false H 8 rfl 2 rfl (.slice a124 ((jV (bg107[(qZ s t ((s.qg[i]!).qA)).toNat]!) ((s.qg[i]!).zf) (counts[i]!)).length) c125) 0 rfl rfl Tryz.sizeOf22 rfl rfl (i := ((qZ s t ((s.qg[i]!).qA)).toNat)) (by omega) (by omega) (by simp) fun w128 xs131 F132 hs133 H => ?_
   try dsimp only [List.set] at H
   refine ⟨H.pick [1, 2, 3, 4, 5, 6, 7, 9, 10, 11] [3, 4, 5, 6, 7, 8, 9, 10, 11, 12, 13, 14, 15, 16, 17, 18, 19, 20, 21, 22], ?_⟩
   refine xO (by kernel_rfl) (?_)
   refine ret0 rfl ⟨_, rfl, ?_⟩
   replace H := H.erases [0]
   dsimp only [Qe, List.eraseIdx] at H
   obtain ⟨bg134, e_bg134⟩ : ∃ z, z = (bg107.set ((qZ s t ((s.qg[i]!).qA)).toNat) (jV (bg107[(qZ s t ((s.qg[i]!).qA)).toNat]!) ((s.qg[i]!).zf) (counts[i]!))) := ⟨_, rfl⟩
   rw [← e_bg134] at H
   have E_bg134 := Ent.add (D := 1000000) E_bg107 e_bg134 (by omega) (by first | exact bn1.mul (by omega) | exact bn2.mul (by omega) | exact bn3.mul (by omega) | exact bn4.mul (by omega)) (by omega)
   have z_bg134 := E_bg134.sh.1
   have E_cur := E_bg134
   refine qw (t_n (qm (qy ?_)))
   refine sw (qM b81 (0) 7 Tryz.underlying110 rfl rfl Tryz.sizeOf108 rfl ?_)
   refine sw (qE (.slice QA (((s.qg[i]!).qB).length) Qz) Tryz.isAgg108 rfl (H.cell 1 rfl rfl) ?_)
   refine sw (zD Tryz.underlying108 QA (((s.qg[i]!).qB).length) Qz rfl ?_)
   refine sp (.int .i64 0) ?_
   refine qw (t_n (xu ?_))
   refine zG (fun m' ρ w135 => ∃ (junk : Env) (k : Nat) (bags_1 : List (List Int)) (XM : List Value) (F_bags_1 : List Nat), ρ = upd (upd (upd (upd junk 10 (.func (.func 143) #[] #[pp b79 0, pp b83 0])) 40 (.slice QA (((s.qg[i]!).qB).length) Qz)) 41 (.int .i64 (((s.qg[i]!).qB).length))) 42 (.int .i64 k) ∧ ((k : Int) ≤ (((s.qg[i]!).qB).length)) ∧ (Ent (s.qf.length + 1) (QR s) (fun p q => base0 s t p q + allS s t counts i p q + at' p (s.qg[i]!).qA.toNat (-(counts[i]!) * ((s.qg[i]!).qW)[q]!) + at' p (s.qg[i]!).qA.toNat ((counts[i]!) * ((s.qg[i]!).xw)[q]!) + at' p (outPl s t (s.qg[i]!)) ((counts[i]!) * ((s.qg[i]!).zf)[q]!) + intoF (s.qg[i]!) (counts[i]!) k p q) (23000000 + 6000000 * i + 1000000 * k) bags_1) ∧ (bags_1.length = s.qf.length + 1) ∧ m' = ((((s.qg[i]!).qB).length) - (k : Int)).toNat ∧ Fresh w.heap.size [G69] ∧ St w w135 [.box b83 [.int .i64 (counts[i]!)] 2, .box b81 [.int .i64 ((s.qg[i]!).qA), .int .i64 ((s.qg[i]!).xZ), .slice Xc (((s.qg[i]!).qW).length) Xb, .slice XW (((s.qg[i]!).xg).length) XU, .slice XV (((s.qg[i]!).xk).length) XT, .slice QN (((s.qg[i]!).xw).length) QK, .slice QH (((s.qg[i]!).zf).length) QF, .slice QA (((s.qg[i]!).qB).length) Qz, .bool ((s.qg[i]!).xP)] 110, .box b79 [.slice (aa b52 0) (t.qx.length + 1) c9] 27, .box b77 [.slice qN t.qh.length qH, .slice xG t.qx.length xy, .slice qL t.ql.length qK] 38, .box b75 [.int .i64 s.qI, .slice qp s.qf.length qo, .slice (aa b44 o45) s.qg.length qC] 36, .box b48 [.int .i64 ((s.qg[i]!).qA), .int .i64 ((s.qg[i]!).xZ), .slice Xc (((s.qg[i]!).qW).length) Xb, .slice XW (((s.qg[i]!).xg).length) XU, .slice XV (((s.qg[i]!).xk).length) XT, .slice QN (((s.qg[i]!).xw).length) QK, .slice QH (((s.qg[i]!).zf).length) QF, .slice QA (((s.qg[i]!).qB).length) Qz, .bool ((s.qg[i]!).xP)] 110, .row (.slice (aa b36 0) s.qf.length s.qf.length) 4 1 s.qf.length ((yl s counts s.qf.length i).map (Value.bool)), .row (.slice (aa b52 0) (t.qx.length + 1) c9) 22 1 (t.qx.length + 1) XM, .box b5 [.slice none 0 0, .slice none 0 0, .slice none 0 0] 38, .box b3 [.slice qN t.qh.length qH, .slice xG t.qx.length xy, .slice qL t.ql.length qK] 38, .box b1 [.int .i64 s.qI, .slice qp s.qf.length qo, .slice (aa b44 o45) s.qg.length qC] 36] [vK false F_bags_1 XM bags_1, isF true G69 (.slice a64 ((jV (bags[((s.qg[i]!).qA).toNat]!) ((s.qg[i]!).qW) (-(counts[i]!))).length) c65) (jV (bags[((s.qg[i]!).qA).toNat]!) ((s.qg[i]!).qW) (-(counts[i]!))), isF false G55 (.slice a53 ((bags[((s.qg[i]!).qA).toNat]!).length) c54) (bags[((s.qg[i]!).qA).toNat]!), isF false Fe47Need (.slice Xc (((s.qg[i]!).qW).length) Xb) ((s.qg[i]!).qW), isF false Fe47Have (.slice XW (((s.qg[i]!).xg).length) XU) ((s.qg[i]!).xg), isF false Fe47Lack (.slice XV (((s.qg[i]!).xk).length) XT) ((s.qg[i]!).xk), isF false Fe47Here (.slice QN (((s.qg[i]!).xw).length) QK) ((s.qg[i]!).xw), isF false Fe47Out (.slice QH (((s.qg[i]!).zf).length) QF) ((s.qg[i]!).zf), isF false Fe47Into (.slice QA (((s.qg[i]!).qB).length) Qz) ((s.qg[i]!).qB), atF b44 (o45 + (i : Int).toNat * 9) [.int .i64 ((s.qg[i]!).qA), .int .i64 ((s.qg[i]!).xZ), .slice Xc (((s.qg[i]!).qW).length) Xb, .slice XW (((s.qg[i]!).xg).length) XU, .slice XV (((s.qg[i]!).xk).length) XT, .slice QN (((s.qg[i]!).xw).length) QK, .slice QH (((s.qg[i]!).zf).length) QF, .slice QA (((s.qg[i]!).qB).length) Qz, .bool ((s.qg[i]!).xP)], isF false qO (.slice qp s.qf.length qo) s.qf, isF false xq (.slice (aa b44 o45) s.qg.length qC) s.qg, isF false xK (.slice qN t.qh.length qH) t.qh, isF false zk (.slice xG t.qx.length xy) t.qx, isF false xH (.slice qL t.ql.length qK) t.ql, isF false Fcounts (.slice (aa b41 o42) counts.length ccounts) counts]) (((((s.qg[i]!).qB).length) - (0 : Int)).toNat) ⟨_, 0, bg134, xs131, F132, (by exact qj (qj (qj (qj (rfl) rfl) rfl) rfl) rfl), (by omega), (by exact E_cur.to (fun p q => by rw [po]; simp only [intoF]; first | omega | (simp only [Int.toNat_natCast]; omega)) (by omega)), (by omega), rfl, (N.pick [2]), H.pick [0, 1, 2, 3, 4, 5, 6, 7, 8, 9, 10] [0, 7, 8, 9, 10, 11, 12, 13, 14, 15, 17, 18, 19, 20, 21, 22]⟩ ?_
   clear H N
   rintro m' ρ w136 ⟨junk, k, bags_1, XM, F_bags_1, rfl, i0, E_bags_1, z_bags_1, rfl, N, H⟩
   have hn_bags := H.zB (α := List Int) 7 rfl 0 rfl (by decide)
   refine qm (qy ?_)
   refine sp (.bool (decide ((k : Int) < (((s.qg[i]!).qB).length)))) ?_
   refine qw (t_n (qm ?_))
   refine qV (decide ((k : Int) < (((s.qg[i]!).qB).length))) rfl (fun h137 => ?_) (fun h137 => ?_)
   ·skip
    replace h137 := of_decide_eq_true h137
    have qi := q.2.2.2.2.2.2.2.2.2.2 k (by omega)
    have qi1 := qi.1
    have bn4 := qi.2.2.1
    have ln4 := bn4.len
    refine xh (t_n (qm (xu (qm (qy ?_)))))
    obtain ⟨b138, o139, rfl⟩ := H.addr 8 rfl (by omega)
    obtain ⟨ae141Bag, ce141Bag, Fe141Bag, H⟩ := H.jl 8 rfl k k (by omega) (by omega) (by omega)
    refine sw (xJ k Tryz.underlying108 ti115 rfl rfl (by omega) (by omega) ?_)
    refine sw (zi [.int .i64 ((((s.qg[i]!).qB)[k]!).qA), .slice ae141Bag (((((s.qg[i]!).qB)[k]!).zW).length) ce141Bag] Tryz.isAgg115 Tryz.sizeOf115 rfl (qG (H.get 1 rfl) 0 2) ?_)
    refine sw (zL H ti115 [.int .i64 0, .slice none 0 0] fun b142 w143 H => ?_)
    refine sw (zn H 0 [.int .i64 ((((s.qg[i]!).qB)[k]!).qA), .slice ae141Bag (((((s.qg[i]!).qB)[k]!).zW).length) ce141Bag] Tryz.sizeOf115 fun w144 H => ?_)
    try dsimp only [List.set] at H
    refine qw (t_n (qy ?_))
    refine sp (.func (.func 143) #[] #[pp b79 0, pp b83 0]) ?_
    refine sw (qM b142 (0) 0 Tryz.underlying115 rfl rfl Tryz.sizeOf2 rfl ?_)
    refine sw (qE (.int .i64 ((((s.qg[i]!).qB)[k]!).qA)) Tryz.isAgg2 rfl (H.cell 0 rfl rfl) ?_)
    refine sw (qM b142 (0) 1 Tryz.underlying115 rfl rfl Tryz.sizeOf22 rfl ?_)
    refine sw (qE (.slice ae141Bag (((((s.qg[i]!).qB)[k]!).zW).length) ce141Bag) Tryz.isAgg22 rfl (H.cell 0 rfl rfl) ?_)
    refine sw (Qd #[.int .i64 ((((s.qg[i]!).qB)[k]!).qA), .slice ae141Bag (((((s.qg[i]!).qB)[k]!).zW).length) ce141Bag, pp b79 0, pp b83 0] rfl rfl Tryz.call143 ?_)
    refine enter (n := 16) Tryz.func143 rfl Tryz.ntmps143 (Nat.le_of_ble_eq_true rfl) ?_
    refine Qa rfl H [0, 1, 2, 3, 4, 5, 6, 7, 9, 10, 11] fun H => ?_
    have S := H.Qc [0, 1, 2, 3, 4, 5, 6, 7, 9, 10, 11] [0, 1, 2, 3, 4, 5, 6, 7, 8, 9, 10, 11, 12, 13, 14, 15, 16, 17]
    refine rt 0 (.slice (aa b52 0) (t.qx.length + 1) c9) (xm Tryz.isAgg27 rfl (fun _ h => h.cell 3 rfl rfl)) S ?_
    refine rtp 1 (.int .i64 ((((s.qg[i]!).qB)[k]!).qA)) S ?_
    refine rt 2 (.slice (aa b52 0) (t.qx.length + 1) c9) (xm Tryz.isAgg27 rfl (fun _ h => h.cell 3 rfl rfl)) S ?_
    refine rtp 3 (.int .i64 ((((s.qg[i]!).qB)[k]!).qA)) S ?_
    refine rt 4 (pp b52 (0 + ((((s.qg[i]!).qB)[k]!).qA : Int).toNat * 1)) (xN b52 (0) (t.qx.length + 1) c9 ((((s.qg[i]!).qB)[k]!).qA) Tryz.underlying27 ti22 rfl rfl (by omega) (by omega)) S ?_
    refine rtp 6 (.slice ae141Bag (((((s.qg[i]!).qB)[k]!).zW).length) ce141Bag) S ?_
    refine rt 7 (.int .i64 (counts[i]!)) (xm Tryz.isAgg2 rfl (fun _ h => h.cell 1 rfl rfl)) S ?_
    refine xB [5] (by kernel_rfl) (by simp) (zh rfl ?_ xC)
    obtain ⟨a146, c147, G148, s149, h150, H⟩ := H.jq 8 rfl 2 rfl (iv := (((s.qg[i]!).qB)[k]!).qA) (((((s.qg[i]!).qB)[k]!).qA).toNat) (by omega) (by omega)
    refine qE (.slice a146 ((bags_1[((((s.qg[i]!).qB)[k]!).qA).toNat]!).length) c147) Tryz.isAgg22 rfl (h150) ?_
    refine ⟨H.pick [0, 1, 2, 3, 4, 5, 6, 7, 9, 10, 11] [1, 2, 3, 4, 5, 6, 7, 8, 9, 10, 11, 12, 13, 14, 15, 16, 17, 18], ?_⟩
    refine xB [8] (by kernel_rfl) (by simp) (zh rfl ?_ xC)
    obtain ⟨u1, u2⟩ := E_bags_1.sh.row (c := ((((s.qg[i]!).qB)[k]!).qA).toNat) (by omega) p8 (by omega)
    have u4 := (by first | exact bn1.jU (by omega) | exact bn2.jU (by omega) | exact bn3.jU (by omega) | exact bn4.jU (by omega) : SmallT ((((s.qg[i]!).qB)[k]!).zW) (counts[i]!))
    have sz151 := H.base.size
    have lt152 := H.ltN (L := [G69]) [4]
    refine xf #[.slice a146 ((bags_1[((((s.qg[i]!).qB)[k]!).qA).toNat]!).length) c147, .slice ae141Bag (((((s.qg[i]!).qB)[k]!).zW).length) ce141Bag, .int .i64 (counts[i]!)] rfl rfl Tryz.call100 (plus_ok w144.drew (bags_1[((((s.qg[i]!).qB)[k]!).qA).toNat]!) ((((s.qg[i]!).qB)[k]!).zW) (counts[i]!) a146 c147 G148 ae141Bag ce141Bag Fe141Bag (H.get 0 rfl).1 (H.get 1 rfl).1 (by first | assumption | omega) (by first | assumption | omega) (by first | assumption | omega)) ?_
    rintro v156 w154 r156 x155
    replace H := H.zF x155 r156
    obtain ⟨a157, c158, rfl, hc159, hm160⟩ := H.jP 0 rfl
    refine ⟨H.pick [1, 2, 3, 4, 5, 6, 7, 8, 10, 11, 12] [1, 2, 3, 4, 5, 6, 7, 8, 9, 10, 11, 12, 13, 14, 15, 16, 17, 18], ?_⟩
    refine rt 9 (pp b52 (0 + ((((s.qg[i]!).qB)[k]!).qA : Int).toNat * 1)) (xN b52 (0) (t.qx.length + 1) c9 ((((s.qg[i]!).qB)[k]!).qA) Tryz.underlying27 ti22 rfl rfl (by omega) (by omega)) (H.pick [1, 2, 3, 4, 5, 6, 7, 8, 10, 11, 12] [1, 2, 3, 4, 5, 6, 7, 8, 9, 10, 11, 12, 13, 14, 15, 16, 17, 18]) ?_
    refine xB [10] (by kernel_rfl) (by simp) (zh rfl ?_ xC)
    obtain ⟨G162, N, hn163, H⟩ := H.yh 0 rfl N (H.XF [4])
    try dsimp only [List.set] at H
    refine jh false H 9 rfl 4 rfl (.slice a157 ((jV (bags_1[((((s.qg[i]!).qB)[k]!).qA).toNat]!) ((((s.qg[i]!).qB)[k]!).zW) (counts[i]!)).length) c158) 0 rfl rfl Tryz.sizeOf22 rfl rfl (i := (((((s.qg[i]!).qB)[k]!).qA).toNat)) (by omega) (by omega) (by simp) fun w161 xs164 F165 hs166 H => ?_
    try dsimp only [List.set] at H
    refine ⟨H.pick [1, 2, 3, 4, 5, 6, 7, 8, 10, 11, 12] [3, 4, 5, 6, 7, 8, 9, 10, 11, 12, 13, 14, 15, 16, 17, 18, 19, 20], ?_⟩
    refine xO (by kernel_rfl) (?_)
    refine ret0 rfl ⟨_, rfl, ?_⟩
    replace H := H.erases [0]
    dsimp only [Qe, List.eraseIdx] at H
    obtain ⟨bg167, e_bg167⟩ : ∃ z, z = (bags_1.set (((((s.qg[i]!).qB)[k]!).qA).toNat) (jV (bags_1[((((s.qg[i]!).qB)[k]!).qA).toNat]!) ((((s.qg[i]!).qB)[k]!).zW) (counts[i]!))) := ⟨_, rfl⟩
    rw [← e_bg167] at H
    have E_bg167 := Ent.add (D := 1000000) E_bags_1 e_bg167 (by omega) (by first | exact bn1.mul (by omega) | exact bn2.mul (by omega) | exact bn3.mul (by omega) | exact bn4.mul (by omega)) (by omega)
    have z_bg167 := E_bg167.sh.1
    have E_cur := E_bg167
    refine qw (b_n (t_n (qy ?_)))
    refine sw (zJ k 1 rfl rfl (by omega) ?_)
    refine sp (.int .i64 (k + 1)) ?_
    refine qw ?_
    refine xF (m' := ((((s.qg[i]!).qB).length) - ((k + 1) : Int)).toNat) (by omega) ⟨_, k + 1, bg167, xs164, F165, (by exact qj (qj (qj (qj (rfl) rfl) rfl) rfl) rfl), ?_, ?_, ?_, rfl, (N.pick [1]), H.pick [1, 2, 3, 4, 5, 6, 7, 8, 9, 10, 11] [0, 6, 7, 8, 9, 10, 11, 12, 13, 14, 15, 16, 17, 18, 19, 20]⟩
    · omega
    · exact E_cur.to (fun p q => by simp only [intoF]; omega) (by omega)
    · omega
   replace h137 := of_decide_eq_false h137
   refine zy (t_x (t_x (b_x ?_)))
   refine ret0 rfl ⟨_, rfl, ?_⟩
   replace H := H.erases [4, 3, 2, 1, 0]
   dsimp only [Qe, List.eraseIdx] at H
   refine qw (t_n ?_)
   refine Qa rfl H [0, 2, 3, 4, 5] fun H => ?_
   have S := H.Qc [0, 2, 3, 4, 5] [0, 1, 2, 3, 4, 5, 6, 7, 8, 9, 10, 11, 12, 13, 14, 15]
   refine rtp 0 (.slice (aa b36 0) s.qf.length s.qf.length) S ?_
   refine rt 1 (pp b48 (0 + 0)) (xE b48 (0) 0 Tryz.underlying110 rfl rfl Tryz.sizeOf2 rfl) S ?_
   refine rt 2 (.int .i64 ((s.qg[i]!).qA)) (xm Tryz.isAgg2 rfl (fun _ h => h.cell 0 rfl rfl)) S ?_
   refine rtp 3 (.slice (aa b36 0) s.qf.length s.qf.length) S ?_
   refine rt 4 (pp b48 (0 + 0)) (xE b48 (0) 0 Tryz.underlying110 rfl rfl Tryz.sizeOf2 rfl) S ?_
   refine rt 5 (.int .i64 ((s.qg[i]!).qA)) (xm Tryz.isAgg2 rfl (fun _ h => h.cell 0 rfl rfl)) S ?_
   refine rt 6 (pp b36 (0 + ((s.qg[i]!).qA : Int).toNat * 1)) (xN b36 (0) s.qf.length s.qf.length ((s.qg[i]!).qA) Tryz.underlying26 ti4 rfl rfl (by omega) (by omega)) S ?_
   refine xB [7] (by kernel_rfl) (by simp) (zh rfl ?_ xC)
   refine qE (.bool ((yl s counts s.qf.length i)[((s.qg[i]!).qA).toNat]!)) Tryz.isAgg4 rfl (H.rowBool 1 rfl (iv := (s.qg[i]!).qA) (i := (((s.qg[i]!).qA).toNat)) (by omega) (by omega)) ?_
   refine ⟨H.pick [0, 2, 3, 4, 5] [0, 1, 2, 3, 4, 5, 6, 7, 8, 9, 10, 11, 12, 13, 14, 15], ?_⟩
   refine rtp 8 (.bool ((yl s counts s.qf.length i)[((s.qg[i]!).qA).toNat]!)) (H.pick [0, 2, 3, 4, 5] [0, 1, 2, 3, 4, 5, 6, 7, 8, 9, 10, 11, 12, 13, 14, 15]) ?_
   cases h169 : ((yl s counts s.qf.length i)[((s.qg[i]!).qA).toNat]!)
   ·skip
    have S := H.Qc [0, 2, 3, 4, 5] [0, 1, 2, 3, 4, 5, 6, 7, 8, 9, 10, 11, 12, 13, 14, 15]
    refine rgp 9 (.int .i64 (counts[i]!)) 66 S ?_
    refine rgp 10 (.bool (decide ((counts[i]! : Int) > 0))) 66 S ?_
    refine rgp 11 (.bool (decide ((counts[i]! : Int) > 0))) 66 S ?_
    cases h170 : (decide ((counts[i]! : Int) > 0))
    ·skip
     replace h170 := of_decide_eq_false h170
     refine zC [12, 13] 2 (H.pick [0, 2, 3, 4, 5] [0, 1, 2, 3, 4, 5, 6, 7, 8, 9, 10, 11, 12, 13, 14, 15]) ?_
     have S := H.Qc [0, 2, 3, 4, 5] [0, 1, 2, 3, 4, 5, 6, 7, 8, 9, 10, 11, 12, 13, 14, 15]
     refine rgp 14 (.bool false) 66 S ?_
     refine rtp 15 (.bool false) S ?_
     refine rt 16 (pp b36 (0 + ((s.qg[i]!).qA : Int).toNat * 1)) (xN b36 (0) s.qf.length s.qf.length ((s.qg[i]!).qA) Tryz.underlying26 ti4 rfl rfl (by omega) (by omega)) S ?_
     refine xB [17] (by kernel_rfl) (by simp) (zh rfl ?_ xC)
     refine QE H 1 rfl false Tryz.sizeOf4 rfl rfl (i := (((s.qg[i]!).qA).toNat)) (by omega) (by omega) fun w171 H => ?_
     try dsimp only [List.set] at H
     refine ⟨H.pick [0, 2, 3, 4, 5] [0, 1, 2, 3, 4, 5, 6, 7, 8, 9, 10, 11, 12, 13, 14, 15], ?_⟩
     refine xO (by kernel_rfl) (b_n (t_n ?_))
     refine qy ?_
     refine sw (zJ i 1 rfl rfl (by omega) ?_)
     refine sp (.int .i64 (i + 1)) ?_
     refine qw ?_
     refine xF (m' := (counts.length - ((i + 1) : Int)).toNat) (by omega) ⟨_, i + 1, ((yl s counts s.qf.length i).set (((s.qg[i]!).qA).toNat) false), bags_1, XM, F_bags_1, (by exact qj (qj (qj (qj (qj (qj (qj (qj (rfl) rfl) rfl) rfl) rfl) rfl) rfl) rfl) rfl), ?_, ?_, ?_, ?_, rfl, (N.pick []), H.pick [1, 2, 3, 4, 5] [0, 10, 11, 12, 13, 14, 15]⟩
     · first | exact meltsL_1 (by omega) (by omega) ‹_› | exact meltsL_2 (by omega) (by omega) ‹_› (by omega) | exact meltsL_3 (by omega) (by omega) ‹_› (by omega)
     · omega
     · exact E_bags_1.to (fun p q => by rw [show k = ((s.qg[i]!).qB).length by omega]; simp only [allS, needF, putF]; omega) (by omega)
     · omega
    replace h170 := of_decide_eq_true h170
    have S := H.Qc [0, 2, 3, 4, 5] [0, 1, 2, 3, 4, 5, 6, 7, 8, 9, 10, 11, 12, 13, 14, 15]
    refine rg 12 (pp b48 (0 + 8)) 69 (xE b48 (0) 8 Tryz.underlying110 rfl rfl Tryz.sizeOf4 rfl) S ?_
    refine rg 13 (.bool ((s.qg[i]!).xP)) 69 (xm Tryz.isAgg4 rfl (fun _ h => h.cell 0 rfl rfl)) S ?_
    refine rgp 14 (.bool ((s.qg[i]!).xP)) 66 S ?_
    refine rtp 15 (.bool ((s.qg[i]!).xP)) S ?_
    refine rt 16 (pp b36 (0 + ((s.qg[i]!).qA : Int).toNat * 1)) (xN b36 (0) s.qf.length s.qf.length ((s.qg[i]!).qA) Tryz.underlying26 ti4 rfl rfl (by omega) (by omega)) S ?_
    refine xB [17] (by kernel_rfl) (by simp) (zh rfl ?_ xC)
    refine QE H 1 rfl ((s.qg[i]!).xP) Tryz.sizeOf4 rfl rfl (i := (((s.qg[i]!).qA).toNat)) (by omega) (by omega) fun w172 H => ?_
    try dsimp only [List.set] at H
    refine ⟨H.pick [0, 2, 3, 4, 5] [0, 1, 2, 3, 4, 5, 6, 7, 8, 9, 10, 11, 12, 13, 14, 15], ?_⟩
    refine xO (by kernel_rfl) (b_n (t_n ?_))
    refine qy ?_
    refine sw (zJ i 1 rfl rfl (by omega) ?_)
    refine sp (.int .i64 (i + 1)) ?_
    refine qw ?_
    refine xF (m' := (counts.length - ((i + 1) : Int)).toNat) (by omega) ⟨_, i + 1, ((yl s counts s.qf.length i).set (((s.qg[i]!).qA).toNat) ((s.qg[i]!).xP)), bags_1, XM, F_bags_1, (by exact qj (qj (qj (qj (qj (qj (qj (qj (rfl) rfl) rfl) rfl) rfl) rfl) rfl) rfl) rfl), ?_, ?_, ?_, ?_, rfl, (N.pick []), H.pick [1, 2, 3, 4, 5] [0, 10, 11, 12, 13, 14, 15]⟩
    · first | exact meltsL_1 (by omega) (by omega) ‹_› | exact meltsL_2 (by omega) (by omega) ‹_› (by omega) | exact meltsL_3 (by omega) (by omega) ‹_› (by omega)
    · omega
    · exact E_bags_1.to (fun p q => by rw [show k = ((s.qg[i]!).qB).length by omega]; simp only [allS, needF, putF]; omega) (by omega)
    · omega
   refine zC [9, 10, 11, 12, 13, 14] 6 (H.pick [0, 2, 3, 4, 5] [0, 1, 2, 3, 4, 5, 6, 7, 8, 9, 10, 11, 12, 13, 14, 15]) ?_
   have S := H.Qc [0, 2, 3, 4, 5] [0, 1, 2, 3, 4, 5, 6, 7, 8, 9, 10, 11, 12, 13, 14, 15]
   refine rtp 15 (.bool true) S ?_
   refine rt 16 (pp b36 (0 + ((s.qg[i]!).qA : Int).toNat * 1)) (xN b36 (0) s.qf.length s.qf.length ((s.qg[i]!).qA) Tryz.underlying26 ti4 rfl rfl (by omega) (by omega)) S ?_
   refine xB [17] (by kernel_rfl) (by simp) (zh rfl ?_ xC)
   refine QE H 1 rfl true Tryz.sizeOf4 rfl rfl (i := (((s.qg[i]!).qA).toNat)) (by omega) (by omega) fun w173 H => ?_
   try dsimp only [List.set] at H
   refine ⟨H.pick [0, 2, 3, 4, 5] [0, 1, 2, 3, 4, 5, 6, 7, 8, 9, 10, 11, 12, 13, 14, 15], ?_⟩
   refine xO (by kernel_rfl) (b_n (t_n ?_))
   refine qy ?_
   refine sw (zJ i 1 rfl rfl (by omega) ?_)
   refine sp (.int .i64 (i + 1)) ?_
   refine qw ?_
   refine xF (m' := (counts.length - ((i + 1) : Int)).toNat) (by omega) ⟨_, i + 1, ((yl s counts s.qf.length i).set (((s.qg[i]!).qA).toNat) true), bags_1, XM, F_bags_1, (by exact qj (qj (qj (qj (qj (qj (qj (qj (rfl) rfl) rfl) rfl) rfl) rfl) rfl) rfl) rfl), ?_, ?_, ?_, ?_, rfl, (N.pick []), H.pick [1, 2, 3, 4, 5] [0, 10, 11, 12, 13, 14, 15]⟩
   · first | exact meltsL_1 (by omega) (by omega) ‹_› | exact meltsL_2 (by omega) (by omega) ‹_› (by omega) | exact meltsL_3 (by omega) (by omega) ‹_› (by omega)
   · omega
   · exact E_bags_1.to (fun p q => by rw [show k = ((s.qg[i]!).qB).length by omega]; simp only [allS, needF, putF]; omega) (by omega)
   · omega
  replace h111 := of_decide_eq_false h111
  have po := outPl_out (r := s.qg[i]!) p15 p1.2.2.1 qc (by omega)
  refine Qa rfl H [0, 1, 2, 3, 4, 5, 6, 8, 9, 10] fun H => ?_
  have S := H.Qc [0, 1, 2, 3, 4, 5, 6, 8, 9, 10] [0, 1, 2, 3, 4, 5, 6, 7, 8, 9, 10, 11, 12, 13, 14, 15, 16, 17, 18, 19]
  refine rtp 0 (.func (.func 143) #[] #[pp b79 0, pp b83 0]) S ?_
  refine rt 1 (.agg #[.int .i64 s.qI, .slice qp s.qf.length qo, .slice (aa b44 o45) s.qg.length qC]) (Qx (cs := [.int .i64 s.qI, .slice qp s.qf.length qo, .slice (aa b44 o45) s.qg.length qC]) Tryz.isAgg36 Tryz.sizeOf36 rfl (fun _ h => qG (h.cells 4 rfl) 0 3)) S ?_
  refine rt 3 (pp b81 (0 + 6)) (xE b81 (0) 6 Tryz.underlying110 rfl rfl Tryz.sizeOf22 rfl) S ?_
  refine rt 4 (.slice QH (((s.qg[i]!).zf).length) QF) (xm Tryz.isAgg22 rfl (fun _ h => h.cell 1 rfl rfl)) S ?_
  refine xB [2] (by kernel_rfl) (by simp) (zh rfl ?_ xC)
  refine xf #[.agg #[.int .i64 s.qI, .slice qp s.qf.length qo, .slice (aa b44 o45) s.qg.length qC]] rfl rfl Tryz.call113 (Vl w109.drew s qp qo qO (aa b44 o45) qC xq (H.get 14 rfl).1 (H.get 15 rfl).1) ?_
  rintro _ w176 rfl x177
  replace H := H.ext x177
  refine ⟨H.pick [0, 1, 2, 3, 4, 5, 6, 8, 9, 10] [0, 1, 2, 3, 4, 5, 6, 7, 8, 9, 10, 11, 12, 13, 14, 15, 16, 17, 18, 19], ?_⟩
  refine xB [5] (by kernel_rfl) (by simp) (zh rfl ?_ xC)
  refine Qd #[.int .i64 s.qf.length, .slice QH (((s.qg[i]!).zf).length) QF, pp b79 0, pp b83 0] rfl rfl Tryz.call143 ?_
  refine enter (n := 16) Tryz.func143 rfl Tryz.ntmps143 (Nat.le_of_ble_eq_true rfl) ?_
  refine Qa rfl H [0, 1, 2, 3, 4, 5, 6, 8, 9, 10] fun H => ?_
  have S := H.Qc [0, 1, 2, 3, 4, 5, 6, 8, 9, 10] [0, 1, 2, 3, 4, 5, 6, 7, 8, 9, 10, 11, 12, 13, 14, 15, 16, 17, 18, 19]
  refine rt 0 (.slice (aa b52 0) (t.qx.length + 1) c9) (xm Tryz.isAgg27 rfl (fun _ h => h.cell 2 rfl rfl)) S ?_
  refine rtp 1 (.int .i64 s.qf.length) S ?_
  refine rt 2 (.slice (aa b52 0) (t.qx.length + 1) c9) (xm Tryz.isAgg27 rfl (fun _ h => h.cell 2 rfl rfl)) S ?_
  refine rtp 3 (.int .i64 s.qf.length) S ?_
  refine rt 4 (pp b52 (0 + (s.qf.length : Int).toNat * 1)) (xN b52 (0) (t.qx.length + 1) c9 s.qf.length Tryz.underlying27 ti22 rfl rfl (by omega) (by omega)) S ?_
  refine rtp 6 (.slice QH (((s.qg[i]!).zf).length) QF) S ?_
  refine rt 7 (.int .i64 (counts[i]!)) (xm Tryz.isAgg2 rfl (fun _ h => h.cell 0 rfl rfl)) S ?_
  refine xB [5] (by kernel_rfl) (by simp) (zh rfl ?_ xC)
  obtain ⟨a179, c180, G181, s182, h183, H⟩ := H.jq 7 rfl 0 rfl (iv := s.qf.length) s.qf.length (by omega) (by omega)
  refine qE (.slice a179 ((bg107[s.qf.length]!).length) c180) Tryz.isAgg22 rfl (h183) ?_
  refine ⟨H.pick [0, 1, 2, 3, 4, 5, 6, 8, 9, 10] [1, 2, 3, 4, 5, 6, 7, 8, 9, 10, 11, 12, 13, 14, 15, 16, 17, 18, 19, 20], ?_⟩
  refine xB [8] (by kernel_rfl) (by simp) (zh rfl ?_ xC)
  obtain ⟨u1, u2⟩ := E_bg107.sh.row (c := s.qf.length) (by omega) p8 (by omega)
  have u4 := (by first | exact bn1.jU (by omega) | exact bn2.jU (by omega) | exact bn3.jU (by omega) | exact bn4.jU (by omega) : SmallT ((s.qg[i]!).zf) (counts[i]!))
  have sz184 := H.base.size
  have lt185 := H.ltN (L := [G102, G69]) [2, 5]
  refine xf #[.slice a179 ((bg107[s.qf.length]!).length) c180, .slice QH (((s.qg[i]!).zf).length) QF, .int .i64 (counts[i]!)] rfl rfl Tryz.call100 (plus_ok w176.drew (bg107[s.qf.length]!) ((s.qg[i]!).zf) (counts[i]!) a179 c180 G181 QH QF Fe47Out (H.get 0 rfl).1 (H.get 11 rfl).1 (by first | assumption | omega) (by first | assumption | omega) (by first | assumption | omega)) ?_
  rintro v189 w187 r189 x188
  replace H := H.zF x188 r189
  obtain ⟨a190, c191, rfl, hc192, hm193⟩ := H.jP 0 rfl
  refine ⟨H.pick [1, 2, 3, 4, 5, 6, 7, 9, 10, 11] [1, 2, 3, 4, 5, 6, 7, 8, 9, 10, 11, 12, 13, 14, 15, 16, 17, 18, 19, 20], ?_⟩
  refine rt 9 (pp b52 (0 + (s.qf.length : Int).toNat * 1)) (xN b52 (0) (t.qx.length + 1) c9 s.qf.length Tryz.underlying27 ti22 rfl rfl (by omega) (by omega)) (H.pick [1, 2, 3, 4, 5, 6, 7, 9, 10, 11] [1, 2, 3, 4, 5, 6, 7, 8, 9, 10, 11, 12, 13, 14, 15, 16, 17, 18, 19, 20]) ?_
  refine xB [10] (by kernel_rfl) (by simp) (zh rfl ?_ xC)
  obtain ⟨G195, N, hn196, H⟩ := H.yh 0 rfl N (H.XF [2, 5])
  try dsimp only [List.set] at H
  refine jh false H 8 rfl 2 rfl (.slice a190 ((jV (bg107[s.qf.length]!) ((s.qg[i]!).zf) (counts[i]!)).length) c191) 0 rfl rfl Tryz.sizeOf22 rfl rfl (i := s.qf.length) (by omega) (by omega) (by simp) fun w194 xs197 F198 hs199 H => ?_
  try dsimp only [List.set] at H
  refine ⟨H.pick [1, 2, 3, 4, 5, 6, 7, 9, 10, 11] [3, 4, 5, 6, 7, 8, 9, 10, 11, 12, 13, 14, 15, 16, 17, 18, 19, 20, 21, 22], ?_⟩
  refine xO (by kernel_rfl) (?_)
  refine ret0 rfl ⟨_, rfl, ?_⟩
  replace H := H.erases [0]
  dsimp only [Qe, List.eraseIdx] at H
  obtain ⟨bg200, e_bg200⟩ : ∃ z, z = (bg107.set s.qf.length (jV (bg107[s.qf.length]!) ((s.qg[i]!).zf) (counts[i]!))) := ⟨_, rfl⟩
  rw [← e_bg200] at H
  have E_bg200 := Ent.add (D := 1000000) E_bg107 e_bg200 (by omega) (by first | exact bn1.mul (by omega) | exact bn2.mul (by omega) | exact bn3.mul (by omega) | exact bn4.mul (by omega)) (by omega)
  have z_bg200 := E_bg200.sh.1
  have E_cur := E_bg200
  refine ⟨H.pick [0, 1, 2, 3, 4, 5, 6, 8, 9, 10] [3, 4, 5, 6, 7, 8, 9, 10, 11, 12, 13, 14, 15, 16, 17, 18, 19, 20, 21, 22], ?_⟩
  refine xO (by kernel_rfl) (t_n ?_)
  refine qm (qy ?_)
  refine sw (qM b81 (0) 7 Tryz.underlying110 rfl rfl Tryz.sizeOf108 rfl ?_)
  refine sw (qE (.slice QA (((s.qg[i]!).qB).length) Qz) Tryz.isAgg108 rfl (H.cell 1 rfl rfl) ?_)
  refine sw (zD Tryz.underlying108 QA (((s.qg[i]!).qB).length) Qz rfl ?_)
  refine sp (.int .i64 0) ?_
  refine qw (t_n (xu ?_))
  refine zG (fun m' ρ w201 => ∃ (junk : Env) (k : Nat) (bags_1 : List (List Int)) (XM : List Value) (F_bags_1 : List Nat), ρ = upd (upd (upd (upd junk 10 (.func (.func 143) #[] #[pp b79 0, pp b83 0])) 40 (.slice QA (((s.qg[i]!).qB).length) Qz)) 41 (.int .i64 (((s.qg[i]!).qB).length))) 42 (.int .i64 k) ∧ ((k : Int) ≤ (((s.qg[i]!).qB).length)) ∧ (Ent (s.qf.length + 1) (QR s) (fun p q => base0 s t p q + allS s t counts i p q + at' p (s.qg[i]!).qA.toNat (-(counts[i]!) * ((s.qg[i]!).qW)[q]!) + at' p (s.qg[i]!).qA.toNat ((counts[i]!) * ((s.qg[i]!).xw)[q]!) + at' p (outPl s t (s.qg[i]!)) ((counts[i]!) * ((s.qg[i]!).zf)[q]!) + intoF (s.qg[i]!) (counts[i]!) k p q) (23000000 + 6000000 * i + 1000000 * k) bags_1) ∧ (bags_1.length = s.qf.length + 1) ∧ m' = ((((s.qg[i]!).qB).length) - (k : Int)).toNat ∧ Fresh w.heap.size [G69] ∧ St w w201 [.box b83 [.int .i64 (counts[i]!)] 2, .box b81 [.int .i64 ((s.qg[i]!).qA), .int .i64 ((s.qg[i]!).xZ), .slice Xc (((s.qg[i]!).qW).length) Xb, .slice XW (((s.qg[i]!).xg).length) XU, .slice XV (((s.qg[i]!).xk).length) XT, .slice QN (((s.qg[i]!).xw).length) QK, .slice QH (((s.qg[i]!).zf).length) QF, .slice QA (((s.qg[i]!).qB).length) Qz, .bool ((s.qg[i]!).xP)] 110, .box b79 [.slice (aa b52 0) (t.qx.length + 1) c9] 27, .box b77 [.slice qN t.qh.length qH, .slice xG t.qx.length xy, .slice qL t.ql.length qK] 38, .box b75 [.int .i64 s.qI, .slice qp s.qf.length qo, .slice (aa b44 o45) s.qg.length qC] 36, .box b48 [.int .i64 ((s.qg[i]!).qA), .int .i64 ((s.qg[i]!).xZ), .slice Xc (((s.qg[i]!).qW).length) Xb, .slice XW (((s.qg[i]!).xg).length) XU, .slice XV (((s.qg[i]!).xk).length) XT, .slice QN (((s.qg[i]!).xw).length) QK, .slice QH (((s.qg[i]!).zf).length) QF, .slice QA (((s.qg[i]!).qB).length) Qz, .bool ((s.qg[i]!).xP)] 110, .row (.slice (aa b36 0) s.qf.length s.qf.length) 4 1 s.qf.length ((yl s counts s.qf.length i).map (Value.bool)), .row (.slice (aa b52 0) (t.qx.length + 1) c9) 22 1 (t.qx.length + 1) XM, .box b5 [.slice none 0 0, .slice none 0 0, .slice none 0 0] 38, .box b3 [.slice qN t.qh.length qH, .slice xG t.qx.length xy, .slice qL t.ql.length qK] 38, .box b1 [.int .i64 s.qI, .slice qp s.qf.length qo, .slice (aa b44 o45) s.qg.length qC] 36] [vK false F_bags_1 XM bags_1, isF true G69 (.slice a64 ((jV (bags[((s.qg[i]!).qA).toNat]!) ((s.qg[i]!).qW) (-(counts[i]!))).length) c65) (jV (bags[((s.qg[i]!).qA).toNat]!) ((s.qg[i]!).qW) (-(counts[i]!))), isF false G55 (.slice a53 ((bags[((s.qg[i]!).qA).toNat]!).length) c54) (bags[((s.qg[i]!).qA).toNat]!), isF false Fe47Need (.slice Xc (((s.qg[i]!).qW).length) Xb) ((s.qg[i]!).qW), isF false Fe47Have (.slice XW (((s.qg[i]!).xg).length) XU) ((s.qg[i]!).xg), isF false Fe47Lack (.slice XV (((s.qg[i]!).xk).length) XT) ((s.qg[i]!).xk), isF false Fe47Here (.slice QN (((s.qg[i]!).xw).length) QK) ((s.qg[i]!).xw), isF false Fe47Out (.slice QH (((s.qg[i]!).zf).length) QF) ((s.qg[i]!).zf), isF false Fe47Into (.slice QA (((s.qg[i]!).qB).length) Qz) ((s.qg[i]!).qB), atF b44 (o45 + (i : Int).toNat * 9) [.int .i64 ((s.qg[i]!).qA), .int .i64 ((s.qg[i]!).xZ), .slice Xc (((s.qg[i]!).qW).length) Xb, .slice XW (((s.qg[i]!).xg).length) XU, .slice XV (((s.qg[i]!).xk).length) XT, .slice QN (((s.qg[i]!).xw).length) QK, .slice QH (((s.qg[i]!).zf).length) QF, .slice QA (((s.qg[i]!).qB).length) Qz, .bool ((s.qg[i]!).xP)], isF false qO (.slice qp s.qf.length qo) s.qf, isF false xq (.slice (aa b44 o45) s.qg.length qC) s.qg, isF false xK (.slice qN t.qh.length qH) t.qh, isF false zk (.slice xG t.qx.length xy) t.qx, isF false xH (.slice qL t.ql.length qK) t.ql, isF false Fcounts (.slice (aa b41 o42) counts.length ccounts) counts]) (((((s.qg[i]!).qB).length) - (0 : Int)).toNat) ⟨_, 0, bg200, xs197, F198, (by exact qj (qj (qj (qj (rfl) rfl) rfl) rfl) rfl), (by omega), (by exact E_cur.to (fun p q => by rw [po]; simp only [intoF]; first | omega | (simp only [Int.toNat_natCast]; omega)) (by omega)), (by omega), rfl, (N.pick [2]), H.pick [0, 1, 2, 3, 4, 5, 6, 7, 8, 9, 10] [0, 7, 8, 9, 10, 11, 12, 13, 14, 15, 17, 18, 19, 20, 21, 22]⟩ ?_
  clear H N
  rintro m' ρ w202 ⟨junk, k, bags_1, XM, F_bags_1, rfl, i0, E_bags_1, z_bags_1, rfl, N, H⟩
  have hn_bags := H.zB (α := List Int) 7 rfl 0 rfl (by decide)
  refine qm (qy ?_)
  refine sp (.bool (decide ((k : Int) < (((s.qg[i]!).qB).length)))) ?_
  refine qw (t_n (qm ?_))
  refine qV (decide ((k : Int) < (((s.qg[i]!).qB).length))) rfl (fun h203 => ?_) (fun h203 => ?_)
  ·skip
   replace h203 := of_decide_eq_true h203
   have qi := q.2.2.2.2.2.2.2.2.2.2 k (by omega)
   have qi1 := qi.1
   have bn4 := qi.2.2.1
   have ln4 := bn4.len
   refine xh (t_n (qm (xu (qm (qy ?_)))))
   obtain ⟨b204, o205, rfl⟩ := H.addr 8 rfl (by omega)
   obtain ⟨ae207Bag, ce207Bag, Fe207Bag, H⟩ := H.jl 8 rfl k k (by omega) (by omega) (by omega)
   refine sw (xJ k Tryz.underlying108 ti115 rfl rfl (by omega) (by omega) ?_)
   refine sw (zi [.int .i64 ((((s.qg[i]!).qB)[k]!).qA), .slice ae207Bag (((((s.qg[i]!).qB)[k]!).zW).length) ce207Bag] Tryz.isAgg115 Tryz.sizeOf115 rfl (qG (H.get 1 rfl) 0 2) ?_)
   refine sw (zL H ti115 [.int .i64 0, .slice none 0 0] fun b208 w209 H => ?_)
   refine sw (zn H 0 [.int .i64 ((((s.qg[i]!).qB)[k]!).qA), .slice ae207Bag (((((s.qg[i]!).qB)[k]!).zW).length) ce207Bag] Tryz.sizeOf115 fun w210 H => ?_)
   try dsimp only [List.set] at H
   refine qw (t_n (qy ?_))
   refine sp (.func (.func 143) #[] #[pp b79 0, pp b83 0]) ?_
   refine sw (qM b208 (0) 0 Tryz.underlying115 rfl rfl Tryz.sizeOf2 rfl ?_)
   refine sw (qE (.int .i64 ((((s.qg[i]!).qB)[k]!).qA)) Tryz.isAgg2 rfl (H.cell 0 rfl rfl) ?_)
   refine sw (qM b208 (0) 1 Tryz.underlying115 rfl rfl Tryz.sizeOf22 rfl ?_)
   refine sw (qE (.slice ae207Bag (((((s.qg[i]!).qB)[k]!).zW).length) ce207Bag) Tryz.isAgg22 rfl (H.cell 0 rfl rfl) ?_)
   refine sw (Qd #[.int .i64 ((((s.qg[i]!).qB)[k]!).qA), .slice ae207Bag (((((s.qg[i]!).qB)[k]!).zW).length) ce207Bag, pp b79 0, pp b83 0] rfl rfl Tryz.call143 ?_)
   refine enter (n := 16) Tryz.func143 rfl Tryz.ntmps143 (Nat.le_of_ble_eq_true rfl) ?_
   refine Qa rfl H [0, 1, 2, 3, 4, 5, 6, 7, 9, 10, 11] fun H => ?_
   have S := H.Qc [0, 1, 2, 3, 4, 5, 6, 7, 9, 10, 11] [0, 1, 2, 3, 4, 5, 6, 7, 8, 9, 10, 11, 12, 13, 14, 15, 16, 17]
   refine rt 0 (.slice (aa b52 0) (t.qx.length + 1) c9) (xm Tryz.isAgg27 rfl (fun _ h => h.cell 3 rfl rfl)) S ?_
   refine rtp 1 (.int .i64 ((((s.qg[i]!).qB)[k]!).qA)) S ?_
   refine rt 2 (.slice (aa b52 0) (t.qx.length + 1) c9) (xm Tryz.isAgg27 rfl (fun _ h => h.cell 3 rfl rfl)) S ?_
   refine rtp 3 (.int .i64 ((((s.qg[i]!).qB)[k]!).qA)) S ?_
   refine rt 4 (pp b52 (0 + ((((s.qg[i]!).qB)[k]!).qA : Int).toNat * 1)) (xN b52 (0) (t.qx.length + 1) c9 ((((s.qg[i]!).qB)[k]!).qA) Tryz.underlying27 ti22 rfl rfl (by omega) (by omega)) S ?_
   refine rtp 6 (.slice ae207Bag (((((s.qg[i]!).qB)[k]!).zW).length) ce207Bag) S ?_
   refine rt 7 (.int .i64 (counts[i]!)) (xm Tryz.isAgg2 rfl (fun _ h => h.cell 1 rfl rfl)) S ?_
   refine xB [5] (by kernel_rfl) (by simp) (zh rfl ?_ xC)
   obtain ⟨a212, c213, G214, s215, h216, H⟩ := H.jq 8 rfl 2 rfl (iv := (((s.qg[i]!).qB)[k]!).qA) (((((s.qg[i]!).qB)[k]!).qA).toNat) (by omega) (by omega)
   refine qE (.slice a212 ((bags_1[((((s.qg[i]!).qB)[k]!).qA).toNat]!).length) c213) Tryz.isAgg22 rfl (h216) ?_
   refine ⟨H.pick [0, 1, 2, 3, 4, 5, 6, 7, 9, 10, 11] [1, 2, 3, 4, 5, 6, 7, 8, 9, 10, 11, 12, 13, 14, 15, 16, 17, 18], ?_⟩
   refine xB [8] (by kernel_rfl) (by simp) (zh rfl ?_ xC)
   obtain ⟨u1, u2⟩ := E_bags_1.sh.row (c := ((((s.qg[i]!).qB)[k]!).qA).toNat) (by omega) p8 (by omega)
   have u4 := (by first | exact bn1.jU (by omega) | exact bn2.jU (by omega) | exact bn3.jU (by omega) | exact bn4.jU (by omega) : SmallT ((((s.qg[i]!).qB)[k]!).zW) (counts[i]!))
   have sz217 := H.base.size
   have lt218 := H.ltN (L := [G69]) [4]
   refine xf #[.slice a212 ((bags_1[((((s.qg[i]!).qB)[k]!).qA).toNat]!).length) c213, .slice ae207Bag (((((s.qg[i]!).qB)[k]!).zW).length) ce207Bag, .int .i64 (counts[i]!)] rfl rfl Tryz.call100 (plus_ok w210.drew (bags_1[((((s.qg[i]!).qB)[k]!).qA).toNat]!) ((((s.qg[i]!).qB)[k]!).zW) (counts[i]!) a212 c213 G214 ae207Bag ce207Bag Fe207Bag (H.get 0 rfl).1 (H.get 1 rfl).1 (by first | assumption | omega) (by first | assumption | omega) (by first | assumption | omega)) ?_
   rintro v222 w220 r222 x221
   replace H := H.zF x221 r222
   obtain ⟨a223, c224, rfl, hc225, hm226⟩ := H.jP 0 rfl
   refine ⟨H.pick [1, 2, 3, 4, 5, 6, 7, 8, 10, 11, 12] [1, 2, 3, 4, 5, 6, 7, 8, 9, 10, 11, 12, 13, 14, 15, 16, 17, 18], ?_⟩
   refine rt 9 (pp b52 (0 + ((((s.qg[i]!).qB)[k]!).qA : Int).toNat * 1)) (xN b52 (0) (t.qx.length + 1) c9 ((((s.qg[i]!).qB)[k]!).qA) Tryz.underlying27 ti22 rfl rfl (by omega) (by omega)) (H.pick [1, 2, 3, 4, 5, 6, 7, 8, 10, 11, 12] [1, 2, 3, 4, 5, 6, 7, 8, 9, 10, 11, 12, 13, 14, 15, 16, 17, 18]) ?_
   refine xB [10] (by kernel_rfl) (by simp) (zh rfl ?_ xC)
   obtain ⟨G228, N, hn229, H⟩ := H.yh 0 rfl N (H.XF [4])
   try dsimp only [List.set] at H
   refine jh false H 9 rfl 4 rfl (.slice a223 ((jV (bags_1[((((s.qg[i]!).qB)[k]!).qA).toNat]!) ((((s.qg[i]!).qB)[k]!).zW) (counts[i]!)).length) c224) 0 rfl rfl Tryz.sizeOf22 rfl rfl (i := (((((s.qg[i]!).qB)[k]!).qA).toNat)) (by omega) (by omega) (by simp) fun w227 xs230 F231 hs232 H => ?_
   try dsimp only [List.set] at H
   refine ⟨H.pick [1, 2, 3, 4, 5, 6, 7, 8, 10, 11, 12] [3, 4, 5, 6, 7, 8, 9, 10, 11, 12, 13, 14, 15, 16, 17, 18, 19, 20], ?_⟩
   refine xO (by kernel_rfl) (?_)
   refine ret0 rfl ⟨_, rfl, ?_⟩
   replace H := H.erases [0]
   dsimp only [Qe, List.eraseIdx] at H
   obtain ⟨bg233, e_bg233⟩ : ∃ z, z = (bags_1.set (((((s.qg[i]!).qB)[k]!).qA).toNat) (jV (bags_1[((((s.qg[i]!).qB)[k]!).qA).toNat]!) ((((s.qg[i]!).qB)[k]!).zW) (counts[i]!))) := ⟨_, rfl⟩
   rw [← e_bg233] at H
   have E_bg233 := Ent.add (D := 1000000) E_bags_1 e_bg233 (by omega) (by first | exact bn1.mul (by omega) | exact bn2.mul (by omega) | exact bn3.mul (by omega) | exact bn4.mul (by omega)) (by omega)
   have z_bg233 := E_bg233.sh.1
   have E_cur := E_bg233
   refine qw (b_n (t_n (qy ?_)))
   refine sw (zJ k 1 rfl rfl (by omega) ?_)
   refine sp (.int .i64 (k + 1)) ?_
   refine qw ?_
   refine xF (m' := ((((s.qg[i]!).qB).length) - ((k + 1) : Int)).toNat) (by omega) ⟨_, k + 1, bg233, xs230, F231, (by exact qj (qj (qj (qj (rfl) rfl) rfl) rfl) rfl), ?_, ?_, ?_, rfl, (N.pick [1]), H.pick [1, 2, 3, 4, 5, 6, 7, 8, 9, 10, 11] [0, 6, 7, 8, 9, 10, 11, 12, 13, 14, 15, 16, 17, 18, 19, 20]⟩
   · omega
   · exact E_cur.to (fun p q => by simp only [intoF]; omega) (by omega)
   · omega
  replace h203 := of_decide_eq_false h203
  refine zy (t_x (t_x (b_x ?_)))
  refine ret0 rfl ⟨_, rfl, ?_⟩
  replace H := H.erases [4, 3, 2, 1, 0]
  dsimp only [Qe, List.eraseIdx] at H
  refine qw (t_n ?_)
  refine Qa rfl H [0, 2, 3, 4, 5] fun H => ?_
  have S := H.Qc [0, 2, 3, 4, 5] [0, 1, 2, 3, 4, 5, 6, 7, 8, 9, 10, 11, 12, 13, 14, 15]
  refine rtp 0 (.slice (aa b36 0) s.qf.length s.qf.length) S ?_
  refine rt 1 (pp b48 (0 + 0)) (xE b48 (0) 0 Tryz.underlying110 rfl rfl Tryz.sizeOf2 rfl) S ?_
  refine rt 2 (.int .i64 ((s.qg[i]!).qA)) (xm Tryz.isAgg2 rfl (fun _ h => h.cell 0 rfl rfl)) S ?_
  refine rtp 3 (.slice (aa b36 0) s.qf.length s.qf.length) S ?_
  refine rt 4 (pp b48 (0 + 0)) (xE b48 (0) 0 Tryz.underlying110 rfl rfl Tryz.sizeOf2 rfl) S ?_
  refine rt 5 (.int .i64 ((s.qg[i]!).qA)) (xm Tryz.isAgg2 rfl (fun _ h => h.cell 0 rfl rfl)) S ?_
  refine rt 6 (pp b36 (0 + ((s.qg[i]!).qA : Int).toNat * 1)) (xN b36 (0) s.qf.length s.qf.length ((s.qg[i]!).qA) Tryz.underlying26 ti4 rfl rfl (by omega) (by omega)) S ?_
  refine xB [7] (by kernel_rfl) (by simp) (zh rfl ?_ xC)
  refine qE (.bool ((yl s counts s.qf.length i)[((s.qg[i]!).qA).toNat]!)) Tryz.isAgg4 rfl (H.rowBool 1 rfl (iv := (s.qg[i]!).qA) (i := (((s.qg[i]!).qA).toNat)) (by omega) (by omega)) ?_
  refine ⟨H.pick [0, 2, 3, 4, 5] [0, 1, 2, 3, 4, 5, 6, 7, 8, 9, 10, 11, 12, 13, 14, 15], ?_⟩
  refine rtp 8 (.bool ((yl s counts s.qf.length i)[((s.qg[i]!).qA).toNat]!)) (H.pick [0, 2, 3, 4, 5] [0, 1, 2, 3, 4, 5, 6, 7, 8, 9, 10, 11, 12, 13, 14, 15]) ?_
  cases h235 : ((yl s counts s.qf.length i)[((s.qg[i]!).qA).toNat]!)
  ·skip
   have S := H.Qc [0, 2, 3, 4, 5] [0, 1, 2, 3, 4, 5, 6, 7, 8, 9, 10, 11, 12, 13, 14, 15]
   refine rgp 9 (.int .i64 (counts[i]!)) 66 S ?_
   refine rgp 10 (.bool (decide ((counts[i]! : Int) > 0))) 66 S ?_
   refine rgp 11 (.bool (decide ((counts[i]! : Int) > 0))) 66 S ?_
   cases h236 : (decide ((counts[i]! : Int) > 0))
   ·skip
    replace h236 := of_decide_eq_false h236
    refine zC [12, 13] 2 (H.pick [0, 2, 3, 4, 5] [0, 1, 2, 3, 4, 5, 6, 7, 8, 9, 10, 11, 12, 13, 14, 15]) ?_
    have S := H.Qc [0, 2, 3, 4, 5] [0, 1, 2, 3, 4, 5, 6, 7, 8, 9, 10, 11, 12, 13, 14, 15]
    refine rgp 14 (.bool false) 66 S ?_
    refine rtp 15 (.bool false) S ?_
    refine rt 16 (pp b36 (0 + ((s.qg[i]!).qA : Int).toNat * 1)) (xN b36 (0) s.qf.length s.qf.length ((s.qg[i]!).qA) Tryz.underlying26 ti4 rfl rfl (by omega) (by omega)) S ?_
    refine xB [17] (by kernel_rfl) (by simp) (zh rfl ?_ xC)
    refine QE H 1 rfl false Tryz.sizeOf4 rfl rfl (i := (((s.qg[i]!).qA).toNat)) (by omega) (by omega) fun w237 H => ?_
    try dsimp only [List.set] at H
    refine ⟨H.pick [0, 2, 3, 4, 5] [0, 1, 2, 3, 4, 5, 6, 7, 8, 9, 10, 11, 12, 13, 14, 15], ?_⟩
    refine xO (by kernel_rfl) (b_n (t_n ?_))
    refine qy ?_
    refine sw (zJ i 1 rfl rfl (by omega) ?_)
    refine sp (.int .i64 (i + 1)) ?_
    refine qw ?_
    refine xF (m' := (counts.length - ((i + 1) : Int)).toNat) (by omega) ⟨_, i + 1, ((yl s counts s.qf.length i).set (((s.qg[i]!).qA).toNat) false), bags_1, XM, F_bags_1, (by exact qj (qj (qj (qj (qj (qj (qj (qj (rfl) rfl) rfl) rfl) rfl) rfl) rfl) rfl) rfl), ?_, ?_, ?_, ?_, rfl, (N.pick []), H.pick [1, 2, 3, 4, 5] [0, 10, 11, 12, 13, 14, 15]⟩
    · first | exact meltsL_1 (by omega) (by omega) ‹_› | exact meltsL_2 (by omega) (by omega) ‹_› (by omega) | exact meltsL_3 (by omega) (by omega) ‹_› (by omega)
    · omega
    · exact E_bags_1.to (fun p q => by rw [show k = ((s.qg[i]!).qB).length by omega]; simp only [allS, needF, putF]; omega) (by omega)
    · omega
   replace h236 := of_decide_eq_true h236
   have S := H.Qc [0, 2, 3, 4, 5] [0, 1, 2, 3, 4, 5, 6, 7, 8, 9, 10, 11, 12, 13, 14, 15]
   refine rg 12 (pp b48 (0 + 8)) 69 (xE b48 (0) 8 Tryz.underlying110 rfl rfl Tryz.sizeOf4 rfl) S ?_
   refine rg 13 (.bool ((s.qg[i]!).xP)) 69 (xm Tryz.isAgg4 rfl (fun _ h => h.cell 0 rfl rfl)) S ?_
   refine rgp 14 (.bool ((s.qg[i]!).xP)) 66 S ?_
   refine rtp 15 (.bool ((s.qg[i]!).xP)) S ?_
   refine rt 16 (pp b36 (0 + ((s.qg[i]!).qA : Int).toNat * 1)) (xN b36 (0) s.qf.length s.qf.length ((s.qg[i]!).qA) Tryz.underlying26 ti4 rfl rfl (by omega) (by omega)) S ?_
   refine xB [17] (by kernel_rfl) (by simp) (zh rfl ?_ xC)
   refine QE H 1 rfl ((s.qg[i]!).xP) Tryz.sizeOf4 rfl rfl (i := (((s.qg[i]!).qA).toNat)) (by omega) (by omega) fun w238 H => ?_
   try dsimp only [List.set] at H
   refine ⟨H.pick [0, 2, 3, 4, 5] [0, 1, 2, 3, 4, 5, 6, 7, 8, 9, 10, 11, 12, 13, 14, 15], ?_⟩
   refine xO (by kernel_rfl) (b_n (t_n ?_))
   refine qy ?_
   refine sw (zJ i 1 rfl rfl (by omega) ?_)
   refine sp (.int .i64 (i + 1)) ?_
   refine qw ?_
   refine xF (m' := (counts.length - ((i + 1) : Int)).toNat) (by omega) ⟨_, i + 1, ((yl s counts s.qf.length i).set (((s.qg[i]!).qA).toNat) ((s.qg[i]!).xP)), bags_1, XM, F_bags_1, (by exact qj (qj (qj (qj (qj (qj (qj (qj (rfl) rfl) rfl) rfl) rfl) rfl) rfl) rfl) rfl), ?_, ?_, ?_, ?_, rfl, (N.pick []), H.pick [1, 2, 3, 4, 5] [0, 10, 11, 12, 13, 14, 15]⟩
   · first | exact meltsL_1 (by omega) (by omega) ‹_› | exact meltsL_2 (by omega) (by omega) ‹_› (by omega) | exact meltsL_3 (by omega) (by omega) ‹_› (by omega)
   · omega
   · exact E_bags_1.to (fun p q => by rw [show k = ((s.qg[i]!).qB).length by omega]; simp only [allS, needF, putF]; omega) (by omega)
   · omega
  refine zC [9, 10, 11, 12, 13, 14] 6 (H.pick [0, 2, 3, 4, 5] [0, 1, 2, 3, 4, 5, 6, 7, 8, 9, 10, 11, 12, 13, 14, 15]) ?_
  have S := H.Qc [0, 2, 3, 4, 5] [0, 1, 2, 3, 4, 5, 6, 7, 8, 9, 10, 11, 12, 13, 14, 15]
  refine rtp 15 (.bool true) S ?_
  refine rt 16 (pp b36 (0 + ((s.qg[i]!).qA : Int).toNat * 1)) (xN b36 (0) s.qf.length s.qf.length ((s.qg[i]!).qA) Tryz.underlying26 ti4 rfl rfl (by omega) (by omega)) S ?_
  refine xB [17] (by kernel_rfl) (by simp) (zh rfl ?_ xC)
  refine QE H 1 rfl true Tryz.sizeOf4 rfl rfl (i := (((s.qg[i]!).qA).toNat)) (by omega) (by omega) fun w239 H => ?_
  try dsimp only [List.set] at H
  refine ⟨H.pick [0, 2, 3, 4, 5] [0, 1, 2, 3, 4, 5, 6, 7, 8, 9, 10, 11, 12, 13, 14, 15], ?_⟩
  refine xO (by kernel_rfl) (b_n (t_n ?_))
  refine qy ?_
  refine sw (zJ i 1 rfl rfl (by omega) ?_)
  refine sp (.int .i64 (i + 1)) ?_
  refine qw ?_
  refine xF (m' := (counts.length - ((i + 1) : Int)).toNat) (by omega) ⟨_, i + 1, ((yl s counts s.qf.length i).set (((s.qg[i]!).qA).toNat) true), bags_1, XM, F_bags_1, (by exact qj (qj (qj (qj (qj (qj (qj (qj (rfl) rfl) rfl) rfl) rfl) rfl) rfl) rfl) rfl), ?_, ?_, ?_, ?_, rfl, (N.pick []), H.pick [1, 2, 3, 4, 5] [0, 10, 11, 12, 13, 14, 15]⟩
  · first | exact meltsL_1 (by omega) (by omega) ‹_› | exact meltsL_2 (by omega) (by omega) ‹_› (by omega) | exact meltsL_3 (by omega) (by omega) ‹_› (by omega)
  · omega
  · exact E_bags_1.to (fun p q => by rw [show k = ((s.qg[i]!).qB).length by omega]; simp only [allS, needF, putF]; omega) (by omega)
  · omega
 replace h40 := of_decide_eq_false h40
 refine zy (t_x (t_x (b_x (t_n (qm ?_)))))
 obtain ⟨b240, rfl⟩ := H.Vr 1 rfl (by omega)
 refine c_cut (fun ρ w241 => ∃ (junk : Env) (b242 : Nat) (ra243 : Option Addr) (rc244 : Nat) (ra245 : Option Addr) (rc246 : Nat) (ra247 : Option Addr) (rc248 : Nat) (rx249 : List Value) (rF250 : List Nat), ρ = upd (upd (upd (upd junk 3 (pp b1 0)) 6 (pp b5 0)) 9 (.slice (aa b36 0) s.qf.length s.qf.length)) 13 (pp b242 0) ∧ Fresh w.heap.size [rF250] ∧ St w w241 [.box b242 [.slice ra243 (((⟨t.qh, (bags.take s.qf.length), bags[s.qf.length]!⟩ : qP).qh).length) rc244, .slice ra245 (((⟨t.qh, (bags.take s.qf.length), bags[s.qf.length]!⟩ : qP).qx).length) rc246, .slice ra247 (((⟨t.qh, (bags.take s.qf.length), bags[s.qf.length]!⟩ : qP).ql).length) rc248] 38, .row (.slice ra243 (((⟨t.qh, (bags.take s.qf.length), bags[s.qf.length]!⟩ : qP).qh).length) rc244) 4 1 (((⟨t.qh, (bags.take s.qf.length), bags[s.qf.length]!⟩ : qP).qh).length) (((⟨t.qh, (bags.take s.qf.length), bags[s.qf.length]!⟩ : qP).qh).map (Value.bool)), .row (.slice ra245 (((⟨t.qh, (bags.take s.qf.length), bags[s.qf.length]!⟩ : qP).qx).length) rc246) 22 1 (((⟨t.qh, (bags.take s.qf.length), bags[s.qf.length]!⟩ : qP).qx).length) rx249, .row (.slice ra247 (((⟨t.qh, (bags.take s.qf.length), bags[s.qf.length]!⟩ : qP).ql).length) rc248) 2 1 (((⟨t.qh, (bags.take s.qf.length), bags[s.qf.length]!⟩ : qP).ql).length) (((⟨t.qh, (bags.take s.qf.length), bags[s.qf.length]!⟩ : qP).ql).map (Value.int .i64)), .row (.slice (aa b36 0) s.qf.length s.qf.length) 4 1 s.qf.length ((yl s counts s.qf.length i).map (Value.bool)), .row (.slice none 0 0) 0 1 0 [], .box b5 [.slice none 0 0, .slice none 0 0, .slice none 0 0] 38, .box b3 [.slice qN t.qh.length qH, .slice xG t.qx.length xy, .slice qL t.ql.length qK] 38, .box b1 [.int .i64 s.qI, .slice qp s.qf.length qo, .slice qF s.qg.length qC] 36] [vK true rF250 rx249 ((⟨t.qh, (bags.take s.qf.length), bags[s.qf.length]!⟩ : qP).qx), isF false qO (.slice qp s.qf.length qo) s.qf, isF false xq (.slice qF s.qg.length qC) s.qg, isF false xK (.slice qN t.qh.length qH) t.qh, isF false zk (.slice xG t.qx.length xy) t.qx, isF false xH (.slice qL t.ql.length qK) t.ql]) ?_ ?_
 ·skip
  refine Qa rfl H [0, 2, 3, 4] fun H => ?_
  have S := H.Qc [0, 2, 3, 4] [0, 1, 2, 3, 4, 5, 6]
  refine rt 0 (pp b3 (0 + 0)) (xE b3 (0) 0 Tryz.underlying38 rfl rfl Tryz.sizeOf26 rfl) S ?_
  refine rt 1 (.slice qN t.qh.length qH) (xm Tryz.isAgg26 rfl (fun _ h => h.cell 2 rfl rfl)) S ?_
  refine rtp 2 (.slice (aa b240 0) (t.qx.length + 1) c9) S ?_
  refine rt 3 (.agg #[.int .i64 s.qI, .slice qp s.qf.length qo, .slice qF s.qg.length qC]) (Qx (cs := [.int .i64 s.qI, .slice qp s.qf.length qo, .slice qF s.qg.length qC]) Tryz.isAgg36 Tryz.sizeOf36 rfl (fun _ h => qG (h.cells 3 rfl) 0 3)) S ?_
  refine rtp 6 (.slice (aa b240 0) (t.qx.length + 1) c9) S ?_
  refine rt 7 (.agg #[.int .i64 s.qI, .slice qp s.qf.length qo, .slice qF s.qg.length qC]) (Qx (cs := [.int .i64 s.qI, .slice qp s.qf.length qo, .slice qF s.qg.length qC]) Tryz.isAgg36 Tryz.sizeOf36 rfl (fun _ h => qG (h.cells 3 rfl) 0 3)) S ?_
  refine xB [4, 13] (by kernel_rfl) (by simp) (zh rfl ?_ (zh rfl ?_ xC))
  ·skip
   refine xf #[.agg #[.int .i64 s.qI, .slice qp s.qf.length qo, .slice qF s.qg.length qC]] rfl rfl Tryz.call113 (Vl w39.drew s qp qo qO qF qC xq (H.get 1 rfl).1 (H.get 2 rfl).1) ?_
   rintro _ w253 rfl x254
   replace H := H.ext x254
   refine ⟨H.pick [0, 2, 3, 4] [0, 1, 2, 3, 4, 5, 6], ?_⟩
   refine xB [5, 8, 13] (by kernel_rfl) (by simp) (zh rfl ?_ (zh rfl ?_ (zh rfl ?_ xC)))
   ·skip
    obtain ⟨G255, hg257, hn256, H⟩ := H.Vt (α := List Int) 1 rfl 0 rfl (by decide)
    try dsimp only [List.set] at H
    have hl262 := H.isLen 0 rfl
    refine o_head H 0 rfl s.qf.length Tryz.underlying27 ti22 rfl rfl (by omega) (by omega) fun a258 G259 hG260 H => ?_
    have hl261 : (bags.take s.qf.length).length = s.qf.length := List.length_take_of_le (by omega)
    refine ⟨H.pick [0, 2, 3, 4] [2, 3, 4, 5, 6, 7, 8], ?_⟩
    refine xB [8, 13] (by kernel_rfl) (by simp) (zh rfl ?_ (zh rfl ?_ xC))
    ·skip
     refine xf #[.agg #[.int .i64 s.qI, .slice qp s.qf.length qo, .slice qF s.qg.length qC]] rfl rfl Tryz.call113 (Vl w253 s qp qo qO qF qC xq (H.get 3 rfl).1 (H.get 4 rfl).1) ?_
     rintro _ w264 rfl x265
     replace H := H.ext x265
     refine ⟨H.pick [0, 2, 3, 4] [2, 3, 4, 5, 6, 7, 8], ?_⟩
     obtain ⟨ae266, ce266, Fe266, H⟩ := H.jC 1 rfl s.qf.length s.qf.length (by omega) (by omega) (by omega)
     refine rt 9 (pp b240 (0 + (s.qf.length : Int).toNat * 1)) (xN b240 (0) (t.qx.length + 1) c9 s.qf.length Tryz.underlying27 ti22 rfl rfl (by omega) (by omega)) (H.pick [0, 2, 3, 4] [4, 5, 6, 7, 8, 9, 10]) ?_
     refine xB [10, 13] (by kernel_rfl) (by simp) (zh rfl ?_ (zh rfl ?_ xC))
     ·skip
      refine qE (.slice ae266 ((bags[s.qf.length]!).length) ce266) Tryz.isAgg22 rfl (H.xR 1 rfl 0 rfl) ?_
      refine ⟨H.pick [0, 2, 3, 4] [4, 5, 6, 7, 8, 9, 10], ?_⟩
      refine xB [11, 13] (by kernel_rfl) (by simp) (zh rfl ?_ (zh rfl ?_ xC))
      ·skip
       refine jQ [.slice qN t.qh.length qH, .slice a258 ((bags.take s.qf.length).length) c9, .slice ae266 ((bags[s.qf.length]!).length) ce266] [(0, .slice qN t.qh.length qH), (1, .slice a258 ((bags.take s.qf.length).length) c9), (2, .slice ae266 ((bags[s.qf.length]!).length) ce266)] ?_
       refine ⟨H.pick [0, 2, 3, 4] [4, 5, 6, 7, 8, 9, 10], ?_⟩
       refine xB [12, 13] (by kernel_rfl) (by simp) (zh rfl ?_ (zh rfl ?_ xC))
       ·skip
        obtain ⟨cp0, cp1, cp2, cp3⟩ := yV (al := t.qh) E_bags p8 p9.2 p12
        have sz270 := H.base.size
        refine xf #[.agg #[.slice qN t.qh.length qH, .slice a258 ((bags.take s.qf.length).length) c9, .slice ae266 ((bags[s.qf.length]!).length) ce266]] rfl rfl Tryz.call77 (jR w264 (⟨t.qh, (bags.take s.qf.length), bags[s.qf.length]!⟩ : qP) qN qH xK a258 c9 G259 ae266 ce266 Fe266 (H.get 7 rfl).1 (H.get 2 rfl).1 (H.get 0 rfl).1 (by first | assumption | omega) (by first | assumption | omega) (by first | assumption | omega) (by first | assumption | omega)) ?_
        rintro _ w268 ⟨ra267Alive, rn267Alive, rc267Alive, ra267Bags, rn267Bags, rc267Bags, rx267Bags, rF267Bags, ra267Around, rn267Around, rc267Around, rfl, M, K⟩ _
        replace N := N.merge sz270 (by simp) M
        replace H := H.merge K M
        dsimp only [List.cons_append, List.nil_append] at H
        obtain rfl := H.Vb 0 rfl
        obtain rfl := H.zB (α := List Int) 1 rfl 0 rfl (by decide)
        obtain rfl := H.VB 2 rfl
        refine ⟨H.pick [3, 5, 6, 7] [5, 6, 7, 8, 9, 10, 11], ?_⟩
        refine xB [13] (by kernel_rfl) (by simp) (zh rfl ?_ xC)
        refine zL H ti38 [.slice none 0 0, .slice none 0 0, .slice none 0 0] fun b275 w276 H => ?_
        refine ⟨H.pick [4, 6, 7, 8] [5, 6, 7, 8, 9, 10, 11], ?_⟩
        refine xB [14] (by kernel_rfl) (by simp) (zh rfl ?_ xC)
        refine zn H 0 [.slice ra267Alive (((⟨t.qh, (bags.take s.qf.length), bags[s.qf.length]!⟩ : qP).qh).length) rc267Alive, .slice ra267Bags (((⟨t.qh, (bags.take s.qf.length), bags[s.qf.length]!⟩ : qP).qx).length) rc267Bags, .slice ra267Around (((⟨t.qh, (bags.take s.qf.length), bags[s.qf.length]!⟩ : qP).ql).length) rc267Around] Tryz.sizeOf38 fun w277 H => ?_
        try dsimp only [List.set] at H
        refine ⟨H.pick [4, 6, 7, 8] [5, 6, 7, 8, 9, 10, 11], ?_⟩
        refine xO (by kernel_rfl) (?_)
        exact meet ⟨_, b275, ra267Alive, rc267Alive, ra267Bags, rc267Bags, ra267Around, rc267Around, rx267Bags, rF267Bags, (by exact qj (qj (qj (qj (rfl) rfl) rfl) rfl) rfl), N, H.pick [0, 1, 2, 3, 4, 5, 6, 7, 8] [0, 6, 7, 8, 9, 10]⟩
       refine zL H ti38 [.slice none 0 0, .slice none 0 0, .slice none 0 0] fun b278 w279 H => ?_
       refine ⟨H.pick [1, 3, 4, 5] [4, 5, 6, 7, 8, 9, 10], ?_⟩
       refine xB [12] (by kernel_rfl) (by simp) (zh rfl ?_ xC)
       obtain ⟨cp0, cp1, cp2, cp3⟩ := yV (al := t.qh) E_bags p8 p9.2 p12
       have sz283 := H.base.size
       refine xf #[.agg #[.slice qN t.qh.length qH, .slice a258 ((bags.take s.qf.length).length) c9, .slice ae266 ((bags[s.qf.length]!).length) ce266]] rfl rfl Tryz.call77 (jR w279 (⟨t.qh, (bags.take s.qf.length), bags[s.qf.length]!⟩ : qP) qN qH xK a258 c9 G259 ae266 ce266 Fe266 (H.get 7 rfl).1 (H.get 2 rfl).1 (H.get 0 rfl).1 (by first | assumption | omega) (by first | assumption | omega) (by first | assumption | omega) (by first | assumption | omega)) ?_
       rintro _ w281 ⟨ra280Alive, rn280Alive, rc280Alive, ra280Bags, rn280Bags, rc280Bags, rx280Bags, rF280Bags, ra280Around, rn280Around, rc280Around, rfl, M, K⟩ _
       replace N := N.merge sz283 (by simp) M
       replace H := H.merge K M
       dsimp only [List.cons_append, List.nil_append] at H
       obtain rfl := H.Vb 0 rfl
       obtain rfl := H.zB (α := List Int) 1 rfl 0 rfl (by decide)
       obtain rfl := H.VB 2 rfl
       refine ⟨H.pick [4, 6, 7, 8] [5, 6, 7, 8, 9, 10, 11], ?_⟩
       refine xB [14] (by kernel_rfl) (by simp) (zh rfl ?_ xC)
       refine zn H 3 [.slice ra280Alive (((⟨t.qh, (bags.take s.qf.length), bags[s.qf.length]!⟩ : qP).qh).length) rc280Alive, .slice ra280Bags (((⟨t.qh, (bags.take s.qf.length), bags[s.qf.length]!⟩ : qP).qx).length) rc280Bags, .slice ra280Around (((⟨t.qh, (bags.take s.qf.length), bags[s.qf.length]!⟩ : qP).ql).length) rc280Around] Tryz.sizeOf38 fun w288 H => ?_
       try dsimp only [List.set] at H
       refine ⟨H.pick [4, 6, 7, 8] [5, 6, 7, 8, 9, 10, 11], ?_⟩
       refine xO (by kernel_rfl) (?_)
       exact meet ⟨_, b278, ra280Alive, rc280Alive, ra280Bags, rc280Bags, ra280Around, rc280Around, rx280Bags, rF280Bags, (by exact qj (qj (qj (qj (rfl) rfl) rfl) rfl) rfl), N, H.pick [3, 0, 1, 2, 4, 5, 6, 7, 8] [0, 6, 7, 8, 9, 10]⟩
      refine zL H ti38 [.slice none 0 0, .slice none 0 0, .slice none 0 0] fun b289 w290 H => ?_
      refine ⟨H.pick [1, 3, 4, 5] [4, 5, 6, 7, 8, 9, 10], ?_⟩
      refine xB [11] (by kernel_rfl) (by simp) (zh rfl ?_ xC)
      refine jQ [.slice qN t.qh.length qH, .slice a258 ((bags.take s.qf.length).length) c9, .slice ae266 ((bags[s.qf.length]!).length) ce266] [(0, .slice qN t.qh.length qH), (1, .slice a258 ((bags.take s.qf.length).length) c9), (2, .slice ae266 ((bags[s.qf.length]!).length) ce266)] ?_
      refine ⟨H.pick [1, 3, 4, 5] [4, 5, 6, 7, 8, 9, 10], ?_⟩
      refine xB [12] (by kernel_rfl) (by simp) (zh rfl ?_ xC)
      obtain ⟨cp0, cp1, cp2, cp3⟩ := yV (al := t.qh) E_bags p8 p9.2 p12
      have sz294 := H.base.size
      refine xf #[.agg #[.slice qN t.qh.length qH, .slice a258 ((bags.take s.qf.length).length) c9, .slice ae266 ((bags[s.qf.length]!).length) ce266]] rfl rfl Tryz.call77 (jR w290 (⟨t.qh, (bags.take s.qf.length), bags[s.qf.length]!⟩ : qP) qN qH xK a258 c9 G259 ae266 ce266 Fe266 (H.get 7 rfl).1 (H.get 2 rfl).1 (H.get 0 rfl).1 (by first | assumption | omega) (by first | assumption | omega) (by first | assumption | omega) (by first | assumption | omega)) ?_
      rintro _ w292 ⟨ra291Alive, rn291Alive, rc291Alive, ra291Bags, rn291Bags, rc291Bags, rx291Bags, rF291Bags, ra291Around, rn291Around, rc291Around, rfl, M, K⟩ _
      replace N := N.merge sz294 (by simp) M
      replace H := H.merge K M
      dsimp only [List.cons_append, List.nil_append] at H
      obtain rfl := H.Vb 0 rfl
      obtain rfl := H.zB (α := List Int) 1 rfl 0 rfl (by decide)
      obtain rfl := H.VB 2 rfl
      refine ⟨H.pick [4, 6, 7, 8] [5, 6, 7, 8, 9, 10, 11], ?_⟩
      refine xB [14] (by kernel_rfl) (by simp) (zh rfl ?_ xC)
      refine zn H 3 [.slice ra291Alive (((⟨t.qh, (bags.take s.qf.length), bags[s.qf.length]!⟩ : qP).qh).length) rc291Alive, .slice ra291Bags (((⟨t.qh, (bags.take s.qf.length), bags[s.qf.length]!⟩ : qP).qx).length) rc291Bags, .slice ra291Around (((⟨t.qh, (bags.take s.qf.length), bags[s.qf.length]!⟩ : qP).ql).length) rc291Around] Tryz.sizeOf38 fun w299 H => ?_
      try dsimp only [List.set] at H
      refine ⟨H.pick [4, 6, 7, 8] [5, 6, 7, 8, 9, 10, 11], ?_⟩
      refine xO (by kernel_rfl) (?_)
      exact meet ⟨_, b289, ra291Alive, rc291Alive, ra291Bags, rc291Bags, ra291Around, rc291Around, rx291Bags, rF291Bags, (by exact qj (qj (qj (qj (rfl) rfl) rfl) rfl) rfl), N, H.pick [3, 0, 1, 2, 4, 5, 6, 7, 8] [0, 6, 7, 8, 9, 10]⟩
     refine zL H ti38 [.slice none 0 0, .slice none 0 0, .slice none 0 0] fun b300 w301 H => ?_
     refine ⟨H.pick [1, 3, 4, 5] [4, 5, 6, 7, 8, 9, 10], ?_⟩
     refine xB [10] (by kernel_rfl) (by simp) (zh rfl ?_ xC)
     refine qE (.slice ae266 ((bags[s.qf.length]!).length) ce266) Tryz.isAgg22 rfl (H.xR 1 rfl 0 rfl) ?_
     refine ⟨H.pick [1, 3, 4, 5] [4, 5, 6, 7, 8, 9, 10], ?_⟩
     refine xB [11] (by kernel_rfl) (by simp) (zh rfl ?_ xC)
     refine jQ [.slice qN t.qh.length qH, .slice a258 ((bags.take s.qf.length).length) c9, .slice ae266 ((bags[s.qf.length]!).length) ce266] [(0, .slice qN t.qh.length qH), (1, .slice a258 ((bags.take s.qf.length).length) c9), (2, .slice ae266 ((bags[s.qf.length]!).length) ce266)] ?_
     refine ⟨H.pick [1, 3, 4, 5] [4, 5, 6, 7, 8, 9, 10], ?_⟩
     refine xB [12] (by kernel_rfl) (by simp) (zh rfl ?_ xC)
     obtain ⟨cp0, cp1, cp2, cp3⟩ := yV (al := t.qh) E_bags p8 p9.2 p12
     have sz305 := H.base.size
     refine xf #[.agg #[.slice qN t.qh.length qH, .slice a258 ((bags.take s.qf.length).length) c9, .slice ae266 ((bags[s.qf.length]!).length) ce266]] rfl rfl Tryz.call77 (jR w301 (⟨t.qh, (bags.take s.qf.length), bags[s.qf.length]!⟩ : qP) qN qH xK a258 c9 G259 ae266 ce266 Fe266 (H.get 7 rfl).1 (H.get 2 rfl).1 (H.get 0 rfl).1 (by first | assumption | omega) (by first | assumption | omega) (by first | assumption | omega) (by first | assumption | omega)) ?_
     rintro _ w303 ⟨ra302Alive, rn302Alive, rc302Alive, ra302Bags, rn302Bags, rc302Bags, rx302Bags, rF302Bags, ra302Around, rn302Around, rc302Around, rfl, M, K⟩ _
     replace N := N.merge sz305 (by simp) M
     replace H := H.merge K M
     dsimp only [List.cons_append, List.nil_append] at H
     obtain rfl := H.Vb 0 rfl
     obtain rfl := H.zB (α := List Int) 1 rfl 0 rfl (by decide)
     obtain rfl := H.VB 2 rfl
     refine ⟨H.pick [4, 6, 7, 8] [5, 6, 7, 8, 9, 10, 11], ?_⟩
     refine xB [14] (by kernel_rfl) (by simp) (zh rfl ?_ xC)
     refine zn H 3 [.slice ra302Alive (((⟨t.qh, (bags.take s.qf.length), bags[s.qf.length]!⟩ : qP).qh).length) rc302Alive, .slice ra302Bags (((⟨t.qh, (bags.take s.qf.length), bags[s.qf.length]!⟩ : qP).qx).length) rc302Bags, .slice ra302Around (((⟨t.qh, (bags.take s.qf.length), bags[s.qf.length]!⟩ : qP).ql).length) rc302Around] Tryz.sizeOf38 fun w310 H => ?_
     try dsimp only [List.set] at H
     refine ⟨H.pick [4, 6, 7, 8] [5, 6, 7, 8, 9, 10, 11], ?_⟩
     refine xO (by kernel_rfl) (?_)
     exact meet ⟨_, b300, ra302Alive, rc302Alive, ra302Bags, rc302Bags, ra302Around, rc302Around, rx302Bags, rF302Bags, (by exact qj (qj (qj (qj (rfl) rfl) rfl) rfl) rfl), N, H.pick [3, 0, 1, 2, 4, 5, 6, 7, 8] [0, 6, 7, 8, 9, 10]⟩
    refine zL H ti38 [.slice none 0 0, .slice none 0 0, .slice none 0 0] fun b311 w312 H => ?_
    refine ⟨H.pick [1, 3, 4, 5] [2, 3, 4, 5, 6, 7, 8], ?_⟩
    refine xB [8] (by kernel_rfl) (by simp) (zh rfl ?_ xC)
    refine xf #[.agg #[.int .i64 s.qI, .slice qp s.qf.length qo, .slice qF s.qg.length qC]] rfl rfl Tryz.call113 (Vl w312 s qp qo qO qF qC xq (H.get 3 rfl).1 (H.get 4 rfl).1) ?_
    rintro _ w314 rfl x315
    replace H := H.ext x315
    refine ⟨H.pick [1, 3, 4, 5] [2, 3, 4, 5, 6, 7, 8], ?_⟩
    obtain ⟨ae316, ce316, Fe316, H⟩ := H.jC 1 rfl s.qf.length s.qf.length (by omega) (by omega) (by omega)
    refine rt 9 (pp b240 (0 + (s.qf.length : Int).toNat * 1)) (xN b240 (0) (t.qx.length + 1) c9 s.qf.length Tryz.underlying27 ti22 rfl rfl (by omega) (by omega)) (H.pick [1, 3, 4, 5] [4, 5, 6, 7, 8, 9, 10]) ?_
    refine xB [10] (by kernel_rfl) (by simp) (zh rfl ?_ xC)
    refine qE (.slice ae316 ((bags[s.qf.length]!).length) ce316) Tryz.isAgg22 rfl (H.xR 1 rfl 0 rfl) ?_
    refine ⟨H.pick [1, 3, 4, 5] [4, 5, 6, 7, 8, 9, 10], ?_⟩
    refine xB [11] (by kernel_rfl) (by simp) (zh rfl ?_ xC)
    refine jQ [.slice qN t.qh.length qH, .slice a258 ((bags.take s.qf.length).length) c9, .slice ae316 ((bags[s.qf.length]!).length) ce316] [(0, .slice qN t.qh.length qH), (1, .slice a258 ((bags.take s.qf.length).length) c9), (2, .slice ae316 ((bags[s.qf.length]!).length) ce316)] ?_
    refine ⟨H.pick [1, 3, 4, 5] [4, 5, 6, 7, 8, 9, 10], ?_⟩
    refine xB [12] (by kernel_rfl) (by simp) (zh rfl ?_ xC)
    obtain ⟨cp0, cp1, cp2, cp3⟩ := yV (al := t.qh) E_bags p8 p9.2 p12
    have sz320 := H.base.size
    refine xf #[.agg #[.slice qN t.qh.length qH, .slice a258 ((bags.take s.qf.length).length) c9, .slice ae316 ((bags[s.qf.length]!).length) ce316]] rfl rfl Tryz.call77 (jR w314 (⟨t.qh, (bags.take s.qf.length), bags[s.qf.length]!⟩ : qP) qN qH xK a258 c9 G259 ae316 ce316 Fe316 (H.get 7 rfl).1 (H.get 2 rfl).1 (H.get 0 rfl).1 (by first | assumption | omega) (by first | assumption | omega) (by first | assumption | omega) (by first | assumption | omega)) ?_
    rintro _ w318 ⟨ra317Alive, rn317Alive, rc317Alive, ra317Bags, rn317Bags, rc317Bags, rx317Bags, rF317Bags, ra317Around, rn317Around, rc317Around, rfl, M, K⟩ _
    replace N := N.merge sz320 (by simp) M
    replace H := H.merge K M
    dsimp only [List.cons_append, List.nil_append] at H
    obtain rfl := H.Vb 0 rfl
    obtain rfl := H.zB (α := List Int) 1 rfl 0 rfl (by decide)
    obtain rfl := H.VB 2 rfl
    refine ⟨H.pick [4, 6, 7, 8] [5, 6, 7, 8, 9, 10, 11], ?_⟩
    refine xB [14] (by kernel_rfl) (by simp) (zh rfl ?_ xC)
    refine zn H 3 [.slice ra317Alive (((⟨t.qh, (bags.take s.qf.length), bags[s.qf.length]!⟩ : qP).qh).length) rc317Alive, .slice ra317Bags (((⟨t.qh, (bags.take s.qf.length), bags[s.qf.length]!⟩ : qP).qx).length) rc317Bags, .slice ra317Around (((⟨t.qh, (bags.take s.qf.length), bags[s.qf.length]!⟩ : qP).ql).length) rc317Around] Tryz.sizeOf38 fun w325 H => ?_
    try dsimp only [List.set] at H
    refine ⟨H.pick [4, 6, 7, 8] [5, 6, 7, 8, 9, 10, 11], ?_⟩
    refine xO (by kernel_rfl) (?_)
    exact meet ⟨_, b311, ra317Alive, rc317Alive, ra317Bags, rc317Bags, ra317Around, rc317Around, rx317Bags, rF317Bags, (by exact qj (qj (qj (qj (rfl) rfl) rfl) rfl) rfl), N, H.pick [3, 0, 1, 2, 4, 5, 6, 7, 8] [0, 6, 7, 8, 9, 10]⟩
   ·skip
    refine xf #[.agg #[.int .i64 s.qI, .slice qp s.qf.length qo, .slice qF s.qg.length qC]] rfl rfl Tryz.call113 (Vl w253 s qp qo qO qF qC xq (H.get 1 rfl).1 (H.get 2 rfl).1) ?_
    rintro _ w327 rfl x328
    replace H := H.ext x328
    refine ⟨H.pick [0, 2, 3, 4] [0, 1, 2, 3, 4, 5, 6], ?_⟩
    refine rt 9 (pp b240 (0 + (s.qf.length : Int).toNat * 1)) (xN b240 (0) (t.qx.length + 1) c9 s.qf.length Tryz.underlying27 ti22 rfl rfl (by omega) (by omega)) (H.pick [0, 2, 3, 4] [0, 1, 2, 3, 4, 5, 6]) ?_
    refine xB [5, 10, 13] (by kernel_rfl) (by simp) (zh rfl ?_ (zh rfl ?_ (zh rfl ?_ xC)))
    ·skip
     obtain ⟨G329, hg331, hn330, H⟩ := H.Vt (α := List Int) 1 rfl 0 rfl (by decide)
     try dsimp only [List.set] at H
     have hl336 := H.isLen 0 rfl
     refine o_head H 0 rfl s.qf.length Tryz.underlying27 ti22 rfl rfl (by omega) (by omega) fun a332 G333 hG334 H => ?_
     have hl335 : (bags.take s.qf.length).length = s.qf.length := List.length_take_of_le (by omega)
     refine ⟨H.pick [0, 2, 3, 4] [2, 3, 4, 5, 6, 7, 8], ?_⟩
     refine xB [10, 13] (by kernel_rfl) (by simp) (zh rfl ?_ (zh rfl ?_ xC))
     ·skip
      have hl337 := H.isLen 1 rfl
      obtain ⟨ae338, ce338, Fe338, H⟩ := H.jC 1 rfl s.qf.length s.qf.length (by omega) (by omega) (by omega)
      refine qE (.slice ae338 ((bags[s.qf.length]!).length) ce338) Tryz.isAgg22 rfl (H.xR 1 rfl 0 rfl) ?_
      refine ⟨H.pick [0, 2, 3, 4] [4, 5, 6, 7, 8, 9, 10], ?_⟩
      refine xB [11, 13] (by kernel_rfl) (by simp) (zh rfl ?_ (zh rfl ?_ xC))
      ·skip
       refine jQ [.slice qN t.qh.length qH, .slice a332 ((bags.take s.qf.length).length) c9, .slice ae338 ((bags[s.qf.length]!).length) ce338] [(0, .slice qN t.qh.length qH), (1, .slice a332 ((bags.take s.qf.length).length) c9), (2, .slice ae338 ((bags[s.qf.length]!).length) ce338)] ?_
       refine ⟨H.pick [0, 2, 3, 4] [4, 5, 6, 7, 8, 9, 10], ?_⟩
       refine xB [12, 13] (by kernel_rfl) (by simp) (zh rfl ?_ (zh rfl ?_ xC))
       ·skip
        obtain ⟨cp0, cp1, cp2, cp3⟩ := yV (al := t.qh) E_bags p8 p9.2 p12
        have sz342 := H.base.size
        refine xf #[.agg #[.slice qN t.qh.length qH, .slice a332 ((bags.take s.qf.length).length) c9, .slice ae338 ((bags[s.qf.length]!).length) ce338]] rfl rfl Tryz.call77 (jR w327 (⟨t.qh, (bags.take s.qf.length), bags[s.qf.length]!⟩ : qP) qN qH xK a332 c9 G333 ae338 ce338 Fe338 (H.get 7 rfl).1 (H.get 2 rfl).1 (H.get 0 rfl).1 (by first | assumption | omega) (by first | assumption | omega) (by first | assumption | omega) (by first | assumption | omega)) ?_
        rintro _ w340 ⟨ra339Alive, rn339Alive, rc339Alive, ra339Bags, rn339Bags, rc339Bags, rx339Bags, rF339Bags, ra339Around, rn339Around, rc339Around, rfl, M, K⟩ _
        replace N := N.merge sz342 (by simp) M
        replace H := H.merge K M
        dsimp only [List.cons_append, List.nil_append] at H
        obtain rfl := H.Vb 0 rfl
        obtain rfl := H.zB (α := List Int) 1 rfl 0 rfl (by decide)
        obtain rfl := H.VB 2 rfl
        refine ⟨H.pick [3, 5, 6, 7] [5, 6, 7, 8, 9, 10, 11], ?_⟩
        refine xB [13] (by kernel_rfl) (by simp) (zh rfl ?_ xC)
        refine zL H ti38 [.slice none 0 0, .slice none 0 0, .slice none 0 0] fun b347 w348 H => ?_
        refine ⟨H.pick [4, 6, 7, 8] [5, 6, 7, 8, 9, 10, 11], ?_⟩
        refine xB [14] (by kernel_rfl) (by simp) (zh rfl ?_ xC)
        refine zn H 0 [.slice ra339Alive (((⟨t.qh, (bags.take s.qf.length), bags[s.qf.length]!⟩ : qP).qh).length) rc339Alive, .slice ra339Bags (((⟨t.qh, (bags.take s.qf.length), bags[s.qf.length]!⟩ : qP).qx).length) rc339Bags, .slice ra339Around (((⟨t.qh, (bags.take s.qf.length), bags[s.qf.length]!⟩ : qP).ql).length) rc339Around] Tryz.sizeOf38 fun w349 H => ?_
        try dsimp only [List.set] at H
        refine ⟨H.pick [4, 6, 7, 8] [5, 6, 7, 8, 9, 10, 11], ?_⟩
        refine xO (by kernel_rfl) (?_)
        exact meet ⟨_, b347, ra339Alive, rc339Alive, ra339Bags, rc339Bags, ra339Around, rc339Around, rx339Bags, rF339Bags, (by exact qj (qj (qj (qj (rfl) rfl) rfl) rfl) rfl), N, H.pick [0, 1, 2, 3, 4, 5, 6, 7, 8] [0, 6, 7, 8, 9, 10]⟩
       refine zL H ti38 [.slice none 0 0, .slice none 0 0, .slice none 0 0] fun b350 w351 H => ?_
       refine ⟨H.pick [1, 3, 4, 5] [4, 5, 6, 7, 8, 9, 10], ?_⟩
       refine xB [12] (by kernel_rfl) (by simp) (zh rfl ?_ xC)
       obtain ⟨cp0, cp1, cp2, cp3⟩ := yV (al := t.qh) E_bags p8 p9.2 p12
       have sz355 := H.base.size
       refine xf #[.agg #[.slice qN t.qh.length qH, .slice a332 ((bags.take s.qf.length).length) c9, .slice ae338 ((bags[s.qf.length]!).length) ce338]] rfl rfl Tryz.call77 (jR w351 (⟨t.qh, (bags.take s.qf.length), bags[s.qf.length]!⟩ : qP) qN qH xK a332 c9 G333 ae338 ce338 Fe338 (H.get 7 rfl).1 (H.get 2 rfl).1 (H.get 0 rfl).1 (by first | assumption | omega) (by first | assumption | omega) (by first | assumption | omega) (by first | assumption | omega)) ?_
       rintro _ w353 ⟨ra352Alive, rn352Alive, rc352Alive, ra352Bags, rn352Bags, rc352Bags, rx352Bags, rF352Bags, ra352Around, rn352Around, rc352Around, rfl, M, K⟩ _
       replace N := N.merge sz355 (by simp) M
       replace H := H.merge K M
       dsimp only [List.cons_append, List.nil_append] at H
       obtain rfl := H.Vb 0 rfl
       obtain rfl := H.zB (α := List Int) 1 rfl 0 rfl (by decide)
       obtain rfl := H.VB 2 rfl
       refine ⟨H.pick [4, 6, 7, 8] [5, 6, 7, 8, 9, 10, 11], ?_⟩
       refine xB [14] (by kernel_rfl) (by simp) (zh rfl ?_ xC)
       refine zn H 3 [.slice ra352Alive (((⟨t.qh, (bags.take s.qf.length), bags[s.qf.length]!⟩ : qP).qh).length) rc352Alive, .slice ra352Bags (((⟨t.qh, (bags.take s.qf.length), bags[s.qf.length]!⟩ : qP).qx).length) rc352Bags, .slice ra352Around (((⟨t.qh, (bags.take s.qf.length), bags[s.qf.length]!⟩ : qP).ql).length) rc352Around] Tryz.sizeOf38 fun w360 H => ?_
       try dsimp only [List.set] at H
       refine ⟨H.pick [4, 6, 7, 8] [5, 6, 7, 8, 9, 10, 11], ?_⟩
       refine xO (by kernel_rfl) (?_)
       exact meet ⟨_, b350, ra352Alive, rc352Alive, ra352Bags, rc352Bags, ra352Around, rc352Around, rx352Bags, rF352Bags, (by exact qj (qj (qj (qj (rfl) rfl) rfl) rfl) rfl), N, H.pick [3, 0, 1, 2, 4, 5, 6, 7, 8] [0, 6, 7, 8, 9, 10]⟩
      refine zL H ti38 [.slice none 0 0, .slice none 0 0, .slice none 0 0] fun b361 w362 H => ?_
      refine ⟨H.pick [1, 3, 4, 5] [4, 5, 6, 7, 8, 9, 10], ?_⟩
      refine xB [11] (by kernel_rfl) (by simp) (zh rfl ?_ xC)
      refine jQ [.slice qN t.qh.length qH, .slice a332 ((bags.take s.qf.length).length) c9, .slice ae338 ((bags[s.qf.length]!).length) ce338] [(0, .slice qN t.qh.length qH), (1, .slice a332 ((bags.take s.qf.length).length) c9), (2, .slice ae338 ((bags[s.qf.length]!).length) ce338)] ?_
      refine ⟨H.pick [1, 3, 4, 5] [4, 5, 6, 7, 8, 9, 10], ?_⟩
      refine xB [12] (by kernel_rfl) (by simp) (zh rfl ?_ xC)
      obtain ⟨cp0, cp1, cp2, cp3⟩ := yV (al := t.qh) E_bags p8 p9.2 p12
      have sz366 := H.base.size
      refine xf #[.agg #[.slice qN t.qh.length qH, .slice a332 ((bags.take s.qf.length).length) c9, .slice ae338 ((bags[s.qf.length]!).length) ce338]] rfl rfl Tryz.call77 (jR w362 (⟨t.qh, (bags.take s.qf.length), bags[s.qf.length]!⟩ : qP) qN qH xK a332 c9 G333 ae338 ce338 Fe338 (H.get 7 rfl).1 (H.get 2 rfl).1 (H.get 0 rfl).1 (by first | assumption | omega) (by first | assumption | omega) (by first | assumption | omega) (by first | assumption | omega)) ?_
      rintro _ w364 ⟨ra363Alive, rn363Alive, rc363Alive, ra363Bags, rn363Bags, rc363Bags, rx363Bags, rF363Bags, ra363Around, rn363Around, rc363Around, rfl, M, K⟩ _
      replace N := N.merge sz366 (by simp) M
      replace H := H.merge K M
      dsimp only [List.cons_append, List.nil_append] at H
      obtain rfl := H.Vb 0 rfl
      obtain rfl := H.zB (α := List Int) 1 rfl 0 rfl (by decide)
      obtain rfl := H.VB 2 rfl
      refine ⟨H.pick [4, 6, 7, 8] [5, 6, 7, 8, 9, 10, 11], ?_⟩
      refine xB [14] (by kernel_rfl) (by simp) (zh rfl ?_ xC)
      refine zn H 3 [.slice ra363Alive (((⟨t.qh, (bags.take s.qf.length), bags[s.qf.length]!⟩ : qP).qh).length) rc363Alive, .slice ra363Bags (((⟨t.qh, (bags.take s.qf.length), bags[s.qf.length]!⟩ : qP).qx).length) rc363Bags, .slice ra363Around (((⟨t.qh, (bags.take s.qf.length), bags[s.qf.length]!⟩ : qP).ql).length) rc363Around] Tryz.sizeOf38 fun w371 H => ?_
      try dsimp only [List.set] at H
      refine ⟨H.pick [4, 6, 7, 8] [5, 6, 7, 8, 9, 10, 11], ?_⟩
      refine xO (by kernel_rfl) (?_)
      exact meet ⟨_, b361, ra363Alive, rc363Alive, ra363Bags, rc363Bags, ra363Around, rc363Around, rx363Bags, rF363Bags, (by exact qj (qj (qj (qj (rfl) rfl) rfl) rfl) rfl), N, H.pick [3, 0, 1, 2, 4, 5, 6, 7, 8] [0, 6, 7, 8, 9, 10]⟩
     refine zL H ti38 [.slice none 0 0, .slice none 0 0, .slice none 0 0] fun b372 w373 H => ?_
     refine ⟨H.pick [1, 3, 4, 5] [2, 3, 4, 5, 6, 7, 8], ?_⟩
     refine xB [10] (by kernel_rfl) (by simp) (zh rfl ?_ xC)
     have hl374 := H.isLen 1 rfl
     obtain ⟨ae375, ce375, Fe375, H⟩ := H.jC 1 rfl s.qf.length s.qf.length (by omega) (by omega) (by omega)
     refine qE (.slice ae375 ((bags[s.qf.length]!).length) ce375) Tryz.isAgg22 rfl (H.xR 1 rfl 0 rfl) ?_
     refine ⟨H.pick [1, 3, 4, 5] [4, 5, 6, 7, 8, 9, 10], ?_⟩
     refine xB [11] (by kernel_rfl) (by simp) (zh rfl ?_ xC)
     refine jQ [.slice qN t.qh.length qH, .slice a332 ((bags.take s.qf.length).length) c9, .slice ae375 ((bags[s.qf.length]!).length) ce375] [(0, .slice qN t.qh.length qH), (1, .slice a332 ((bags.take s.qf.length).length) c9), (2, .slice ae375 ((bags[s.qf.length]!).length) ce375)] ?_
     refine ⟨H.pick [1, 3, 4, 5] [4, 5, 6, 7, 8, 9, 10], ?_⟩
     refine xB [12] (by kernel_rfl) (by simp) (zh rfl ?_ xC)
     obtain ⟨cp0, cp1, cp2, cp3⟩ := yV (al := t.qh) E_bags p8 p9.2 p12
     have sz379 := H.base.size
     refine xf #[.agg #[.slice qN t.qh.length qH, .slice a332 ((bags.take s.qf.length).length) c9, .slice ae375 ((bags[s.qf.length]!).length) ce375]] rfl rfl Tryz.call77 (jR w373 (⟨t.qh, (bags.take s.qf.length), bags[s.qf.length]!⟩ : qP) qN qH xK a332 c9 G333 ae375 ce375 Fe375 (H.get 7 rfl).1 (H.get 2 rfl).1 (H.get 0 rfl).1 (by first | assumption | omega) (by first | assumption | omega) (by first | assumption | omega) (by first | assumption | omega)) ?_
     rintro _ w377 ⟨ra376Alive, rn376Alive, rc376Alive, ra376Bags, rn376Bags, rc376Bags, rx376Bags, rF376Bags, ra376Around, rn376Around, rc376Around, rfl, M, K⟩ _
     replace N := N.merge sz379 (by simp) M
     replace H := H.merge K M
     dsimp only [List.cons_append, List.nil_append] at H
     obtain rfl := H.Vb 0 rfl
     obtain rfl := H.zB (α := List Int) 1 rfl 0 rfl (by decide)
     obtain rfl := H.VB 2 rfl
     refine ⟨H.pick [4, 6, 7, 8] [5, 6, 7, 8, 9, 10, 11], ?_⟩
     refine xB [14] (by kernel_rfl) (by simp) (zh rfl ?_ xC)
     refine zn H 3 [.slice ra376Alive (((⟨t.qh, (bags.take s.qf.length), bags[s.qf.length]!⟩ : qP).qh).length) rc376Alive, .slice ra376Bags (((⟨t.qh, (bags.take s.qf.length), bags[s.qf.length]!⟩ : qP).qx).length) rc376Bags, .slice ra376Around (((⟨t.qh, (bags.take s.qf.length), bags[s.qf.length]!⟩ : qP).ql).length) rc376Around] Tryz.sizeOf38 fun w384 H => ?_
     try dsimp only [List.set] at H
     refine ⟨H.pick [4, 6, 7, 8] [5, 6, 7, 8, 9, 10, 11], ?_⟩
     refine xO (by kernel_rfl) (?_)
     exact meet ⟨_, b372, ra376Alive, rc376Alive, ra376Bags, rc376Bags, ra376Around, rc376Around, rx376Bags, rF376Bags, (by exact qj (qj (qj (qj (rfl) rfl) rfl) rfl) rfl), N, H.pick [3, 0, 1, 2, 4, 5, 6, 7, 8] [0, 6, 7, 8, 9, 10]⟩
    ·skip
     obtain ⟨a385, c386, G387, s388, h389, H⟩ := H.jq 1 rfl 0 rfl (iv := s.qf.length) s.qf.length (by omega) (by omega)
     refine qE (.slice a385 ((bags[s.qf.length]!).length) c386) Tryz.isAgg22 rfl (h389) ?_
     refine ⟨H.pick [0, 2, 3, 4] [1, 2, 3, 4, 5, 6, 7], ?_⟩
     refine xB [5, 13] (by kernel_rfl) (by simp) (zh rfl ?_ (zh rfl ?_ xC))
     ·skip
      obtain ⟨G390, hg392, hn391, H⟩ := H.Vt (α := List Int) 1 rfl 1 rfl (by decide)
      try dsimp only [List.set] at H
      have hl397 := H.isLen 0 rfl
      refine o_head H 0 rfl s.qf.length Tryz.underlying27 ti22 rfl rfl (by omega) (by omega) fun a393 G394 hG395 H => ?_
      have hl396 : (bags.take s.qf.length).length = s.qf.length := List.length_take_of_le (by omega)
      refine ⟨H.pick [0, 2, 3, 4] [3, 4, 5, 6, 7, 8, 9], ?_⟩
      refine xB [11, 13] (by kernel_rfl) (by simp) (zh rfl ?_ (zh rfl ?_ xC))
      ·skip
       refine jQ [.slice qN t.qh.length qH, .slice a393 ((bags.take s.qf.length).length) c9, .slice a385 ((bags[s.qf.length]!).length) c386] [(0, .slice qN t.qh.length qH), (1, .slice a393 ((bags.take s.qf.length).length) c9), (2, .slice a385 ((bags[s.qf.length]!).length) c386)] ?_
       refine ⟨H.pick [0, 2, 3, 4] [3, 4, 5, 6, 7, 8, 9], ?_⟩
       refine xB [12, 13] (by kernel_rfl) (by simp) (zh rfl ?_ (zh rfl ?_ xC))
       ·skip
        obtain ⟨cp0, cp1, cp2, cp3⟩ := yV (al := t.qh) E_bags p8 p9.2 p12
        have sz401 := H.base.size
        refine xf #[.agg #[.slice qN t.qh.length qH, .slice a393 ((bags.take s.qf.length).length) c9, .slice a385 ((bags[s.qf.length]!).length) c386]] rfl rfl Tryz.call77 (jR w327 (⟨t.qh, (bags.take s.qf.length), bags[s.qf.length]!⟩ : qP) qN qH xK a393 c9 G394 a385 c386 G387 (H.get 6 rfl).1 (H.get 0 rfl).1 (H.get 2 rfl).1 (by first | assumption | omega) (by first | assumption | omega) (by first | assumption | omega) (by first | assumption | omega)) ?_
        rintro _ w399 ⟨ra398Alive, rn398Alive, rc398Alive, ra398Bags, rn398Bags, rc398Bags, rx398Bags, rF398Bags, ra398Around, rn398Around, rc398Around, rfl, M, K⟩ _
        replace N := N.merge sz401 (by simp) M
        replace H := H.merge K M
        dsimp only [List.cons_append, List.nil_append] at H
        obtain rfl := H.Vb 0 rfl
        obtain rfl := H.zB (α := List Int) 1 rfl 0 rfl (by decide)
        obtain rfl := H.VB 2 rfl
        refine ⟨H.pick [3, 5, 6, 7] [4, 5, 6, 7, 8, 9, 10], ?_⟩
        refine xB [13] (by kernel_rfl) (by simp) (zh rfl ?_ xC)
        refine zL H ti38 [.slice none 0 0, .slice none 0 0, .slice none 0 0] fun b406 w407 H => ?_
        refine ⟨H.pick [4, 6, 7, 8] [4, 5, 6, 7, 8, 9, 10], ?_⟩
        refine xB [14] (by kernel_rfl) (by simp) (zh rfl ?_ xC)
        refine zn H 0 [.slice ra398Alive (((⟨t.qh, (bags.take s.qf.length), bags[s.qf.length]!⟩ : qP).qh).length) rc398Alive, .slice ra398Bags (((⟨t.qh, (bags.take s.qf.length), bags[s.qf.length]!⟩ : qP).qx).length) rc398Bags, .slice ra398Around (((⟨t.qh, (bags.take s.qf.length), bags[s.qf.length]!⟩ : qP).ql).length) rc398Around] Tryz.sizeOf38 fun w408 H => ?_
        try dsimp only [List.set] at H
        refine ⟨H.pick [4, 6, 7, 8] [4, 5, 6, 7, 8, 9, 10], ?_⟩
        refine xO (by kernel_rfl) (?_)
        exact meet ⟨_, b406, ra398Alive, rc398Alive, ra398Bags, rc398Bags, ra398Around, rc398Around, rx398Bags, rF398Bags, (by exact qj (qj (qj (qj (rfl) rfl) rfl) rfl) rfl), N, H.pick [0, 1, 2, 3, 4, 5, 6, 7, 8] [0, 5, 6, 7, 8, 9]⟩
       refine zL H ti38 [.slice none 0 0, .slice none 0 0, .slice none 0 0] fun b409 w410 H => ?_
       refine ⟨H.pick [1, 3, 4, 5] [3, 4, 5, 6, 7, 8, 9], ?_⟩
       refine xB [12] (by kernel_rfl) (by simp) (zh rfl ?_ xC)
       obtain ⟨cp0, cp1, cp2, cp3⟩ := yV (al := t.qh) E_bags p8 p9.2 p12
       have sz414 := H.base.size
       refine xf #[.agg #[.slice qN t.qh.length qH, .slice a393 ((bags.take s.qf.length).length) c9, .slice a385 ((bags[s.qf.length]!).length) c386]] rfl rfl Tryz.call77 (jR w410 (⟨t.qh, (bags.take s.qf.length), bags[s.qf.length]!⟩ : qP) qN qH xK a393 c9 G394 a385 c386 G387 (H.get 6 rfl).1 (H.get 0 rfl).1 (H.get 2 rfl).1 (by first | assumption | omega) (by first | assumption | omega) (by first | assumption | omega) (by first | assumption | omega)) ?_
       rintro _ w412 ⟨ra411Alive, rn411Alive, rc411Alive, ra411Bags, rn411Bags, rc411Bags, rx411Bags, rF411Bags, ra411Around, rn411Around, rc411Around, rfl, M, K⟩ _
       replace N := N.merge sz414 (by simp) M
       replace H := H.merge K M
       dsimp only [List.cons_append, List.nil_append] at H
       obtain rfl := H.Vb 0 rfl
       obtain rfl := H.zB (α := List Int) 1 rfl 0 rfl (by decide)
       obtain rfl := H.VB 2 rfl
       refine ⟨H.pick [4, 6, 7, 8] [4, 5, 6, 7, 8, 9, 10], ?_⟩
       refine xB [14] (by kernel_rfl) (by simp) (zh rfl ?_ xC)
       refine zn H 3 [.slice ra411Alive (((⟨t.qh, (bags.take s.qf.length), bags[s.qf.length]!⟩ : qP).qh).length) rc411Alive, .slice ra411Bags (((⟨t.qh, (bags.take s.qf.length), bags[s.qf.length]!⟩ : qP).qx).length) rc411Bags, .slice ra411Around (((⟨t.qh, (bags.take s.qf.length), bags[s.qf.length]!⟩ : qP).ql).length) rc411Around] Tryz.sizeOf38 fun w419 H => ?_
       try dsimp only [List.set] at H
       refine ⟨H.pick [4, 6, 7, 8] [4, 5, 6, 7, 8, 9, 10], ?_⟩
       refine xO (by kernel_rfl) (?_)
       exact meet ⟨_, b409, ra411Alive, rc411Alive, ra411Bags, rc411Bags, ra411Around, rc411Around, rx411Bags, rF411Bags, (by exact qj (qj (qj (qj (rfl) rfl) rfl) rfl) rfl), N, H.pick [3, 0, 1, 2, 4, 5, 6, 7, 8] [0, 5, 6, 7, 8, 9]⟩
      refine zL H ti38 [.slice none 0 0, .slice none 0 0, .slice none 0 0] fun b420 w421 H => ?_
      refine ⟨H.pick [1, 3, 4, 5] [3, 4, 5, 6, 7, 8, 9], ?_⟩
      refine xB [11] (by kernel_rfl) (by simp) (zh rfl ?_ xC)
      refine jQ [.slice qN t.qh.length qH, .slice a393 ((bags.take s.qf.length).length) c9, .slice a385 ((bags[s.qf.length]!).length) c386] [(0, .slice qN t.qh.length qH), (1, .slice a393 ((bags.take s.qf.length).length) c9), (2, .slice a385 ((bags[s.qf.length]!).length) c386)] ?_
      refine ⟨H.pick [1, 3, 4, 5] [3, 4, 5, 6, 7, 8, 9], ?_⟩
      refine xB [12] (by kernel_rfl) (by simp) (zh rfl ?_ xC)
      obtain ⟨cp0, cp1, cp2, cp3⟩ := yV (al := t.qh) E_bags p8 p9.2 p12
      have sz425 := H.base.size
      refine xf #[.agg #[.slice qN t.qh.length qH, .slice a393 ((bags.take s.qf.length).length) c9, .slice a385 ((bags[s.qf.length]!).length) c386]] rfl rfl Tryz.call77 (jR w421 (⟨t.qh, (bags.take s.qf.length), bags[s.qf.length]!⟩ : qP) qN qH xK a393 c9 G394 a385 c386 G387 (H.get 6 rfl).1 (H.get 0 rfl).1 (H.get 2 rfl).1 (by first | assumption | omega) (by first | assumption | omega) (by first | assumption | omega) (by first | assumption | omega)) ?_
      rintro _ w423 ⟨ra422Alive, rn422Alive, rc422Alive, ra422Bags, rn422Bags, rc422Bags, rx422Bags, rF422Bags, ra422Around, rn422Around, rc422Around, rfl, M, K⟩ _
      replace N := N.merge sz425 (by simp) M
      replace H := H.merge K M
      dsimp only [List.cons_append, List.nil_append] at H
      obtain rfl := H.Vb 0 rfl
      obtain rfl := H.zB (α := List Int) 1 rfl 0 rfl (by decide)
      obtain rfl := H.VB 2 rfl
      refine ⟨H.pick [4, 6, 7, 8] [4, 5, 6, 7, 8, 9, 10], ?_⟩
      refine xB [14] (by kernel_rfl) (by simp) (zh rfl ?_ xC)
      refine zn H 3 [.slice ra422Alive (((⟨t.qh, (bags.take s.qf.length), bags[s.qf.length]!⟩ : qP).qh).length) rc422Alive, .slice ra422Bags (((⟨t.qh, (bags.take s.qf.length), bags[s.qf.length]!⟩ : qP).qx).length) rc422Bags, .slice ra422Around (((⟨t.qh, (bags.take s.qf.length), bags[s.qf.length]!⟩ : qP).ql).length) rc422Around] Tryz.sizeOf38 fun w430 H => ?_
      try dsimp only [List.set] at H
      refine ⟨H.pick [4, 6, 7, 8] [4, 5, 6, 7, 8, 9, 10], ?_⟩
      refine xO (by kernel_rfl) (?_)
      exact meet ⟨_, b420, ra422Alive, rc422Alive, ra422Bags, rc422Bags, ra422Around, rc422Around, rx422Bags, rF422Bags, (by exact qj (qj (qj (qj (rfl) rfl) rfl) rfl) rfl), N, H.pick [3, 0, 1, 2, 4, 5, 6, 7, 8] [0, 5, 6, 7, 8, 9]⟩
     refine zL H ti38 [.slice none 0 0, .slice none 0 0, .slice none 0 0] fun b431 w432 H => ?_
     refine ⟨H.pick [1, 3, 4, 5] [1, 2, 3, 4, 5, 6, 7], ?_⟩
     refine xB [5] (by kernel_rfl) (by simp) (zh rfl ?_ xC)
     obtain ⟨G433, hg435, hn434, H⟩ := H.Vt (α := List Int) 2 rfl 1 rfl (by decide)
     try dsimp only [List.set] at H
     have hl440 := H.isLen 0 rfl
     refine o_head H 0 rfl s.qf.length Tryz.underlying27 ti22 rfl rfl (by omega) (by omega) fun a436 G437 hG438 H => ?_
     have hl439 : (bags.take s.qf.length).length = s.qf.length := List.length_take_of_le (by omega)
     refine ⟨H.pick [1, 3, 4, 5] [3, 4, 5, 6, 7, 8, 9], ?_⟩
     refine xB [11] (by kernel_rfl) (by simp) (zh rfl ?_ xC)
     refine jQ [.slice qN t.qh.length qH, .slice a436 ((bags.take s.qf.length).length) c9, .slice a385 ((bags[s.qf.length]!).length) c386] [(0, .slice qN t.qh.length qH), (1, .slice a436 ((bags.take s.qf.length).length) c9), (2, .slice a385 ((bags[s.qf.length]!).length) c386)] ?_
     refine ⟨H.pick [1, 3, 4, 5] [3, 4, 5, 6, 7, 8, 9], ?_⟩
     refine xB [12] (by kernel_rfl) (by simp) (zh rfl ?_ xC)
     obtain ⟨cp0, cp1, cp2, cp3⟩ := yV (al := t.qh) E_bags p8 p9.2 p12
     have sz444 := H.base.size
     refine xf #[.agg #[.slice qN t.qh.length qH, .slice a436 ((bags.take s.qf.length).length) c9, .slice a385 ((bags[s.qf.length]!).length) c386]] rfl rfl Tryz.call77 (jR w432 (⟨t.qh, (bags.take s.qf.length), bags[s.qf.length]!⟩ : qP) qN qH xK a436 c9 G437 a385 c386 G387 (H.get 6 rfl).1 (H.get 0 rfl).1 (H.get 2 rfl).1 (by first | assumption | omega) (by first | assumption | omega) (by first | assumption | omega) (by first | assumption | omega)) ?_
     rintro _ w442 ⟨ra441Alive, rn441Alive, rc441Alive, ra441Bags, rn441Bags, rc441Bags, rx441Bags, rF441Bags, ra441Around, rn441Around, rc441Around, rfl, M, K⟩ _
     replace N := N.merge sz444 (by simp) M
     replace H := H.merge K M
     dsimp only [List.cons_append, List.nil_append] at H
     obtain rfl := H.Vb 0 rfl
     obtain rfl := H.zB (α := List Int) 1 rfl 0 rfl (by decide)
     obtain rfl := H.VB 2 rfl
     refine ⟨H.pick [4, 6, 7, 8] [4, 5, 6, 7, 8, 9, 10], ?_⟩
     refine xB [14] (by kernel_rfl) (by simp) (zh rfl ?_ xC)
     refine zn H 3 [.slice ra441Alive (((⟨t.qh, (bags.take s.qf.length), bags[s.qf.length]!⟩ : qP).qh).length) rc441Alive, .slice ra441Bags (((⟨t.qh, (bags.take s.qf.length), bags[s.qf.length]!⟩ : qP).qx).length) rc441Bags, .slice ra441Around (((⟨t.qh, (bags.take s.qf.length), bags[s.qf.length]!⟩ : qP).ql).length) rc441Around] Tryz.sizeOf38 fun w449 H => ?_
     try dsimp only [List.set] at H
     refine ⟨H.pick [4, 6, 7, 8] [4, 5, 6, 7, 8, 9, 10], ?_⟩
     refine xO (by kernel_rfl) (?_)
     exact meet ⟨_, b431, ra441Alive, rc441Alive, ra441Bags, rc441Bags, ra441Around, rc441Around, rx441Bags, rF441Bags, (by exact qj (qj (qj (qj (rfl) rfl) rfl) rfl) rfl), N, H.pick [3, 0, 1, 2, 4, 5, 6, 7, 8] [0, 5, 6, 7, 8, 9]⟩
    refine zL H ti38 [.slice none 0 0, .slice none 0 0, .slice none 0 0] fun b450 w451 H => ?_
    refine ⟨H.pick [1, 3, 4, 5] [0, 1, 2, 3, 4, 5, 6], ?_⟩
    refine xB [5, 10] (by kernel_rfl) (by simp) (zh rfl ?_ (zh rfl ?_ xC))
    ·skip
     obtain ⟨G452, hg454, hn453, H⟩ := H.Vt (α := List Int) 2 rfl 0 rfl (by decide)
     try dsimp only [List.set] at H
     have hl459 := H.isLen 0 rfl
     refine o_head H 0 rfl s.qf.length Tryz.underlying27 ti22 rfl rfl (by omega) (by omega) fun a455 G456 hG457 H => ?_
     have hl458 : (bags.take s.qf.length).length = s.qf.length := List.length_take_of_le (by omega)
     refine ⟨H.pick [1, 3, 4, 5] [2, 3, 4, 5, 6, 7, 8], ?_⟩
     refine xB [10] (by kernel_rfl) (by simp) (zh rfl ?_ xC)
     have hl460 := H.isLen 1 rfl
     obtain ⟨ae461, ce461, Fe461, H⟩ := H.jC 1 rfl s.qf.length s.qf.length (by omega) (by omega) (by omega)
     refine qE (.slice ae461 ((bags[s.qf.length]!).length) ce461) Tryz.isAgg22 rfl (H.xR 1 rfl 0 rfl) ?_
     refine ⟨H.pick [1, 3, 4, 5] [4, 5, 6, 7, 8, 9, 10], ?_⟩
     refine xB [11] (by kernel_rfl) (by simp) (zh rfl ?_ xC)
     refine jQ [.slice qN t.qh.length qH, .slice a455 ((bags.take s.qf.length).length) c9, .slice ae461 ((bags[s.qf.length]!).length) ce461] [(0, .slice qN t.qh.length qH), (1, .slice a455 ((bags.take s.qf.length).length) c9), (2, .slice ae461 ((bags[s.qf.length]!).length) ce461)] ?_
     refine ⟨H.pick [1, 3, 4, 5] [4, 5, 6, 7, 8, 9, 10], ?_⟩
     refine xB [12] (by kernel_rfl) (by simp) (zh rfl ?_ xC)
     obtain ⟨cp0, cp1, cp2, cp3⟩ := yV (al := t.qh) E_bags p8 p9.2 p12
     have sz465 := H.base.size
     refine xf #[.agg #[.slice qN t.qh.length qH, .slice a455 ((bags.take s.qf.length).length) c9, .slice ae461 ((bags[s.qf.length]!).length) ce461]] rfl rfl Tryz.call77 (jR w451 (⟨t.qh, (bags.take s.qf.length), bags[s.qf.length]!⟩ : qP) qN qH xK a455 c9 G456 ae461 ce461 Fe461 (H.get 7 rfl).1 (H.get 2 rfl).1 (H.get 0 rfl).1 (by first | assumption | omega) (by first | assumption | omega) (by first | assumption | omega) (by first | assumption | omega)) ?_
     rintro _ w463 ⟨ra462Alive, rn462Alive, rc462Alive, ra462Bags, rn462Bags, rc462Bags, rx462Bags, rF462Bags, ra462Around, rn462Around, rc462Around, rfl, M, K⟩ _
     replace N := N.merge sz465 (by simp) M
     replace H := H.merge K M
     dsimp only [List.cons_append, List.nil_append] at H
     obtain rfl := H.Vb 0 rfl
     obtain rfl := H.zB (α := List Int) 1 rfl 0 rfl (by decide)
     obtain rfl := H.VB 2 rfl
     refine ⟨H.pick [4, 6, 7, 8] [5, 6, 7, 8, 9, 10, 11], ?_⟩
     refine xB [14] (by kernel_rfl) (by simp) (zh rfl ?_ xC)
     refine zn H 3 [.slice ra462Alive (((⟨t.qh, (bags.take s.qf.length), bags[s.qf.length]!⟩ : qP).qh).length) rc462Alive, .slice ra462Bags (((⟨t.qh, (bags.take s.qf.length), bags[s.qf.length]!⟩ : qP).qx).length) rc462Bags, .slice ra462Around (((⟨t.qh, (bags.take s.qf.length), bags[s.qf.length]!⟩ : qP).ql).length) rc462Around] Tryz.sizeOf38 fun w470 H => ?_
     try dsimp only [List.set] at H
     refine ⟨H.pick [4, 6, 7, 8] [5, 6, 7, 8, 9, 10, 11], ?_⟩
     refine xO (by kernel_rfl) (?_)
     exact meet ⟨_, b450, ra462Alive, rc462Alive, ra462Bags, rc462Bags, ra462Around, rc462Around, rx462Bags, rF462Bags, (by exact qj (qj (qj (qj (rfl) rfl) rfl) rfl) rfl), N, H.pick [3, 0, 1, 2, 4, 5, 6, 7, 8] [0, 6, 7, 8, 9, 10]⟩
    obtain ⟨a471, c472, G473, s474, h475, H⟩ := H.jq 2 rfl 0 rfl (iv := s.qf.length) s.qf.length (by omega) (by omega)
    refine qE (.slice a471 ((bags[s.qf.length]!).length) c472) Tryz.isAgg22 rfl (h475) ?_
    refine ⟨H.pick [1, 3, 4, 5] [1, 2, 3, 4, 5, 6, 7], ?_⟩
    refine xB [5] (by kernel_rfl) (by simp) (zh rfl ?_ xC)
    obtain ⟨G476, hg478, hn477, H⟩ := H.Vt (α := List Int) 2 rfl 1 rfl (by decide)
    try dsimp only [List.set] at H
    have hl483 := H.isLen 0 rfl
    refine o_head H 0 rfl s.qf.length Tryz.underlying27 ti22 rfl rfl (by omega) (by omega) fun a479 G480 hG481 H => ?_
    have hl482 : (bags.take s.qf.length).length = s.qf.length := List.length_take_of_le (by omega)
    refine ⟨H.pick [1, 3, 4, 5] [3, 4, 5, 6, 7, 8, 9], ?_⟩
    refine xB [11] (by kernel_rfl) (by simp) (zh rfl ?_ xC)
    refine jQ [.slice qN t.qh.length qH, .slice a479 ((bags.take s.qf.length).length) c9, .slice a471 ((bags[s.qf.length]!).length) c472] [(0, .slice qN t.qh.length qH), (1, .slice a479 ((bags.take s.qf.length).length) c9), (2, .slice a471 ((bags[s.qf.length]!).length) c472)] ?_
    refine ⟨H.pick [1, 3, 4, 5] [3, 4, 5, 6, 7, 8, 9], ?_⟩
    refine xB [12] (by kernel_rfl) (by simp) (zh rfl ?_ xC)
    obtain ⟨cp0, cp1, cp2, cp3⟩ := yV (al := t.qh) E_bags p8 p9.2 p12
    have sz487 := H.base.size
    refine xf #[.agg #[.slice qN t.qh.length qH, .slice a479 ((bags.take s.qf.length).length) c9, .slice a471 ((bags[s.qf.length]!).length) c472]] rfl rfl Tryz.call77 (jR w451 (⟨t.qh, (bags.take s.qf.length), bags[s.qf.length]!⟩ : qP) qN qH xK a479 c9 G480 a471 c472 G473 (H.get 6 rfl).1 (H.get 0 rfl).1 (H.get 2 rfl).1 (by first | assumption | omega) (by first | assumption | omega) (by first | assumption | omega) (by first | assumption | omega)) ?_
    rintro _ w485 ⟨ra484Alive, rn484Alive, rc484Alive, ra484Bags, rn484Bags, rc484Bags, rx484Bags, rF484Bags, ra484Around, rn484Around, rc484Around, rfl, M, K⟩ _
    replace N := N.merge sz487 (by simp) M
    replace H := H.merge K M
    dsimp only [List.cons_append, List.nil_append] at H
    obtain rfl := H.Vb 0 rfl
    obtain rfl := H.zB (α := List Int) 1 rfl 0 rfl (by decide)
    obtain rfl := H.VB 2 rfl
    refine ⟨H.pick [4, 6, 7, 8] [4, 5, 6, 7, 8, 9, 10], ?_⟩
    refine xB [14] (by kernel_rfl) (by simp) (zh rfl ?_ xC)
    refine zn H 3 [.slice ra484Alive (((⟨t.qh, (bags.take s.qf.length), bags[s.qf.length]!⟩ : qP).qh).length) rc484Alive, .slice ra484Bags (((⟨t.qh, (bags.take s.qf.length), bags[s.qf.length]!⟩ : qP).qx).length) rc484Bags, .slice ra484Around (((⟨t.qh, (bags.take s.qf.length), bags[s.qf.length]!⟩ : qP).ql).length) rc484Around] Tryz.sizeOf38 fun w492 H => ?_
    try dsimp only [List.set] at H
    refine ⟨H.pick [4, 6, 7, 8] [4, 5, 6, 7, 8, 9, 10], ?_⟩
    refine xO (by kernel_rfl) (?_)
    exact meet ⟨_, b450, ra484Alive, rc484Alive, ra484Bags, rc484Bags, ra484Around, rc484Around, rx484Bags, rF484Bags, (by exact qj (qj (qj (qj (rfl) rfl) rfl) rfl) rfl), N, H.pick [3, 0, 1, 2, 4, 5, 6, 7, 8] [0, 5, 6, 7, 8, 9]⟩
   refine zL H ti38 [.slice none 0 0, .slice none 0 0, .slice none 0 0] fun b493 w494 H => ?_
   refine ⟨H.pick [1, 3, 4, 5] [0, 1, 2, 3, 4, 5, 6], ?_⟩
   refine xB [5, 8] (by kernel_rfl) (by simp) (zh rfl ?_ (zh rfl ?_ xC))
   ·skip
    obtain ⟨G495, hg497, hn496, H⟩ := H.Vt (α := List Int) 2 rfl 0 rfl (by decide)
    try dsimp only [List.set] at H
    have hl502 := H.isLen 0 rfl
    refine o_head H 0 rfl s.qf.length Tryz.underlying27 ti22 rfl rfl (by omega) (by omega) fun a498 G499 hG500 H => ?_
    have hl501 : (bags.take s.qf.length).length = s.qf.length := List.length_take_of_le (by omega)
    refine ⟨H.pick [1, 3, 4, 5] [2, 3, 4, 5, 6, 7, 8], ?_⟩
    refine xB [8] (by kernel_rfl) (by simp) (zh rfl ?_ xC)
    refine xf #[.agg #[.int .i64 s.qI, .slice qp s.qf.length qo, .slice qF s.qg.length qC]] rfl rfl Tryz.call113 (Vl w494 s qp qo qO qF qC xq (H.get 3 rfl).1 (H.get 4 rfl).1) ?_
    rintro _ w504 rfl x505
    replace H := H.ext x505
    refine ⟨H.pick [1, 3, 4, 5] [2, 3, 4, 5, 6, 7, 8], ?_⟩
    obtain ⟨ae506, ce506, Fe506, H⟩ := H.jC 1 rfl s.qf.length s.qf.length (by omega) (by omega) (by omega)
    refine rt 9 (pp b240 (0 + (s.qf.length : Int).toNat * 1)) (xN b240 (0) (t.qx.length + 1) c9 s.qf.length Tryz.underlying27 ti22 rfl rfl (by omega) (by omega)) (H.pick [1, 3, 4, 5] [4, 5, 6, 7, 8, 9, 10]) ?_
    refine xB [10] (by kernel_rfl) (by simp) (zh rfl ?_ xC)
    refine qE (.slice ae506 ((bags[s.qf.length]!).length) ce506) Tryz.isAgg22 rfl (H.xR 1 rfl 0 rfl) ?_
    refine ⟨H.pick [1, 3, 4, 5] [4, 5, 6, 7, 8, 9, 10], ?_⟩
    refine xB [11] (by kernel_rfl) (by simp) (zh rfl ?_ xC)
    refine jQ [.slice qN t.qh.length qH, .slice a498 ((bags.take s.qf.length).length) c9, .slice ae506 ((bags[s.qf.length]!).length) ce506] [(0, .slice qN t.qh.length qH), (1, .slice a498 ((bags.take s.qf.length).length) c9), (2, .slice ae506 ((bags[s.qf.length]!).length) ce506)] ?_
    refine ⟨H.pick [1, 3, 4, 5] [4, 5, 6, 7, 8, 9, 10], ?_⟩
    refine xB [12] (by kernel_rfl) (by simp) (zh rfl ?_ xC)
    obtain ⟨cp0, cp1, cp2, cp3⟩ := yV (al := t.qh) E_bags p8 p9.2 p12
    have sz510 := H.base.size
    refine xf #[.agg #[.slice qN t.qh.length qH, .slice a498 ((bags.take s.qf.length).length) c9, .slice ae506 ((bags[s.qf.length]!).length) ce506]] rfl rfl Tryz.call77 (jR w504 (⟨t.qh, (bags.take s.qf.length), bags[s.qf.length]!⟩ : qP) qN qH xK a498 c9 G499 ae506 ce506 Fe506 (H.get 7 rfl).1 (H.get 2 rfl).1 (H.get 0 rfl).1 (by first | assumption | omega) (by first | assumption | omega) (by first | assumption | omega) (by first | assumption | omega)) ?_
    rintro _ w508 ⟨ra507Alive, rn507Alive, rc507Alive, ra507Bags, rn507Bags, rc507Bags, rx507Bags, rF507Bags, ra507Around, rn507Around, rc507Around, rfl, M, K⟩ _
    replace N := N.merge sz510 (by simp) M
    replace H := H.merge K M
    dsimp only [List.cons_append, List.nil_append] at H
    obtain rfl := H.Vb 0 rfl
    obtain rfl := H.zB (α := List Int) 1 rfl 0 rfl (by decide)
    obtain rfl := H.VB 2 rfl
    refine ⟨H.pick [4, 6, 7, 8] [5, 6, 7, 8, 9, 10, 11], ?_⟩
    refine xB [14] (by kernel_rfl) (by simp) (zh rfl ?_ xC)
    refine zn H 3 [.slice ra507Alive (((⟨t.qh, (bags.take s.qf.length), bags[s.qf.length]!⟩ : qP).qh).length) rc507Alive, .slice ra507Bags (((⟨t.qh, (bags.take s.qf.length), bags[s.qf.length]!⟩ : qP).qx).length) rc507Bags, .slice ra507Around (((⟨t.qh, (bags.take s.qf.length), bags[s.qf.length]!⟩ : qP).ql).length) rc507Around] Tryz.sizeOf38 fun w515 H => ?_
    try dsimp only [List.set] at H
    refine ⟨H.pick [4, 6, 7, 8] [5, 6, 7, 8, 9, 10, 11], ?_⟩
    refine xO (by kernel_rfl) (?_)
    exact meet ⟨_, b493, ra507Alive, rc507Alive, ra507Bags, rc507Bags, ra507Around, rc507Around, rx507Bags, rF507Bags, (by exact qj (qj (qj (qj (rfl) rfl) rfl) rfl) rfl), N, H.pick [3, 0, 1, 2, 4, 5, 6, 7, 8] [0, 6, 7, 8, 9, 10]⟩
   refine xf #[.agg #[.int .i64 s.qI, .slice qp s.qf.length qo, .slice qF s.qg.length qC]] rfl rfl Tryz.call113 (Vl w494 s qp qo qO qF qC xq (H.get 1 rfl).1 (H.get 2 rfl).1) ?_
   rintro _ w517 rfl x518
   replace H := H.ext x518
   refine ⟨H.pick [1, 3, 4, 5] [0, 1, 2, 3, 4, 5, 6], ?_⟩
   refine rt 9 (pp b240 (0 + (s.qf.length : Int).toNat * 1)) (xN b240 (0) (t.qx.length + 1) c9 s.qf.length Tryz.underlying27 ti22 rfl rfl (by omega) (by omega)) (H.pick [1, 3, 4, 5] [0, 1, 2, 3, 4, 5, 6]) ?_
   refine xB [5, 10] (by kernel_rfl) (by simp) (zh rfl ?_ (zh rfl ?_ xC))
   ·skip
    obtain ⟨G519, hg521, hn520, H⟩ := H.Vt (α := List Int) 2 rfl 0 rfl (by decide)
    try dsimp only [List.set] at H
    have hl526 := H.isLen 0 rfl
    refine o_head H 0 rfl s.qf.length Tryz.underlying27 ti22 rfl rfl (by omega) (by omega) fun a522 G523 hG524 H => ?_
    have hl525 : (bags.take s.qf.length).length = s.qf.length := List.length_take_of_le (by omega)
    refine ⟨H.pick [1, 3, 4, 5] [2, 3, 4, 5, 6, 7, 8], ?_⟩
    refine xB [10] (by kernel_rfl) (by simp) (zh rfl ?_ xC)
    have hl527 := H.isLen 1 rfl
    obtain ⟨ae528, ce528, Fe528, H⟩ := H.jC 1 rfl s.qf.length s.qf.length (by omega) (by omega) (by omega)
    refine qE (.slice ae528 ((bags[s.qf.length]!).length) ce528) Tryz.isAgg22 rfl (H.xR 1 rfl 0 rfl) ?_
    refine ⟨H.pick [1, 3, 4, 5] [4, 5, 6, 7, 8, 9, 10], ?_⟩
    refine xB [11] (by kernel_rfl) (by simp) (zh rfl ?_ xC)
    refine jQ [.slice qN t.qh.length qH, .slice a522 ((bags.take s.qf.length).length) c9, .slice ae528 ((bags[s.qf.length]!).length) ce528] [(0, .slice qN t.qh.length qH), (1, .slice a522 ((bags.take s.qf.length).length) c9), (2, .slice ae528 ((bags[s.qf.length]!).length) ce528)] ?_
    refine ⟨H.pick [1, 3, 4, 5] [4, 5, 6, 7, 8, 9, 10], ?_⟩
    refine xB [12] (by kernel_rfl) (by simp) (zh rfl ?_ xC)
    obtain ⟨cp0, cp1, cp2, cp3⟩ := yV (al := t.qh) E_bags p8 p9.2 p12
    have sz532 := H.base.size
    refine xf #[.agg #[.slice qN t.qh.length qH, .slice a522 ((bags.take s.qf.length).length) c9, .slice ae528 ((bags[s.qf.length]!).length) ce528]] rfl rfl Tryz.call77 (jR w517 (⟨t.qh, (bags.take s.qf.length), bags[s.qf.length]!⟩ : qP) qN qH xK a522 c9 G523 ae528 ce528 Fe528 (H.get 7 rfl).1 (H.get 2 rfl).1 (H.get 0 rfl).1 (by first | assumption | omega) (by first | assumption | omega) (by first | assumption | omega) (by first | assumption | omega)) ?_
    rintro _ w530 ⟨ra529Alive, rn529Alive, rc529Alive, ra529Bags, rn529Bags, rc529Bags, rx529Bags, rF529Bags, ra529Around, rn529Around, rc529Around, rfl, M, K⟩ _
    replace N := N.merge sz532 (by simp) M
    replace H := H.merge K M
    dsimp only [List.cons_append, List.nil_append] at H
    obtain rfl := H.Vb 0 rfl
    obtain rfl := H.zB (α := List Int) 1 rfl 0 rfl (by decide)
    obtain rfl := H.VB 2 rfl
    refine ⟨H.pick [4, 6, 7, 8] [5, 6, 7, 8, 9, 10, 11], ?_⟩
    refine xB [14] (by kernel_rfl) (by simp) (zh rfl ?_ xC)
    refine zn H 3 [.slice ra529Alive (((⟨t.qh, (bags.take s.qf.length), bags[s.qf.length]!⟩ : qP).qh).length) rc529Alive, .slice ra529Bags (((⟨t.qh, (bags.take s.qf.length), bags[s.qf.length]!⟩ : qP).qx).length) rc529Bags, .slice ra529Around (((⟨t.qh, (bags.take s.qf.length), bags[s.qf.length]!⟩ : qP).ql).length) rc529Around] Tryz.sizeOf38 fun w537 H => ?_
    try dsimp only [List.set] at H
    refine ⟨H.pick [4, 6, 7, 8] [5, 6, 7, 8, 9, 10, 11], ?_⟩
    refine xO (by kernel_rfl) (?_)
    exact meet ⟨_, b493, ra529Alive, rc529Alive, ra529Bags, rc529Bags, ra529Around, rc529Around, rx529Bags, rF529Bags, (by exact qj (qj (qj (qj (rfl) rfl) rfl) rfl) rfl), N, H.pick [3, 0, 1, 2, 4, 5, 6, 7, 8] [0, 6, 7, 8, 9, 10]⟩
   obtain ⟨a538, c539, G540, s541, h542, H⟩ := H.jq 2 rfl 0 rfl (iv := s.qf.length) s.qf.length (by omega) (by omega)
   refine qE (.slice a538 ((bags[s.qf.length]!).length) c539) Tryz.isAgg22 rfl (h542) ?_
   refine ⟨H.pick [1, 3, 4, 5] [1, 2, 3, 4, 5, 6, 7], ?_⟩
   refine xB [5] (by kernel_rfl) (by simp) (zh rfl ?_ xC)
   obtain ⟨G543, hg545, hn544, H⟩ := H.Vt (α := List Int) 2 rfl 1 rfl (by decide)
   try dsimp only [List.set] at H
   have hl550 := H.isLen 0 rfl
   refine o_head H 0 rfl s.qf.length Tryz.underlying27 ti22 rfl rfl (by omega) (by omega) fun a546 G547 hG548 H => ?_
   have hl549 : (bags.take s.qf.length).length = s.qf.length := List.length_take_of_le (by omega)
   refine ⟨H.pick [1, 3, 4, 5] [3, 4, 5, 6, 7, 8, 9], ?_⟩
   refine xB [11] (by kernel_rfl) (by simp) (zh rfl ?_ xC)
   refine jQ [.slice qN t.qh.length qH, .slice a546 ((bags.take s.qf.length).length) c9, .slice a538 ((bags[s.qf.length]!).length) c539] [(0, .slice qN t.qh.length qH), (1, .slice a546 ((bags.take s.qf.length).length) c9), (2, .slice a538 ((bags[s.qf.length]!).length) c539)] ?_
   refine ⟨H.pick [1, 3, 4, 5] [3, 4, 5, 6, 7, 8, 9], ?_⟩
   refine xB [12] (by kernel_rfl) (by simp) (zh rfl ?_ xC)
   obtain ⟨cp0, cp1, cp2, cp3⟩ := yV (al := t.qh) E_bags p8 p9.2 p12
   have sz554 := H.base.size
   refine xf #[.agg #[.slice qN t.qh.length qH, .slice a546 ((bags.take s.qf.length).length) c9, .slice a538 ((bags[s.qf.length]!).length) c539]] rfl rfl Tryz.call77 (jR w517 (⟨t.qh, (bags.take s.qf.length), bags[s.qf.length]!⟩ : qP) qN qH xK a546 c9 G547 a538 c539 G540 (H.get 6 rfl).1 (H.get 0 rfl).1 (H.get 2 rfl).1 (by first | assumption | omega) (by first | assumption | omega) (by first | assumption | omega) (by first | assumption | omega)) ?_
   rintro _ w552 ⟨ra551Alive, rn551Alive, rc551Alive, ra551Bags, rn551Bags, rc551Bags, rx551Bags, rF551Bags, ra551Around, rn551Around, rc551Around, rfl, M, K⟩ _
   replace N := N.merge sz554 (by simp) M
   replace H := H.merge K M
   dsimp only [List.cons_append, List.nil_append] at H
   obtain rfl := H.Vb 0 rfl
   obtain rfl := H.zB (α := List Int) 1 rfl 0 rfl (by decide)
   obtain rfl := H.VB 2 rfl
   refine ⟨H.pick [4, 6, 7, 8] [4, 5, 6, 7, 8, 9, 10], ?_⟩
   refine xB [14] (by kernel_rfl) (by simp) (zh rfl ?_ xC)
   refine zn H 3 [.slice ra551Alive (((⟨t.qh, (bags.take s.qf.length), bags[s.qf.length]!⟩ : qP).qh).length) rc551Alive, .slice ra551Bags (((⟨t.qh, (bags.take s.qf.length), bags[s.qf.length]!⟩ : qP).qx).length) rc551Bags, .slice ra551Around (((⟨t.qh, (bags.take s.qf.length), bags[s.qf.length]!⟩ : qP).ql).length) rc551Around] Tryz.sizeOf38 fun w559 H => ?_
   try dsimp only [List.set] at H
   refine ⟨H.pick [4, 6, 7, 8] [4, 5, 6, 7, 8, 9, 10], ?_⟩
   refine xO (by kernel_rfl) (?_)
   exact meet ⟨_, b493, ra551Alive, rc551Alive, ra551Bags, rc551Bags, ra551Around, rc551Around, rx551Bags, rF551Bags, (by exact qj (qj (qj (qj (rfl) rfl) rfl) rfl) rfl), N, H.pick [3, 0, 1, 2, 4, 5, 6, 7, 8] [0, 5, 6, 7, 8, 9]⟩
  refine zL H ti38 [.slice none 0 0, .slice none 0 0, .slice none 0 0] fun b560 w561 H => ?_
  refine ⟨H.pick [1, 3, 4, 5] [0, 1, 2, 3, 4, 5, 6], ?_⟩
  refine xB [4] (by kernel_rfl) (by simp) (zh rfl ?_ xC)
  refine xf #[.agg #[.int .i64 s.qI, .slice qp s.qf.length qo, .slice qF s.qg.length qC]] rfl rfl Tryz.call113 (Vl w561 s qp qo qO qF qC xq (H.get 1 rfl).1 (H.get 2 rfl).1) ?_
  rintro _ w563 rfl x564
  replace H := H.ext x564
  refine ⟨H.pick [1, 3, 4, 5] [0, 1, 2, 3, 4, 5, 6], ?_⟩
  refine xB [5, 8] (by kernel_rfl) (by simp) (zh rfl ?_ (zh rfl ?_ xC))
  ·skip
   obtain ⟨G565, hg567, hn566, H⟩ := H.Vt (α := List Int) 2 rfl 0 rfl (by decide)
   try dsimp only [List.set] at H
   have hl572 := H.isLen 0 rfl
   refine o_head H 0 rfl s.qf.length Tryz.underlying27 ti22 rfl rfl (by omega) (by omega) fun a568 G569 hG570 H => ?_
   have hl571 : (bags.take s.qf.length).length = s.qf.length := List.length_take_of_le (by omega)
   refine ⟨H.pick [1, 3, 4, 5] [2, 3, 4, 5, 6, 7, 8], ?_⟩
   refine xB [8] (by kernel_rfl) (by simp) (zh rfl ?_ xC)
   refine xf #[.agg #[.int .i64 s.qI, .slice qp s.qf.length qo, .slice qF s.qg.length qC]] rfl rfl Tryz.call113 (Vl w563 s qp qo qO qF qC xq (H.get 3 rfl).1 (H.get 4 rfl).1) ?_
   rintro _ w574 rfl x575
   replace H := H.ext x575
   refine ⟨H.pick [1, 3, 4, 5] [2, 3, 4, 5, 6, 7, 8], ?_⟩
   obtain ⟨ae576, ce576, Fe576, H⟩ := H.jC 1 rfl s.qf.length s.qf.length (by omega) (by omega) (by omega)
   refine rt 9 (pp b240 (0 + (s.qf.length : Int).toNat * 1)) (xN b240 (0) (t.qx.length + 1) c9 s.qf.length Tryz.underlying27 ti22 rfl rfl (by omega) (by omega)) (H.pick [1, 3, 4, 5] [4, 5, 6, 7, 8, 9, 10]) ?_
   refine xB [10] (by kernel_rfl) (by simp) (zh rfl ?_ xC)
   refine qE (.slice ae576 ((bags[s.qf.length]!).length) ce576) Tryz.isAgg22 rfl (H.xR 1 rfl 0 rfl) ?_
   refine ⟨H.pick [1, 3, 4, 5] [4, 5, 6, 7, 8, 9, 10], ?_⟩
   refine xB [11] (by kernel_rfl) (by simp) (zh rfl ?_ xC)
   refine jQ [.slice qN t.qh.length qH, .slice a568 ((bags.take s.qf.length).length) c9, .slice ae576 ((bags[s.qf.length]!).length) ce576] [(0, .slice qN t.qh.length qH), (1, .slice a568 ((bags.take s.qf.length).length) c9), (2, .slice ae576 ((bags[s.qf.length]!).length) ce576)] ?_
   refine ⟨H.pick [1, 3, 4, 5] [4, 5, 6, 7, 8, 9, 10], ?_⟩
   refine xB [12] (by kernel_rfl) (by simp) (zh rfl ?_ xC)
   obtain ⟨cp0, cp1, cp2, cp3⟩ := yV (al := t.qh) E_bags p8 p9.2 p12
   have sz580 := H.base.size
   refine xf #[.agg #[.slice qN t.qh.length qH, .slice a568 ((bags.take s.qf.length).length) c9, .slice ae576 ((bags[s.qf.length]!).length) ce576]] rfl rfl Tryz.call77 (jR w574 (⟨t.qh, (bags.take s.qf.length), bags[s.qf.length]!⟩ : qP) qN qH xK a568 c9 G569 ae576 ce576 Fe576 (H.get 7 rfl).1 (H.get 2 rfl).1 (H.get 0 rfl).1 (by first | assumption | omega) (by first | assumption | omega) (by first | assumption | omega) (by first | assumption | omega)) ?_
   rintro _ w578 ⟨ra577Alive, rn577Alive, rc577Alive, ra577Bags, rn577Bags, rc577Bags, rx577Bags, rF577Bags, ra577Around, rn577Around, rc577Around, rfl, M, K⟩ _
   replace N := N.merge sz580 (by simp) M
   replace H := H.merge K M
   dsimp only [List.cons_append, List.nil_append] at H
   obtain rfl := H.Vb 0 rfl
   obtain rfl := H.zB (α := List Int) 1 rfl 0 rfl (by decide)
   obtain rfl := H.VB 2 rfl
   refine ⟨H.pick [4, 6, 7, 8] [5, 6, 7, 8, 9, 10, 11], ?_⟩
   refine xB [14] (by kernel_rfl) (by simp) (zh rfl ?_ xC)
   refine zn H 3 [.slice ra577Alive (((⟨t.qh, (bags.take s.qf.length), bags[s.qf.length]!⟩ : qP).qh).length) rc577Alive, .slice ra577Bags (((⟨t.qh, (bags.take s.qf.length), bags[s.qf.length]!⟩ : qP).qx).length) rc577Bags, .slice ra577Around (((⟨t.qh, (bags.take s.qf.length), bags[s.qf.length]!⟩ : qP).ql).length) rc577Around] Tryz.sizeOf38 fun w585 H => ?_
   try dsimp only [List.set] at H
   refine ⟨H.pick [4, 6, 7, 8] [5, 6, 7, 8, 9, 10, 11], ?_⟩
   refine xO (by kernel_rfl) (?_)
   exact meet ⟨_, b560, ra577Alive, rc577Alive, ra577Bags, rc577Bags, ra577Around, rc577Around, rx577Bags, rF577Bags, (by exact qj (qj (qj (qj (rfl) rfl) rfl) rfl) rfl), N, H.pick [3, 0, 1, 2, 4, 5, 6, 7, 8] [0, 6, 7, 8, 9, 10]⟩
  refine xf #[.agg #[.int .i64 s.qI, .slice qp s.qf.length qo, .slice qF s.qg.length qC]] rfl rfl Tryz.call113 (Vl w563 s qp qo qO qF qC xq (H.get 1 rfl).1 (H.get 2 rfl).1) ?_
  rintro _ w587 rfl x588
  replace H := H.ext x588
  refine ⟨H.pick [1, 3, 4, 5] [0, 1, 2, 3, 4, 5, 6], ?_⟩
  refine rt 9 (pp b240 (0 + (s.qf.length : Int).toNat * 1)) (xN b240 (0) (t.qx.length + 1) c9 s.qf.length Tryz.underlying27 ti22 rfl rfl (by omega) (by omega)) (H.pick [1, 3, 4, 5] [0, 1, 2, 3, 4, 5, 6]) ?_
  refine xB [5, 10] (by kernel_rfl) (by simp) (zh rfl ?_ (zh rfl ?_ xC))
  ·skip
   obtain ⟨G589, hg591, hn590, H⟩ := H.Vt (α := List Int) 2 rfl 0 rfl (by decide)
   try dsimp only [List.set] at H
   have hl596 := H.isLen 0 rfl
   refine o_head H 0 rfl s.qf.length Tryz.underlying27 ti22 rfl rfl (by omega) (by omega) fun a592 G593 hG594 H => ?_
   have hl595 : (bags.take s.qf.length).length = s.qf.length := List.length_take_of_le (by omega)
   refine ⟨H.pick [1, 3, 4, 5] [2, 3, 4, 5, 6, 7, 8], ?_⟩
   refine xB [10] (by kernel_rfl) (by simp) (zh rfl ?_ xC)
   have hl597 := H.isLen 1 rfl
   obtain ⟨ae598, ce598, Fe598, H⟩ := H.jC 1 rfl s.qf.length s.qf.length (by omega) (by omega) (by omega)
   refine qE (.slice ae598 ((bags[s.qf.length]!).length) ce598) Tryz.isAgg22 rfl (H.xR 1 rfl 0 rfl) ?_
   refine ⟨H.pick [1, 3, 4, 5] [4, 5, 6, 7, 8, 9, 10], ?_⟩
   refine xB [11] (by kernel_rfl) (by simp) (zh rfl ?_ xC)
   refine jQ [.slice qN t.qh.length qH, .slice a592 ((bags.take s.qf.length).length) c9, .slice ae598 ((bags[s.qf.length]!).length) ce598] [(0, .slice qN t.qh.length qH), (1, .slice a592 ((bags.take s.qf.length).length) c9), (2, .slice ae598 ((bags[s.qf.length]!).length) ce598)] ?_
   refine ⟨H.pick [1, 3, 4, 5] [4, 5, 6, 7, 8, 9, 10], ?_⟩
   refine xB [12] (by kernel_rfl) (by simp) (zh rfl ?_ xC)
   obtain ⟨cp0, cp1, cp2, cp3⟩ := yV (al := t.qh) E_bags p8 p9.2 p12
   have sz602 := H.base.size
   refine xf #[.agg #[.slice qN t.qh.length qH, .slice a592 ((bags.take s.qf.length).length) c9, .slice ae598 ((bags[s.qf.length]!).length) ce598]] rfl rfl Tryz.call77 (jR w587 (⟨t.qh, (bags.take s.qf.length), bags[s.qf.length]!⟩ : qP) qN qH xK a592 c9 G593 ae598 ce598 Fe598 (H.get 7 rfl).1 (H.get 2 rfl).1 (H.get 0 rfl).1 (by first | assumption | omega) (by first | assumption | omega) (by first | assumption | omega) (by first | assumption | omega)) ?_
   rintro _ w600 ⟨ra599Alive, rn599Alive, rc599Alive, ra599Bags, rn599Bags, rc599Bags, rx599Bags, rF599Bags, ra599Around, rn599Around, rc599Around, rfl, M, K⟩ _
   replace N := N.merge sz602 (by simp) M
   replace H := H.merge K M
   dsimp only [List.cons_append, List.nil_append] at H
   obtain rfl := H.Vb 0 rfl
   obtain rfl := H.zB (α := List Int) 1 rfl 0 rfl (by decide)
   obtain rfl := H.VB 2 rfl
   refine ⟨H.pick [4, 6, 7, 8] [5, 6, 7, 8, 9, 10, 11], ?_⟩
   refine xB [14] (by kernel_rfl) (by simp) (zh rfl ?_ xC)
   refine zn H 3 [.slice ra599Alive (((⟨t.qh, (bags.take s.qf.length), bags[s.qf.length]!⟩ : qP).qh).length) rc599Alive, .slice ra599Bags (((⟨t.qh, (bags.take s.qf.length), bags[s.qf.length]!⟩ : qP).qx).length) rc599Bags, .slice ra599Around (((⟨t.qh, (bags.take s.qf.length), bags[s.qf.length]!⟩ : qP).ql).length) rc599Around] Tryz.sizeOf38 fun w607 H => ?_
   try dsimp only [List.set] at H
   refine ⟨H.pick [4, 6, 7, 8] [5, 6, 7, 8, 9, 10, 11], ?_⟩
   refine xO (by kernel_rfl) (?_)
   exact meet ⟨_, b560, ra599Alive, rc599Alive, ra599Bags, rc599Bags, ra599Around, rc599Around, rx599Bags, rF599Bags, (by exact qj (qj (qj (qj (rfl) rfl) rfl) rfl) rfl), N, H.pick [3, 0, 1, 2, 4, 5, 6, 7, 8] [0, 6, 7, 8, 9, 10]⟩
  obtain ⟨a608, c609, G610, s611, h612, H⟩ := H.jq 2 rfl 0 rfl (iv := s.qf.length) s.qf.length (by omega) (by omega)
  refine qE (.slice a608 ((bags[s.qf.length]!).length) c609) Tryz.isAgg22 rfl (h612) ?_
  refine ⟨H.pick [1, 3, 4, 5] [1, 2, 3, 4, 5, 6, 7], ?_⟩
  refine xB [5] (by kernel_rfl) (by simp) (zh rfl ?_ xC)
  obtain ⟨G613, hg615, hn614, H⟩ := H.Vt (α := List Int) 2 rfl 1 rfl (by decide)
  try dsimp only [List.set] at H
  have hl620 := H.isLen 0 rfl
  refine o_head H 0 rfl s.qf.length Tryz.underlying27 ti22 rfl rfl (by omega) (by omega) fun a616 G617 hG618 H => ?_
  have hl619 : (bags.take s.qf.length).length = s.qf.length := List.length_take_of_le (by omega)
  refine ⟨H.pick [1, 3, 4, 5] [3, 4, 5, 6, 7, 8, 9], ?_⟩
  refine xB [11] (by kernel_rfl) (by simp) (zh rfl ?_ xC)
  refine jQ [.slice qN t.qh.length qH, .slice a616 ((bags.take s.qf.length).length) c9, .slice a608 ((bags[s.qf.length]!).length) c609] [(0, .slice qN t.qh.length qH), (1, .slice a616 ((bags.take s.qf.length).length) c9), (2, .slice a608 ((bags[s.qf.length]!).length) c609)] ?_
  refine ⟨H.pick [1, 3, 4, 5] [3, 4, 5, 6, 7, 8, 9], ?_⟩
  refine xB [12] (by kernel_rfl) (by simp) (zh rfl ?_ xC)
  obtain ⟨cp0, cp1, cp2, cp3⟩ := yV (al := t.qh) E_bags p8 p9.2 p12
  have sz624 := H.base.size
  refine xf #[.agg #[.slice qN t.qh.length qH, .slice a616 ((bags.take s.qf.length).length) c9, .slice a608 ((bags[s.qf.length]!).length) c609]] rfl rfl Tryz.call77 (jR w587 (⟨t.qh, (bags.take s.qf.length), bags[s.qf.length]!⟩ : qP) qN qH xK a616 c9 G617 a608 c609 G610 (H.get 6 rfl).1 (H.get 0 rfl).1 (H.get 2 rfl).1 (by first | assumption | omega) (by first | assumption | omega) (by first | assumption | omega) (by first | assumption | omega)) ?_
  rintro _ w622 ⟨ra621Alive, rn621Alive, rc621Alive, ra621Bags, rn621Bags, rc621Bags, rx621Bags, rF621Bags, ra621Around, rn621Around, rc621Around, rfl, M, K⟩ _
  replace N := N.merge sz624 (by simp) M
  replace H := H.merge K M
  dsimp only [List.cons_append, List.nil_append] at H
  obtain rfl := H.Vb 0 rfl
  obtain rfl := H.zB (α := List Int) 1 rfl 0 rfl (by decide)
  obtain rfl := H.VB 2 rfl
  refine ⟨H.pick [4, 6, 7, 8] [4, 5, 6, 7, 8, 9, 10], ?_⟩
  refine xB [14] (by kernel_rfl) (by simp) (zh rfl ?_ xC)
  refine zn H 3 [.slice ra621Alive (((⟨t.qh, (bags.take s.qf.length), bags[s.qf.length]!⟩ : qP).qh).length) rc621Alive, .slice ra621Bags (((⟨t.qh, (bags.take s.qf.length), bags[s.qf.length]!⟩ : qP).qx).length) rc621Bags, .slice ra621Around (((⟨t.qh, (bags.take s.qf.length), bags[s.qf.length]!⟩ : qP).ql).length) rc621Around] Tryz.sizeOf38 fun w629 H => ?_
  try dsimp only [List.set] at H
  refine ⟨H.pick [4, 6, 7, 8] [4, 5, 6, 7, 8, 9, 10], ?_⟩
  refine xO (by kernel_rfl) (?_)
  exact meet ⟨_, b560, ra621Alive, rc621Alive, ra621Bags, rc621Bags, ra621Around, rc621Around, rx621Bags, rF621Bags, (by exact qj (qj (qj (qj (rfl) rfl) rfl) rfl) rfl), N, H.pick [3, 0, 1, 2, 4, 5, 6, 7, 8] [0, 5, 6, 7, 8, 9]⟩
 clear H N
 rintro ρ w630 ⟨junk, b242, ra243, rc244, ra245, rc246, ra247, rc248, rx249, rF250, rfl, N, H⟩
 refine t_n (qm (qm (qy ?_)))
 refine sp (.slice (aa b36 0) s.qf.length s.qf.length) ?_
 refine sw (zD Tryz.underlying26 (aa b36 0) s.qf.length s.qf.length rfl ?_)
 refine sw (o_sub s.qf.length 1 rfl rfl (by omega) ?_)
 refine sp (.int .i64 (s.qf.length - 1)) ?_
 refine qw (t_n (xu ?_))
 obtain rfl : i = s.qg.length := by omega
 have hl := stepped_live p1 E_bags (by omega)
 obtain ⟨s1, s2⟩ := step_tab E_bags
 rw [show (⟨t.qh, (bags.take s.qf.length), bags[s.qf.length]!⟩ : qP) = stepped s t counts from by rw [show bags.take s.qf.length = _ from s1, show bags[s.qf.length]! = _ from s2]; rfl] at H
 refine zG (fun m' ρ w631 => ∃ (junk : Env) (c : Int) (out_Alive : List Bool) (out_Bags : List (List Int)) (zq : List Value) (xQ : List Nat) (j : Nat), ρ = upd (upd (upd (upd (upd junk 3 (pp b1 0)) 6 (pp b5 0)) 9 (.slice (aa b36 0) s.qf.length s.qf.length)) 13 (pp b242 0)) 14 (.int .i64 c) ∧ out_Alive = (qY s counts (stepped s t counts) j).qh ∧ out_Bags = (qY s counts (stepped s t counts) j).qx ∧ (c = (s.qf.length : Int) - 1 - j) ∧ (j + 1 ≤ s.qf.length) ∧ m' = (c : Int).toNat ∧ Fresh w.heap.size [xQ] ∧ St w w631 [.box b242 [.slice ra243 (((stepped s t counts).qh).length) rc244, .slice ra245 (((stepped s t counts).qx).length) rc246, .slice ra247 (((stepped s t counts).ql).length) rc248] 38, .row (.slice ra243 (((stepped s t counts).qh).length) rc244) 4 1 (((stepped s t counts).qh).length) (out_Alive.map (Value.bool)), .row (.slice ra245 (((stepped s t counts).qx).length) rc246) 22 1 (((stepped s t counts).qx).length) zq, .row (.slice ra247 (((stepped s t counts).ql).length) rc248) 2 1 (((stepped s t counts).ql).length) (((stepped s t counts).ql).map (Value.int .i64)), .row (.slice (aa b36 0) s.qf.length s.qf.length) 4 1 s.qf.length ((yl s counts s.qf.length s.qg.length).map (Value.bool)), .box b5 [.slice none 0 0, .slice none 0 0, .slice none 0 0] 38, .box b3 [.slice qN t.qh.length qH, .slice xG t.qx.length xy, .slice qL t.ql.length qK] 38, .box b1 [.int .i64 s.qI, .slice qp s.qf.length qo, .slice qF s.qg.length qC] 36] [vK true xQ zq out_Bags, isF false qO (.slice qp s.qf.length qo) s.qf, isF false xq (.slice qF s.qg.length qC) s.qg, isF false xK (.slice qN t.qh.length qH) t.qh, isF false zk (.slice xG t.qx.length xy) t.qx, isF false xH (.slice qL t.ql.length qK) t.ql]) (((s.qf.length - 1) : Int).toNat) ⟨_, s.qf.length - 1, (stepped s t counts).qh, (stepped s t counts).qx, rx249, rF250, 0, (by exact qj (qj (qj (qj (qj (rfl) rfl) rfl) rfl) rfl) rfl), (by rfl), (by rfl), (by omega), (by omega), rfl, N, H.pick [0, 1, 2, 3, 4, 6, 7, 8] [0, 1, 2, 3, 4, 5]⟩ ?_
 clear H N
 rintro m' ρ w632 ⟨junk, c, out_Alive, out_Bags, zq, xQ, j, rfl, rfl, rfl, ic, jc, rfl, N, H⟩
 have hn_out_Alive := H.Vb 1 rfl
 have Vs := H.zB (α := List Int) 2 rfl 0 rfl (by decide)
 have L := meltDown_live (counts := counts) p0 hl j (by omega)
 have L1 := L.alive
 have L2 := L.root
 have L3 := L.bags.1
 rw [← y9 s counts (stepped s t counts) j] at H
 refine qm (qm (qy ?_))
 refine sps [.int .i64 c, .bool (decide ((c : Int) > 0))] ?_
 refine qw (t_n ?_)
 refine qV (decide ((c : Int) > 0)) rfl (fun h633 => ?_) (fun h633 => ?_)
 ·skip
  replace h633 := of_decide_eq_true h633
  refine xh (t_n (qm (xu (qm (qy ?_)))))
  refine sps [.slice (aa b36 0) s.qf.length s.qf.length, .int .i64 c] ?_
  refine sw (xJ c Tryz.underlying26 ti4 rfl rfl (by omega) (by omega) ?_)
  refine sw (qE (.bool ((yl s counts s.qf.length s.qg.length)[c.toNat]!)) Tryz.isAgg4 rfl (H.rowBool 4 rfl (iv := c) (i := c.toNat) (by omega) (by omega)) ?_)
  refine qw (t_n ?_)
  refine qV ((yl s counts s.qf.length s.qg.length)[c.toNat]!) rfl (fun h634 => ?_) (fun h634 => ?_)
  ·skip
   refine qy ?_
   refine sw (zi [.int .i64 s.qI, .slice qp s.qf.length qo, .slice qF s.qg.length qC] Tryz.isAgg36 Tryz.sizeOf36 rfl (qG (H.cells 7 rfl) 0 3) ?_)
   refine sp (.int .i64 c) ?_
   refine sw (Qd #[.agg #[.int .i64 s.qI, .slice qp s.qf.length qo, .slice qF s.qg.length qC], pp b242 0, .int .i64 c] rfl rfl Tryz.call114 ?_)
   refine enter (n := 49) Tryz.func114 rfl Tryz.ntmps114 (Nat.le_of_ble_eq_true rfl) ?_
   refine qm (qy ?_)
   refine sw (jW H [.int .i64 s.qI, .slice qp s.qf.length qo, .slice qF s.qg.length qC] fun b635 w636 H => ?_)
   refine qw (t_n (qm ?_))
   refine jk rfl H fun H => ?_
   refine rt 0 (.agg #[.int .i64 s.qI, .slice qp s.qf.length qo, .slice qF s.qg.length qC]) (Qx (cs := [.int .i64 s.qI, .slice qp s.qf.length qo, .slice qF s.qg.length qC]) Tryz.isAgg36 Tryz.sizeOf36 rfl (fun _ h => qG (h.cells 0 rfl) 0 3)) H ?_
   refine rtp 1 (pp b242 0) H ?_
   refine rtp 2 (pp b242 0) H ?_
   refine rt 3 (.agg #[.slice ra243 (((stepped s t counts).qh).length) rc244, .slice ra245 (((stepped s t counts).qx).length) rc246, .slice ra247 (((qY s counts (stepped s t counts) j).ql).length) rc248]) (Qx (cs := [.slice ra243 (((stepped s t counts).qh).length) rc244, .slice ra245 (((stepped s t counts).qx).length) rc246, .slice ra247 (((qY s counts (stepped s t counts) j).ql).length) rc248]) Tryz.isAgg38 Tryz.sizeOf38 rfl (fun _ h => qG (h.cells 1 rfl) 0 3)) H ?_
   refine rtp 4 (.int .i64 c) H ?_
   refine xB [5] (by kernel_rfl) (by simp) (zh rfl ?_ xC)
   obtain ⟨G638, hn639, h640⟩ := H.rowIsB 2 rfl
   obtain ⟨G641, hn642, h643⟩ := H.rowIsR (α := List Int) 3 rfl 0 rfl (by decide)
   obtain ⟨G644, hn645, h646⟩ := H.rowIsI 4 rfl
   refine xf #[.agg #[.int .i64 s.qI, .slice qp s.qf.length qo, .slice qF s.qg.length qC], .agg #[.slice ra243 (((stepped s t counts).qh).length) rc244, .slice ra245 (((stepped s t counts).qx).length) rc246, .slice ra247 (((qY s counts (stepped s t counts) j).ql).length) rc248], .int .i64 c] rfl rfl Tryz.call144 (args_eq (by rw [← hn639, ← hn642]) (parentNow_ok w636.drew s (qY s counts (stepped s t counts) j) c qp qo qO qF qC xq ra243 rc244 G638 ra245 rc246 G641 ra247 rc248 G644 (H.get 1 rfl).1 (H.get 2 rfl).1 (hn639 ▸ h640) (hn642 ▸ h643) h646 (by first | assumption | omega) (by first | assumption | omega) (by first | assumption | omega))) ?_
   rintro _ w648 rfl x649
   replace H := H.ext x649
   have pin := Vy (s := s) (t := (qY s counts (stepped s t counts) j)) (c := c) p0.1 L2 (by omega) (by omega)
   refine ⟨H, ?_⟩
   refine rtp 6 (.int .i64 (qZ s (qY s counts (stepped s t counts) j) c)) H ?_
   refine xO (by kernel_rfl) (t_n ?_)
   refine qm ?_
   obtain ⟨b650, rfl⟩ := H.Vr 3 rfl (by omega)
   refine c_cut (fun ρ w651 => ∃ (junk : Env) (xs652 : List Value) (F653 : List Nat), ρ = upd (upd (upd junk 1 (pp b242 0)) 2 (.int .i64 c)) 3 (pp b635 0) ∧ Fresh w.heap.size [F653] ∧ St w w651 [.box b635 [.int .i64 s.qI, .slice qp s.qf.length qo, .slice qF s.qg.length qC] 36, .box b242 [.slice ra243 (((stepped s t counts).qh).length) rc244, .slice (aa b650 0) (((stepped s t counts).qx).length) rc246, .slice ra247 (((qY s counts (stepped s t counts) j).ql).length) rc248] 38, .row (.slice ra243 (((stepped s t counts).qh).length) rc244) 4 1 (((stepped s t counts).qh).length) (((qY s counts (stepped s t counts) j).qh).map (Value.bool)), .row (.slice (aa b650 0) (((stepped s t counts).qx).length) rc246) 22 1 (((stepped s t counts).qx).length) xs652, .row (.slice ra247 (((qY s counts (stepped s t counts) j).ql).length) rc248) 2 1 (((qY s counts (stepped s t counts) j).ql).length) (((qY s counts (stepped s t counts) j).ql).map (Value.int .i64)), .row (.slice (aa b36 0) s.qf.length s.qf.length) 4 1 s.qf.length ((yl s counts s.qf.length s.qg.length).map (Value.bool)), .box b5 [.slice none 0 0, .slice none 0 0, .slice none 0 0] 38, .box b3 [.slice qN t.qh.length qH, .slice xG t.qx.length xy, .slice qL t.ql.length qK] 38, .box b1 [.int .i64 s.qI, .slice qp s.qf.length qo, .slice qF s.qg.length qC] 36] [vK true F653 xs652 (((qY s counts (stepped s t counts) j).qx).set ((qZ s (qY s counts (stepped s t counts) j) c).toNat) (jV (((qY s counts (stepped s t counts) j).qx)[(qZ s (qY s counts (stepped s t counts) j) c).toNat]!) (((qY s counts (stepped s t counts) j).qx)[c.toNat]!) 1)), isF false qO (.slice qp s.qf.length qo) s.qf, isF false xq (.slice qF s.qg.length qC) s.qg, isF false xK (.slice qN t.qh.length qH) t.qh, isF false zk (.slice xG t.qx.length xy) t.qx, isF false xH (.slice qL t.ql.length qK) t.ql]) ?_ ?_
   ·skip
    refine Qa rfl H [0, 1, 2, 4, 5, 6, 7, 8] fun H => ?_
    have S := H.Qc [0, 1, 2, 4, 5, 6, 7, 8] [0, 1, 2, 3, 4, 5]
    refine rtp 0 (pp b242 0) S ?_
    refine rtp 1 (pp b242 0) S ?_
    refine rt 2 (pp b242 (0 + 1)) (xE b242 (0) 1 Tryz.underlying38 rfl rfl Tryz.sizeOf27 rfl) S ?_
    refine rt 3 (.slice (aa b650 0) (((stepped s t counts).qx).length) rc246) (xm Tryz.isAgg27 rfl (fun _ h => h.cell 1 rfl rfl)) S ?_
    refine rtp 4 (.int .i64 (qZ s (qY s counts (stepped s t counts) j) c)) S ?_
    refine rtp 5 (pp b242 0) S ?_
    refine rtp 6 (pp b242 0) S ?_
    refine rt 7 (pp b242 (0 + 1)) (xE b242 (0) 1 Tryz.underlying38 rfl rfl Tryz.sizeOf27 rfl) S ?_
    refine rt 8 (.slice (aa b650 0) (((stepped s t counts).qx).length) rc246) (xm Tryz.isAgg27 rfl (fun _ h => h.cell 1 rfl rfl)) S ?_
    refine rtp 9 (.int .i64 (qZ s (qY s counts (stepped s t counts) j) c)) S ?_
    refine rt 10 (pp b650 (0 + (qZ s (qY s counts (stepped s t counts) j) c : Int).toNat * 1)) (xN b650 (0) (((stepped s t counts).qx).length) rc246 (qZ s (qY s counts (stepped s t counts) j) c) Tryz.underlying27 ti22 rfl rfl (by omega) (by omega)) S ?_
    refine rtp 12 (pp b242 0) S ?_
    refine rtp 13 (pp b242 0) S ?_
    refine rt 14 (pp b242 (0 + 1)) (xE b242 (0) 1 Tryz.underlying38 rfl rfl Tryz.sizeOf27 rfl) S ?_
    refine rt 15 (.slice (aa b650 0) (((stepped s t counts).qx).length) rc246) (xm Tryz.isAgg27 rfl (fun _ h => h.cell 1 rfl rfl)) S ?_
    refine rtp 16 (.int .i64 c) S ?_
    refine rt 17 (pp b650 (0 + (c : Int).toNat * 1)) (xN b650 (0) (((stepped s t counts).qx).length) rc246 c Tryz.underlying27 ti22 rfl rfl (by omega) (by omega)) S ?_
    refine xB [11, 18] (by kernel_rfl) (by simp) (zh rfl ?_ (zh rfl ?_ xC))
    ·skip
     obtain ⟨a655, c656, G657, s658, h659, H⟩ := H.jq 3 rfl 0 rfl (iv := qZ s (qY s counts (stepped s t counts) j) c) ((qZ s (qY s counts (stepped s t counts) j) c).toNat) (by omega) (by omega)
     refine qE (.slice a655 ((((qY s counts (stepped s t counts) j).qx)[(qZ s (qY s counts (stepped s t counts) j) c).toNat]!).length) c656) Tryz.isAgg22 rfl (h659) ?_
     refine ⟨H.pick [0, 1, 2, 4, 5, 6, 7, 8] [1, 2, 3, 4, 5, 6], ?_⟩
     refine xB [18] (by kernel_rfl) (by simp) (zh rfl ?_ xC)
     obtain ⟨a660, c661, G662, s663, h664, H⟩ := H.jq 3 rfl 1 rfl (iv := c) c.toNat (by omega) (by omega)
     refine qE (.slice a660 ((((qY s counts (stepped s t counts) j).qx)[c.toNat]!).length) c661) Tryz.isAgg22 rfl (h664) ?_
     refine ⟨H.pick [0, 1, 2, 4, 5, 6, 7, 8] [2, 3, 4, 5, 6, 7], ?_⟩
     refine xB [19] (by kernel_rfl) (by simp) (zh rfl ?_ xC)
     obtain ⟨u1, u2, u4⟩ := L.rows p0 (bnd_le (by omega)) (p := (qZ s (qY s counts (stepped s t counts) j) c).toNat) (c := c.toNat) (by omega) (by omega)
     have sz665 := H.base.size
     have lt666 := H.ltN (L := [xQ]) [2]
     refine xf #[.slice a655 ((((qY s counts (stepped s t counts) j).qx)[(qZ s (qY s counts (stepped s t counts) j) c).toNat]!).length) c656, .slice a660 ((((qY s counts (stepped s t counts) j).qx)[c.toNat]!).length) c661, .int .i64 1] rfl rfl Tryz.call100 (plus_ok w648.drew (((qY s counts (stepped s t counts) j).qx)[(qZ s (qY s counts (stepped s t counts) j) c).toNat]!) (((qY s counts (stepped s t counts) j).qx)[c.toNat]!) 1 a655 c656 G657 a660 c661 G662 (H.get 1 rfl).1 (H.get 0 rfl).1 (by first | assumption | omega) (by first | assumption | omega) (by first | assumption | omega)) ?_
     rintro v670 w668 r670 x669
     replace H := H.zF x669 r670
     obtain ⟨a671, c672, rfl, hc673, hm674⟩ := H.jP 0 rfl
     refine ⟨H.pick [1, 2, 3, 5, 6, 7, 8, 9] [2, 3, 4, 5, 6, 7], ?_⟩
     refine rt 20 (pp b650 (0 + (qZ s (qY s counts (stepped s t counts) j) c : Int).toNat * 1)) (xN b650 (0) (((stepped s t counts).qx).length) rc246 (qZ s (qY s counts (stepped s t counts) j) c) Tryz.underlying27 ti22 rfl rfl (by omega) (by omega)) (H.pick [1, 2, 3, 5, 6, 7, 8, 9] [2, 3, 4, 5, 6, 7]) ?_
     refine xB [21] (by kernel_rfl) (by simp) (zh rfl ?_ xC)
     obtain ⟨G676, N, hn677, H⟩ := H.yh 0 rfl N (H.XF [2])
     try dsimp only [List.set] at H
     refine jh true H 4 rfl 3 rfl (.slice a671 ((jV (((qY s counts (stepped s t counts) j).qx)[(qZ s (qY s counts (stepped s t counts) j) c).toNat]!) (((qY s counts (stepped s t counts) j).qx)[c.toNat]!) 1).length) c672) 0 rfl rfl Tryz.sizeOf22 rfl rfl (i := ((qZ s (qY s counts (stepped s t counts) j) c).toNat)) (by omega) (by omega) (by simp) fun w675 xs678 F679 hs680 H => ?_
     replace N : Fresh w.heap.size [F679] := (N.pick [1, 0]).repl hs680
     try dsimp only [List.set] at H
     refine ⟨H.pick [1, 2, 3, 5, 6, 7, 8, 9] [4, 5, 6, 7, 8, 9], ?_⟩
     refine xO (by kernel_rfl) (?_)
     exact meet ⟨_, xs678, F679, (by exact qj (qj (qj (rfl) rfl) rfl) rfl), N, H.pick [1, 2, 3, 4, 5, 6, 7, 8, 9] [0, 5, 6, 7, 8, 9]⟩
    obtain ⟨a681, c682, G683, s684, h685, H⟩ := H.jq 3 rfl 0 rfl (iv := c) c.toNat (by omega) (by omega)
    refine qE (.slice a681 ((((qY s counts (stepped s t counts) j).qx)[c.toNat]!).length) c682) Tryz.isAgg22 rfl (h685) ?_
    refine ⟨H.pick [0, 1, 2, 4, 5, 6, 7, 8] [1, 2, 3, 4, 5, 6], ?_⟩
    refine xB [11] (by kernel_rfl) (by simp) (zh rfl ?_ xC)
    obtain ⟨a686, c687, G688, s689, h690, H⟩ := H.jq 3 rfl 1 rfl (iv := qZ s (qY s counts (stepped s t counts) j) c) ((qZ s (qY s counts (stepped s t counts) j) c).toNat) (by omega) (by omega)
    refine qE (.slice a686 ((((qY s counts (stepped s t counts) j).qx)[(qZ s (qY s counts (stepped s t counts) j) c).toNat]!).length) c687) Tryz.isAgg22 rfl (h690) ?_
    refine ⟨H.pick [0, 1, 2, 4, 5, 6, 7, 8] [2, 3, 4, 5, 6, 7], ?_⟩
    refine xB [19] (by kernel_rfl) (by simp) (zh rfl ?_ xC)
    obtain ⟨u1, u2, u4⟩ := L.rows p0 (bnd_le (by omega)) (p := (qZ s (qY s counts (stepped s t counts) j) c).toNat) (c := c.toNat) (by omega) (by omega)
    have sz691 := H.base.size
    have lt692 := H.ltN (L := [xQ]) [2]
    refine xf #[.slice a686 ((((qY s counts (stepped s t counts) j).qx)[(qZ s (qY s counts (stepped s t counts) j) c).toNat]!).length) c687, .slice a681 ((((qY s counts (stepped s t counts) j).qx)[c.toNat]!).length) c682, .int .i64 1] rfl rfl Tryz.call100 (plus_ok w648.drew (((qY s counts (stepped s t counts) j).qx)[(qZ s (qY s counts (stepped s t counts) j) c).toNat]!) (((qY s counts (stepped s t counts) j).qx)[c.toNat]!) 1 a686 c687 G688 a681 c682 G683 (H.get 0 rfl).1 (H.get 1 rfl).1 (by first | assumption | omega) (by first | assumption | omega) (by first | assumption | omega)) ?_
    rintro v696 w694 r696 x695
    replace H := H.zF x695 r696
    obtain ⟨a697, c698, rfl, hc699, hm700⟩ := H.jP 0 rfl
    refine ⟨H.pick [1, 2, 3, 5, 6, 7, 8, 9] [2, 3, 4, 5, 6, 7], ?_⟩
    refine rt 20 (pp b650 (0 + (qZ s (qY s counts (stepped s t counts) j) c : Int).toNat * 1)) (xN b650 (0) (((stepped s t counts).qx).length) rc246 (qZ s (qY s counts (stepped s t counts) j) c) Tryz.underlying27 ti22 rfl rfl (by omega) (by omega)) (H.pick [1, 2, 3, 5, 6, 7, 8, 9] [2, 3, 4, 5, 6, 7]) ?_
    refine xB [21] (by kernel_rfl) (by simp) (zh rfl ?_ xC)
    obtain ⟨G702, N, hn703, H⟩ := H.yh 0 rfl N (H.XF [2])
    try dsimp only [List.set] at H
    refine jh true H 4 rfl 3 rfl (.slice a697 ((jV (((qY s counts (stepped s t counts) j).qx)[(qZ s (qY s counts (stepped s t counts) j) c).toNat]!) (((qY s counts (stepped s t counts) j).qx)[c.toNat]!) 1).length) c698) 0 rfl rfl Tryz.sizeOf22 rfl rfl (i := ((qZ s (qY s counts (stepped s t counts) j) c).toNat)) (by omega) (by omega) (by simp) fun w701 xs704 F705 hs706 H => ?_
    replace N : Fresh w.heap.size [F705] := (N.pick [1, 0]).repl hs706
    try dsimp only [List.set] at H
    refine ⟨H.pick [1, 2, 3, 5, 6, 7, 8, 9] [4, 5, 6, 7, 8, 9], ?_⟩
    refine xO (by kernel_rfl) (?_)
    exact meet ⟨_, xs704, F705, (by exact qj (qj (qj (rfl) rfl) rfl) rfl), N, H.pick [1, 2, 3, 4, 5, 6, 7, 8, 9] [0, 5, 6, 7, 8, 9]⟩
   clear H N
   rintro ρ w707 ⟨junk, xs652, F653, rfl, N, H⟩
   refine t_n (qm ?_)
   refine Qa rfl H [0, 1, 2, 4, 5, 6, 7, 8] fun H => ?_
   have S := H.Qc [0, 1, 2, 4, 5, 6, 7, 8] [0, 1, 2, 3, 4, 5]
   refine rtp 0 (pp b242 0) S ?_
   refine rtp 1 (pp b242 0) S ?_
   refine rt 2 (pp b242 (0 + 1)) (xE b242 (0) 1 Tryz.underlying38 rfl rfl Tryz.sizeOf27 rfl) S ?_
   refine rt 3 (.slice (aa b650 0) (((stepped s t counts).qx).length) rc246) (xm Tryz.isAgg27 rfl (fun _ h => h.cell 1 rfl rfl)) S ?_
   refine rtp 4 (.int .i64 c) S ?_
   refine rt 5 (pp b635 (0 + 0)) (xE b635 (0) 0 Tryz.underlying36 rfl rfl Tryz.sizeOf2 rfl) S ?_
   refine rt 6 (.int .i64 s.qI) (xm Tryz.isAgg2 rfl (fun _ h => h.cell 0 rfl rfl)) S ?_
   refine xB [7] (by kernel_rfl) (by simp) (zh rfl ?_ xC)
   refine o_makeI H Tryz.underlying22 ti2 s.qI.toNat rfl rfl (by omega) (by omega) (by omega) fun b709 w710 H => ?_
   refine ⟨H.pick [1, 2, 3, 5, 6, 7, 8, 9] [0, 1, 2, 3, 4, 5], ?_⟩
   refine rt 8 (pp b650 (0 + (c : Int).toNat * 1)) (xN b650 (0) (((stepped s t counts).qx).length) rc246 c Tryz.underlying27 ti22 rfl rfl (by omega) (by omega)) (H.pick [1, 2, 3, 5, 6, 7, 8, 9] [0, 1, 2, 3, 4, 5]) ?_
   refine xB [9] (by kernel_rfl) (by simp) (zh rfl ?_ xC)
   obtain ⟨G712, N, hn713, H⟩ := H.yh 0 rfl N (H.XF [0])
   try dsimp only [List.set] at H
   refine jh true H 4 rfl 1 rfl (.slice (aa b709 0) s.qI.toNat s.qI.toNat) 0 rfl rfl Tryz.sizeOf22 rfl rfl (i := c.toNat) (by omega) (by omega) (by simp) fun w711 xs714 F715 hs716 H => ?_
   replace N : Fresh w.heap.size [F715] := (N.pick [1, 0]).repl hs716
   try dsimp only [List.set] at H
   refine ⟨H.pick [1, 2, 3, 5, 6, 7, 8, 9] [2, 3, 4, 5, 6, 7], ?_⟩
   refine xO (by kernel_rfl) (t_n ?_)
   refine qy ?_
   refine sps [pp b242 0, pp b242 0] ?_
   refine sw (qM b242 (0) 0 Tryz.underlying38 rfl rfl Tryz.sizeOf26 rfl ?_)
   refine sw (qE (.slice ra243 (((stepped s t counts).qh).length) rc244) Tryz.isAgg26 rfl (H.cell 2 rfl rfl) ?_)
   refine sp (.int .i64 c) ?_
   obtain ⟨b717, rfl⟩ := H.Vr 3 rfl (by omega)
   refine sw (xJ c Tryz.underlying26 ti4 rfl rfl (by omega) (by omega) ?_)
   refine sw (QE H 3 rfl false Tryz.sizeOf4 rfl rfl (i := c.toNat) (by omega) (by omega) fun w718 H => ?_)
   try dsimp only [List.set] at H
   refine qw ?_
   refine ret0 rfl ⟨_, rfl, ?_⟩
   replace H := H.erases [1, 0]
   dsimp only [Qe, List.eraseIdx] at H
   refine qw (b_n (t_n (qy ?_)))
   refine sp (.int .i64 c) ?_
   refine sw (o_sub c 1 rfl rfl (by omega) ?_)
   refine sp (.int .i64 (c - 1)) ?_
   refine qw ?_
   rw [y9] at H
   refine xF (m' := ((c - 1) : Int).toNat) (by omega) ⟨_, c - 1, (((qY s counts (stepped s t counts) j).qh).set c.toNat false), ((((qY s counts (stepped s t counts) j).qx).set ((qZ s (qY s counts (stepped s t counts) j) c).toNat) (jV (((qY s counts (stepped s t counts) j).qx)[(qZ s (qY s counts (stepped s t counts) j) c).toNat]!) (((qY s counts (stepped s t counts) j).qx)[c.toNat]!) 1)).set c.toNat (List.replicate s.qI.toNat (0 : Int))), xs714, F715, j + 1, (by exact qj (qj (qj (qj (qj (rfl) rfl) rfl) rfl) rfl) rfl), ?_, ?_, ?_, ?_, rfl, N, H.pick [0, 1, 2, 3, 4, 5, 6, 7] [0, 3, 4, 5, 6, 7]⟩
   · first | (rw [meltDown_yesL (c := c) ‹_› (by omega) (by omega) rfl ic]; rfl) | rw [meltDown_noL (c := c) ‹_› (by omega) (by omega) rfl ic]
   · first | (rw [meltDown_yesL (c := c) ‹_› (by omega) (by omega) rfl ic]; rfl) | rw [meltDown_noL (c := c) ‹_› (by omega) (by omega) rfl ic]
   · omega
   · omega
  refine xh (b_n (t_n (qy ?_)))
  refine sp (.int .i64 c) ?_
  refine sw (o_sub c 1 rfl rfl (by omega) ?_)
  refine sp (.int .i64 (c - 1)) ?_
  refine qw ?_
  rw [y9] at H
  refine xF (m' := ((c - 1) : Int).toNat) (by omega) ⟨_, c - 1, ((qY s counts (stepped s t counts) j).qh), ((qY s counts (stepped s t counts) j).qx), zq, xQ, j + 1, (by exact qj (qj (qj (qj (qj (rfl) rfl) rfl) rfl) rfl) rfl), ?_, ?_, ?_, ?_, rfl, N, H⟩
  · first | (rw [meltDown_yesL (c := c) ‹_› (by omega) (by omega) rfl ic]; rfl) | rw [meltDown_noL (c := c) ‹_› (by omega) (by omega) rfl ic]
  · first | (rw [meltDown_yesL (c := c) ‹_› (by omega) (by omega) rfl ic]; rfl) | rw [meltDown_noL (c := c) ‹_› (by omega) (by omega) rfl ic]
  · omega
  · omega
 replace h633 := of_decide_eq_false h633
 refine zy (t_x (t_x (b_x (t_n (qm (qy ?_))))))
 refine sw (zi [.int .i64 s.qI, .slice qp s.qf.length qo, .slice qF s.qg.length qC] Tryz.isAgg36 Tryz.sizeOf36 rfl (qG (H.cells 7 rfl) 0 3) ?_)
 refine sw (zi [.slice ra243 (((stepped s t counts).qh).length) rc244, .slice ra245 (((stepped s t counts).qx).length) rc246, .slice ra247 (((qY s counts (stepped s t counts) j).ql).length) rc248] Tryz.isAgg38 Tryz.sizeOf38 rfl (qG (H.cells 0 rfl) 0 3) ?_)
 refine sw (Qd #[.agg #[.int .i64 s.qI, .slice qp s.qf.length qo, .slice qF s.qg.length qC], .agg #[.slice ra243 (((stepped s t counts).qh).length) rc244, .slice ra245 (((stepped s t counts).qx).length) rc246, .slice ra247 (((qY s counts (stepped s t counts) j).ql).length) rc248]] rfl rfl Tryz.call115 ?_)
 refine enter (n := 12) Tryz.func115 rfl Tryz.ntmps115 (Nat.le_of_ble_eq_true rfl) ?_
 refine qm (qy ?_)
 refine sw (jW H [.int .i64 s.qI, .slice qp s.qf.length qo, .slice qF s.qg.length qC] fun b719 w720 H => ?_)
 refine sw (jW H [.slice ra243 (((stepped s t counts).qh).length) rc244, .slice ra245 (((stepped s t counts).qx).length) rc246, .slice ra247 (((qY s counts (stepped s t counts) j).ql).length) rc248] fun b721 w722 H => ?_)
 refine sw (zL H ti38 [.slice none 0 0, .slice none 0 0, .slice none 0 0] fun b723 w724 H => ?_)
 refine sp (.int .i64 0) ?_
 refine qw (t_n (qm (qm (qy ?_))))
 refine sw (zi [.int .i64 s.qI, .slice qp s.qf.length qo, .slice qF s.qg.length qC] Tryz.isAgg36 Tryz.sizeOf36 rfl (qG (H.cells 2 rfl) 0 3) ?_)
 refine sw (zi [.slice ra243 (((stepped s t counts).qh).length) rc244, .slice ra245 (((stepped s t counts).qx).length) rc246, .slice ra247 (((qY s counts (stepped s t counts) j).ql).length) rc248] Tryz.isAgg38 Tryz.sizeOf38 rfl (qG (H.cells 1 rfl) 0 3) ?_)
 obtain ⟨G725, hn726, h727⟩ := H.rowIsB 4 rfl
 obtain ⟨G728, hn729, h730⟩ := H.rowIsR (α := List Int) 5 rfl 0 rfl (by decide)
 obtain ⟨G731, hn732, h733⟩ := H.rowIsI 6 rfl
 refine sw (xf #[.agg #[.int .i64 s.qI, .slice qp s.qf.length qo, .slice qF s.qg.length qC], .agg #[.slice ra243 (((stepped s t counts).qh).length) rc244, .slice ra245 (((stepped s t counts).qx).length) rc246, .slice ra247 (((qY s counts (stepped s t counts) j).ql).length) rc248]] rfl rfl Tryz.call76 (args_eq (by rw [← hn726, ← hn729]) (validState_ok w724 s (qY s counts (stepped s t counts) j) qp qo qO qF qC xq ra243 rc244 G725 ra245 rc246 G728 ra247 rc248 G731 (H.get 1 rfl).1 (H.get 2 rfl).1 (hn726 ▸ h727) (hn729 ▸ h730) h733)) ?_)
 rintro _ w735 rfl x736
 replace H := H.ext x736
 refine sp (.bool (!(dec (Qb s ∧ zM s (qY s counts (stepped s t counts) j))))) ?_
 refine qw (t_n ?_)
 refine qV (!(dec (Qb s ∧ zM s (qY s counts (stepped s t counts) j)))) rfl (fun h737 => ?_) (fun h737 => ?_)
 ·skip
  replace h737 := xe h737
  replace h737 := zg h737
  refine qm (qy ?_)
  refine sw (jQ [.slice none 0 0, .slice none 0 0, .slice none 0 0] [] ?_)
  refine sw (zn H 0 [.slice none 0 0, .slice none 0 0, .slice none 0 0] Tryz.sizeOf38 fun w738 H => ?_)
  try dsimp only [List.set] at H
  refine sp (.int .i64 3) ?_
  refine qw (t_n (xx (t_r ?_)))
  refine retC2 H 0 rfl (.int .i64 3) rfl Tryz.isAgg38 Tryz.sizeOf38 rfl rfl ⟨_, rfl, ?_⟩
  replace H := H.erases [2, 1, 0]
  dsimp only [Qe, List.eraseIdx] at H
  refine sps [.agg #[.slice none 0 0, .slice none 0 0, .slice none 0 0], .int .i64 3] ?_
  refine sw (zn H 5 [.slice none 0 0, .slice none 0 0, .slice none 0 0] Tryz.sizeOf38 fun w739 H => ?_)
  try dsimp only [List.set] at H
  refine sp (.int .i64 3) ?_
  refine qw (t_n (xx ?_))
  replace H := H.nilRowB 4
  replace H := H.nilRow 22 1
  replace H := H.Q5 (α := List Int)
  replace H := H.nilRowI 2
  refine retC2 H 8 rfl (.int .i64 3) rfl Tryz.isAgg38 Tryz.sizeOf38 rfl rfl ⟨_, rfl, ?_, H.base⟩
  rw [stepBy_yes p3, stepRes, show vY s - 1 = j by omega, told_no (fun h => ‹¬ (Qb s ∧ _)› ⟨p0, h⟩)]
  exact ⟨none, 0, 0, none, 0, 0, [], [], none, 0, 0, rfl, (N.emp.pick [0]), H.pick [2, 1, 0] [0]⟩
 replace h737 := qX h737
 replace h737 := jA h737
 refine xh (t_n (qm (qy ?_)))
 refine sw (zi [.slice ra243 (((stepped s t counts).qh).length) rc244, .slice ra245 (((stepped s t counts).qx).length) rc246, .slice ra247 (((qY s counts (stepped s t counts) j).ql).length) rc248] Tryz.isAgg38 Tryz.sizeOf38 rfl (qG (H.cells 1 rfl) 0 3) ?_)
 refine sw (zn H 0 [.slice ra243 (((stepped s t counts).qh).length) rc244, .slice ra245 (((stepped s t counts).qx).length) rc246, .slice ra247 (((qY s counts (stepped s t counts) j).ql).length) rc248] Tryz.sizeOf38 fun w740 H => ?_)
 try dsimp only [List.set] at H
 refine sp (.int .i64 0) ?_
 refine qw (t_n (xx ?_))
 refine retC2 H 0 rfl (.int .i64 0) rfl Tryz.isAgg38 Tryz.sizeOf38 rfl rfl ⟨_, rfl, ?_⟩
 replace H := H.erases [2, 1, 0]
 dsimp only [Qe, List.eraseIdx] at H
 refine sps [.agg #[.slice ra243 (((stepped s t counts).qh).length) rc244, .slice ra245 (((stepped s t counts).qx).length) rc246, .slice ra247 (((qY s counts (stepped s t counts) j).ql).length) rc248], .int .i64 0] ?_
 refine sw (zn H 5 [.slice ra243 (((stepped s t counts).qh).length) rc244, .slice ra245 (((stepped s t counts).qx).length) rc246, .slice ra247 (((qY s counts (stepped s t counts) j).ql).length) rc248] Tryz.sizeOf38 fun w741 H => ?_)
 try dsimp only [List.set] at H
 refine sp (.int .i64 0) ?_
 refine qw (t_n (xx ?_))
 refine retC2 H 5 rfl (.int .i64 0) rfl Tryz.isAgg38 Tryz.sizeOf38 rfl rfl ⟨_, rfl, ?_, H.base⟩
 rw [stepBy_yes p3, stepRes, show vY s - 1 = j by omega, told_yes (‹Qb s ∧ _› : Qb s ∧ _).2]
 exact ⟨ra243, ((stepped s t counts).qh).length, rc244, ra245, ((stepped s t counts).qx).length, rc246, zq, xQ, ra247, ((qY s counts (stepped s t counts) j).ql).length, rc248, rfl, N, H.pick [1, 2, 3] [0]⟩

end Go.Proofs.YtkmlihdacnfhdaaGreat
