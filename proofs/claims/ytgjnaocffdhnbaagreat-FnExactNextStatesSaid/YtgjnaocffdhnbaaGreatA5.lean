/- Walks and laws, printed by program and by hand: what each function comes to, for all arguments, part 5. -/
import Derived.Test.YtgjnaocffdhnbaaGreatA4
namespace Go.Proofs.YtgjnaocffdhnbaaGreat
set_option linter.unusedVariables false
set_option linter.unusedSimpArgs false
open Go.Proofs.YtgjnaocffdhnbaaGreat.Tot (tot)
open Go.Proofs.YtgjnaocffdhnbaaGreat.Mark (cnt mrk mkd mkd_mark cnt_mark)
section
open Go.RowKit
set_option linter.unusedVariables false
set_option linter.unusedSimpArgs false
set_option maxRecDepth 100000
set_option maxHeartbeats 4000000
variable {qo qC qN xh qG ax aa ab aaAlive aaBags Xz abAlive abBags Xy acs : Option Addr} {qm qA qL qZ qF cx ca cb caAlive caBags Xv cbAlive cbBags Xu bs os bt ot ccs : Nat} {qP xu xE zf xw Fx Fa Fb FaAlive FaBags FaAround FbAlive FbBags FbAround Fcs : List Nat}
theorem around_ok (w : World) (s : qy) (qU : qB.rep w qP [.slice qo s.qf.length qm] s.qf) (xx : qB.rep w xu [.slice qC s.qg.length qA] s.qg) : Calls Tryz.prog 154 #[.agg #[.int .i64 s.qJ, .slice qo s.qf.length qm, .slice qC s.qg.length qA]] w (Ret (fun v w' => v = .int .i64 s.qf.length) w) := by
 refine en Tryz.func154 Tryz.ntmps154 ?_
 have H := ((St.start w).arg xx).arg qU
 have zJ := qx qU
 have vW := qx xx
 clear qU xx
 have N := Fresh.nil w.heap.size
 refine zcr (sw (zY H [.int .i64 s.qJ, .slice qo s.qf.length qm, .slice qC s.qg.length qA] fun b1 w2 H => sp (.int .i64 0) (zjc (oF rfl (oL rfl (H.cell 0 rfl rfl) (oN rfl (sp (.int .i64 s.qf.length) (zjr (ret1 (.int .i64 s.qf.length) rfl rfl ⟨_, rfl, ?_, H.base⟩)))))))))
 rfl

theorem step_ok (w : World) (s : qy) (t : qE) (counts : List Int) {acounts : Option Addr} {ccounts : Nat} {Fcounts : List Nat} (qU : qB.rep w qP [.slice qo s.qf.length qm] s.qf) (xx : qB.rep w xu [.slice qC s.qg.length qA] s.qg) (xK : qB.rep w xE [.slice qN t.qh.length qL] t.qh) (zn : qB.rep w zf [.slice xh t.ql.length qZ] t.ql) (xA : qB.rep w xw [.slice qG t.qj.length qF] t.qj) (hcounts : qB.rep w Fcounts [.slice acounts counts.length ccounts] counts) (p0 : jG s) (p1 : zt s t) (p2 : CntOk s counts) (p3 : IsCh s t counts) : Calls Tryz.prog 125 #[.agg #[.int .i64 s.qJ, .slice qo s.qf.length qm, .slice qC s.qg.length qA], .agg #[.slice qN t.qh.length qL, .slice xh t.ql.length qZ, .slice qG t.qj.length qF], .slice acounts counts.length ccounts] w (Ret (fun v w' => ∃ (ra0Alive : Option Addr) (rn0Alive : Nat) (rc0Alive : Nat) (ra0Bags : Option Addr) (rn0Bags : Nat) (rc0Bags : Nat) (rx0Bags : List Value) (rF0Bags : List Nat) (ra0Around : Option Addr) (rn0Around : Nat) (rc0Around : Nat), v = .tuple #[.agg #[.slice ra0Alive rn0Alive rc0Alive, .slice ra0Bags rn0Bags rc0Bags, .slice ra0Around rn0Around rc0Around], .int .i64 ((xR s t counts).2)] ∧ Fresh w.heap.size [rF0Bags] ∧ St w w' [rr ra0Alive rn0Alive rc0Alive 4 1 ((((xR s t counts).1).qh).map (Value.bool)), rr ra0Bags rn0Bags rc0Bags 22 1 rx0Bags, rr ra0Around rn0Around rc0Around 2 1 ((((xR s t counts).1).qj).map (Value.int .i64))] [xN true rF0Bags rx0Bags (((xR s t counts).1).ql)]) w) := by
 refine en Tryz.func125 Tryz.ntmps125 ?_
 have H := ((((((St.start w).arg hcounts).arg xA).arg zn).arg xK).arg xx).arg qU
 have zJ := qx qU
 have vW := qx xx
 have yJ := qx xK
 have QD := qx zn
 have jB := qx xA
 have nhcounts := qx hcounts
 clear qU xx xK zn xA hcounts
 have N := Fresh.nil w.heap.size
 have p5 := p0.2.1
 have p6 := p2.1
 have p7 := p1.2.1
 have p8 := kinds_le p0
 have p9 := p0.1.2.1
 have p11 : vJ s = s.qf.length := rfl
 have p12 := p1.1
 have p15 := p0.1
 have p16 := p0.1.1
 have p17 := p1.around.1
 refine zcr (sw (zY H [.int .i64 s.qJ, .slice qo s.qf.length qm, .slice qC s.qg.length qA] fun b1 w2 H => sw (zY H [.slice qN t.qh.length qL, .slice xh t.ql.length qZ, .slice qG t.qj.length qF] fun b3 w4 H => sw (xM H ti38 [.slice none 0 0, .slice none 0 0, .slice none 0 0] fun b5 w6 H => sp (.int .i64 0) (zjn (xC ?_))))))
 refine c_cut (fun ρ w11 => ∃ (junk : Env) (a7 : Option Addr) (c8 : Nat) (rx9 : List Value) (rF10 : List Nat), ρ = upd (upd (upd (upd (upd junk 2 (.slice acounts counts.length ccounts)) 3 (pp b1 0)) 4 (pp b3 0)) 6 (pp b5 0)) 8 (.slice a7 (t.ql.length + 1) c8) ∧ Fresh w.heap.size [] ∧ St w w11 [rr a7 (t.ql.length + 1) c8 22 1 (rx9 ++ [.slice qG t.qj.length qF]), .box b5 [.slice none 0 0, .slice none 0 0, .slice none 0 0] 38, .box b3 [.slice qN t.qh.length qL, .slice xh t.ql.length qZ, .slice qG t.qj.length qF] 38, .box b1 [.int .i64 s.qJ, .slice qo s.qf.length qm, .slice qC s.qg.length qA] 36] [xN false (rF10 ++ xw) (rx9 ++ [.slice qG t.qj.length qF]) (t.ql ++ [t.qj]), sF false qP qo qm s.qf, sF false xu qC qA s.qg, sF false xE qN qL t.qh, sF false zf xh qZ t.ql, sF false xw qG qF t.qj, sF false Fcounts acounts ccounts counts]) ?_ ?_
 ·skip
  refine vH rfl H fun H => tF 0 rfl rfl H ?_
  refine tL 1 rfl rfl (fun _ h => h.cell 1 rfl rfl) H ?_
  refine tF 3 rfl rfl H ?_
  refine tL 4 rfl rfl (fun _ h => h.cell 1 rfl rfl) H ?_
  refine vT [2, 5] (by kernel_rfl) (by simp) (yx rfl ?_ (yx rfl ?_ vU))
  ·skip
   have sz16 := H.base.size
   refine oc (cloneSS_ok _ t.ql (H.get 3 rfl).1 (by first | assumption | omega)) ?_
   rintro _ w14 ⟨ra13, rn13, rc13, rx13, rF13, rfl, hG18, K⟩ _
   replace H := H.mergeIn K 3 rfl hG18
   obtain rfl := H.xP (α := List Int) 0 rfl 0 rfl (by decide)
   refine ⟨H.pick [1, 2, 3] [1, 2, 3, 4, 5, 6], (ro 5 rfl (zM H Tryz.underlying27 ti22 [.slice qG t.qj.length qF] fun b19 w20 H => ⟨H.pick [2, 3, 4] [1, 2, 3, 4, 5, 6], (ro 6 rfl (zV H 1 rfl 0 rfl Tryz.underlying27 ti22 rfl (by decide) rfl rfl rfl (by simp [Value.oneCell', Value.cells]) (by unfold maxLen; omega) (by omega) fun a21 c22 w23 H => ?_))⟩))⟩
   replace H := H.yl 0 rfl 5 rfl
   refine ⟨H.pick [2, 3, 4] [2, 3, 4, 5, 6, 7], (rtp 7 (.slice a21 (t.ql.length + 1) c22) (H.pick [2, 3, 4] [2, 3, 4, 5, 6, 7]) ?_)⟩
   refine xy (by kernel_rfl) ((meet ⟨_, a21, c22, rx13, rF13, uE5, N, H.pick [1, 2, 3, 4] [0, 2, 3, 4, 5, 6, 7]⟩))
  refine zM H Tryz.underlying27 ti22 [.slice qG t.qj.length qF] fun b24 w25 H => ⟨H.pick [1, 2, 3] [0, 1, 2, 3, 4, 5], (ro 2 rfl ?_)⟩
  have sz29 := H.base.size
  refine oc (cloneSS_ok _ t.ql (H.get 3 rfl).1 (by first | assumption | omega)) ?_
  rintro _ w27 ⟨ra26, rn26, rc26, rx26, rF26, rfl, hG31, K⟩ _
  replace H := H.mergeIn K 3 rfl hG31
  obtain rfl := H.xP (α := List Int) 0 rfl 0 rfl (by decide)
  refine ⟨H.pick [2, 3, 4] [1, 2, 3, 4, 5, 6], (ro 6 rfl (zV H 0 rfl 1 rfl Tryz.underlying27 ti22 rfl (by decide) rfl rfl rfl (by simp [Value.oneCell', Value.cells]) (by unfold maxLen; omega) (by omega) fun a32 c33 w34 H => ?_))⟩
  replace H := H.yl 0 rfl 5 rfl
  refine ⟨H.pick [2, 3, 4] [2, 3, 4, 5, 6, 7], (rtp 7 (.slice a32 (t.ql.length + 1) c33) (H.pick [2, 3, 4] [2, 3, 4, 5, 6, 7]) ?_)⟩
  refine xy (by kernel_rfl) ((meet ⟨_, a32, c33, rx26, rF26, uE5, N, H.pick [0, 2, 3, 4] [0, 2, 3, 4, 5, 6, 7]⟩))
 clear H N
 rintro ρ w35 ⟨junk, a7, c8, rx9, rF10, rfl, N, H⟩
 refine t_n (zcr (oF rfl (oL rfl (H.cell 3 rfl rfl) (oN rfl (sw (o_makeB H Tryz.underlying26 ti4 s.qf.length rfl rfl (by omega) (by omega) (by omega) fun b36 w37 H => sp (.slice (aa b36 0) s.qf.length s.qf.length) (zjcc (sp (.slice acounts counts.length ccounts) (oN rfl (sp (.int .i64 0) (zjn (qM ?_))))))))))))
 refine xQ (fun m' ρ w38 => ∃ (junk : Env) (i : Nat) (melts : List Bool) (bags : List (List Int)) (x_bags : List Value) (F_bags : List Nat), ρ = upd (upd (upd (upd (upd (upd (upd (upd junk 3 (pp b1 0)) 4 (pp b3 0)) 6 (pp b5 0)) 8 (.slice a7 (t.ql.length + 1) c8)) 9 (.slice (aa b36 0) s.qf.length s.qf.length)) 26 (.slice acounts counts.length ccounts)) 27 (.int .i64 counts.length)) 28 (.int .i64 i) ∧ melts = jH s counts s.qf.length i ∧ ((i : Int) ≤ counts.length) ∧ (Ent (s.qf.length + 1) (yZ s) (fun p q => base0 s t p q + allS s t counts i p q) (20000000 + 6000000 * i) bags) ∧ (bags.length = s.qf.length + 1) ∧ m' = (counts.length - (i : Int)).toNat ∧ Fresh w.heap.size [] ∧ St w w38 [rr (aa b36 0) s.qf.length s.qf.length 4 1 (melts.map (Value.bool)), rr a7 (t.ql.length + 1) c8 22 1 x_bags, .box b5 [.slice none 0 0, .slice none 0 0, .slice none 0 0] 38, .box b3 [.slice qN t.qh.length qL, .slice xh t.ql.length qZ, .slice qG t.qj.length qF] 38, .box b1 [.int .i64 s.qJ, .slice qo s.qf.length qm, .slice qC s.qg.length qA] 36] [xN false F_bags x_bags bags, sF false qP qo qm s.qf, sF false xu qC qA s.qg, sF false xE qN qL t.qh, sF false zf xh qZ t.ql, sF false xw qG qF t.qj, sF false Fcounts acounts ccounts counts]) ((counts.length - (0 : Int)).toNat) ⟨_, 0, (List.replicate s.qf.length (false)), (t.ql ++ [t.qj]), rx9 ++ [.slice qG t.qj.length qF], (rF10 ++ xw), uE8, (by exact meltsL_zero s counts _), (by omega), (by exact (start_ent p1).to (fun _ _ => rfl) (by omega)), (by simp; omega), rfl, N, H⟩ ?_
 clear H N
 rintro m' ρ w39 ⟨junk, i, melts, bags, x_bags, F_bags, rfl, rfl, i0, E_bags, z_bags, rfl, N, H⟩
 have hn_melts := H.rowNB 0 rfl
 have hn_bags := H.xP (α := List Int) 1 rfl 0 rfl (by decide)
 refine zcr (sp (.bool (decide ((i : Int) < counts.length))) (zjn (xC (cD rfl (fun h40 => ?_) (fun h40 => ?_)))))
 ·skip
  have q := p0.rule (i := i) (by omega)
  have qc := q.1
  have qk := q.cell
  have qr := q.2.1
  have bn1 := q.2.2.2.2.1
  have bn2 := q.2.2.2.2.2.2.2.1
  have bn3 := q.2.2.2.2.2.2.2.2.1
  have ln1 := bn1.len
  have ln2 := bn2.len
  have ln3 := bn3.len
  have p10 := p2.bd (i := i) (by omega)
  have qn := q.2.2.2.1
  have ml := meltsL_len s counts s.qf.length i
  refine qK (t_n (xC (qM (zcr (sp (.int .i64 i) ?_)))))
  obtain ⟨b41, o42, rfl⟩ := H.addr 6 rfl (by omega)
  refine oI rfl rfl (oL rfl (H.jd 6 rfl i (by omega) (by omega)) (sps [.int .i64 i, .int .i64 (counts[i]!)] (zjc (oF rfl (oL rfl (H.cell 4 rfl rfl) (sp (.int .i64 i) ?_))))))
  obtain ⟨b44, o45, rfl⟩ := H.addr 2 rfl (by omega)
  obtain ⟨XY, XT, Fe47Need, X0, XV, Fe47Have, XZ, XU, Fe47Lack, Xh, Xf, Fe47Here, XL, XJ, Fe47Out, Xg, Xe, Fe47Into, H⟩ := H.jy 2 rfl i i (by omega) (by omega) (by omega)
  refine oI rfl rfl (sw (xU [.int .i64 ((s.qg[i]!).qp), .int .i64 ((s.qg[i]!).zg), .slice XY (((s.qg[i]!).qV).length) XT, .slice X0 (((s.qg[i]!).xg).length) XV, .slice XZ (((s.qg[i]!).xm).length) XU, .slice Xh (((s.qg[i]!).xq).length) Xf, .slice XL (((s.qg[i]!).zq).length) XJ, .slice Xg (((s.qg[i]!).qI).length) Xe, .bool ((s.qg[i]!).xO)] Tryz.isAgg121 Tryz.sizeOf121 rfl (qw (H.get 6 rfl) 0 9) ?_))
  refine sw (xM H ti121 [.int .i64 0, .int .i64 0, .slice none 0 0, .slice none 0 0, .slice none 0 0, .slice none 0 0, .slice none 0 0, .slice none 0 0, .bool false] fun b48 w49 H => sw (zF H 0 [.int .i64 ((s.qg[i]!).qp), .int .i64 ((s.qg[i]!).zg), .slice XY (((s.qg[i]!).qV).length) XT, .slice X0 (((s.qg[i]!).xg).length) XV, .slice XZ (((s.qg[i]!).xm).length) XU, .slice Xh (((s.qg[i]!).xq).length) Xf, .slice XL (((s.qg[i]!).zq).length) XJ, .slice Xg (((s.qg[i]!).qI).length) Xe, .bool ((s.qg[i]!).xO)] Tryz.sizeOf121 fun w50 H => ?_))
  refine zjn (xC ?_)
  refine yO rfl H [0, 1, 3, 4, 5] fun H => ?_
  have S := H.jZ [0, 1, 3, 4, 5] [0, 1, 2, 3, 4, 5, 6, 7, 8, 9, 10, 11, 12, 13]
  refine rtp 0 (.slice a7 (t.ql.length + 1) c8) S ?_
  refine tF 1 rfl rfl S ?_
  refine tL 2 rfl rfl (fun _ h => h.cell 0 rfl rfl) S ?_
  refine rtp 3 (.slice a7 (t.ql.length + 1) c8) S ?_
  refine tF 4 rfl rfl S ?_
  refine tL 5 rfl rfl (fun _ h => h.cell 0 rfl rfl) S ?_
  obtain ⟨b52, rfl⟩ := H.Qn 2 rfl (by omega)
  have S := H.jZ [0, 1, 3, 4, 5] [0, 1, 2, 3, 4, 5, 6, 7, 8, 9, 10, 11, 12, 13]
  refine tI 6 rfl rfl rfl S ?_
  refine tF 8 rfl rfl S ?_
  refine tL 9 rfl rfl (fun _ h => h.cell 0 rfl rfl) S ?_
  refine rtp 10 (.int .i64 (counts[i]!)) S ?_
  refine rt 11 (.int .i64 (-(counts[i]!))) (y_neg (counts[i]!) rfl (by omega)) S ?_
  refine ro 7 rfl ?_
  obtain ⟨a53, c54, G55, s56, h57, H⟩ := H.jo 2 rfl 7 rfl (iv := (s.qg[i]!).qp) (((s.qg[i]!).qp).toNat) (by omega) (by omega)
  refine zl (.slice a53 ((bags[((s.qg[i]!).qp).toNat]!).length) c54) Tryz.isAgg22 rfl (h57) (⟨H.pick [0, 1, 3, 4, 5] [1, 2, 3, 4, 5, 6, 7, 8, 9, 10, 11, 12, 13, 14], (ro 12 rfl ?_)⟩)
  obtain ⟨u1, u2⟩ := E_bags.sh.row (c := ((s.qg[i]!).qp).toNat) (by omega) p8 (by omega)
  have u4 := (by first | exact bn1.jW (by omega) | exact bn2.jW (by omega) | exact bn3.jW (by omega) | exact bn4.jW (by omega) : SmallT ((s.qg[i]!).qV) (-(counts[i]!)))
  have sz58 := H.base.size
  refine oc (plus_ok _ (bags[((s.qg[i]!).qp).toNat]!) ((s.qg[i]!).qV) (-(counts[i]!)) (H.get 0 rfl).1 (H.get 1 rfl).1 (by first | assumption | omega) (by first | assumption | omega) (by first | assumption | omega)) ?_
  rintro v63 w61 r63 x62
  replace H := H.xW x62 r63
  obtain ⟨a64, c65, rfl, hc66, hm67⟩ := H.vN 0 rfl
  refine ⟨H.pick [1, 2, 4, 5, 6] [1, 2, 3, 4, 5, 6, 7, 8, 9, 10, 11, 12, 13, 14], (tI 13 rfl rfl rfl (H.pick [1, 2, 4, 5, 6] [1, 2, 3, 4, 5, 6, 7, 8, 9, 10, 11, 12, 13, 14]) ?_)⟩
  refine ro 14 rfl ?_
  obtain ⟨G69, N, hn70, H⟩ := H.vG 0 rfl N (H.yT [])
  refine jb false H 3 rfl 9 rfl (.slice a64 ((vk (bags[((s.qg[i]!).qp).toNat]!) ((s.qg[i]!).qV) (-(counts[i]!))).length) c65) 0 rfl rfl Tryz.sizeOf22 rfl rfl (i := (((s.qg[i]!).qp).toNat)) (by omega) (by omega) (by simp) fun w68 xs71 F72 hs73 H => ⟨H.pick [1, 2, 4, 5, 6] [3, 4, 5, 6, 7, 8, 9, 10, 11, 12, 13, 14, 15, 16], (xy (by kernel_rfl) (t_n (zcr (sw (xU [.int .i64 s.qJ, .slice qo s.qf.length qm, .slice (aa b44 o45) s.qg.length qA] Tryz.isAgg36 Tryz.sizeOf36 rfl (qw (H.cells 6 rfl) 0 3) ?_)))))⟩
  refine sw (xU [.slice qN t.qh.length qL, .slice xh t.ql.length qZ, .slice qG t.qj.length qF] Tryz.isAgg38 Tryz.sizeOf38 rfl (qw (H.cells 5 rfl) 0 3) (sp (.slice (aa b52 0) (t.ql.length + 1) c8) ?_))
  refine sw (xU [.int .i64 ((s.qg[i]!).qp), .int .i64 ((s.qg[i]!).zg), .slice XY (((s.qg[i]!).qV).length) XT, .slice X0 (((s.qg[i]!).xg).length) XV, .slice XZ (((s.qg[i]!).xm).length) XU, .slice Xh (((s.qg[i]!).xq).length) Xf, .slice XL (((s.qg[i]!).zq).length) XJ, .slice Xg (((s.qg[i]!).qI).length) Xe, .bool ((s.qg[i]!).xO)] Tryz.isAgg121 Tryz.sizeOf121 rfl (qw (H.cells 1 rfl) 0 9) (sp (.int .i64 (counts[i]!)) ?_))
  obtain ⟨bg74, e_bg74⟩ : ∃ z, z = (bags.set (((s.qg[i]!).qp).toNat) (vk (bags[((s.qg[i]!).qp).toNat]!) ((s.qg[i]!).qV) (-(counts[i]!)))) := ⟨_, rfl⟩
  rw [← e_bg74] at H
  have E_bg74 := Ent.add (D := 1000000) E_bags e_bg74 (by omega) (by first | exact bn1.mul (by omega) | exact bn2.mul (by omega) | exact bn3.mul (by omega) | exact bn4.mul (by omega)) (by omega)
  have z_bg74 := E_bg74.sh.1
  have E_cur := E_bg74
  refine sw (zS #[.agg #[.int .i64 s.qJ, .slice qo s.qf.length qm, .slice (aa b44 o45) s.qg.length qA], .agg #[.slice qN t.qh.length qL, .slice xh t.ql.length qZ, .slice qG t.qj.length qF], .slice (aa b52 0) (t.ql.length + 1) c8, .agg #[.int .i64 ((s.qg[i]!).qp), .int .i64 ((s.qg[i]!).zg), .slice XY (((s.qg[i]!).qV).length) XT, .slice X0 (((s.qg[i]!).xg).length) XV, .slice XZ (((s.qg[i]!).xm).length) XU, .slice Xh (((s.qg[i]!).xq).length) Xf, .slice XL (((s.qg[i]!).zq).length) XJ, .slice Xg (((s.qg[i]!).qI).length) Xe, .bool ((s.qg[i]!).xO)], .int .i64 (counts[i]!)] rfl rfl Tryz.call153 ?_)
  refine en Tryz.func153 Tryz.ntmps153 ?_
  refine zcr (sw (zY H [.int .i64 s.qJ, .slice qo s.qf.length qm, .slice (aa b44 o45) s.qg.length qA] fun b75 w76 H => sw (zY H [.slice qN t.qh.length qL, .slice xh t.ql.length qZ, .slice qG t.qj.length qF] fun b77 w78 H => sw (zY H [.slice (aa b52 0) (t.ql.length + 1) c8] fun b79 w80 H => ?_))))
  refine sw (zY H [.int .i64 ((s.qg[i]!).qp), .int .i64 ((s.qg[i]!).zg), .slice XY (((s.qg[i]!).qV).length) XT, .slice X0 (((s.qg[i]!).xg).length) XV, .slice XZ (((s.qg[i]!).xm).length) XU, .slice Xh (((s.qg[i]!).xq).length) Xf, .slice XL (((s.qg[i]!).zq).length) XJ, .slice Xg (((s.qg[i]!).qI).length) Xe, .bool ((s.qg[i]!).xO)] fun b81 w82 H => sw (zY H [.int .i64 (counts[i]!)] fun b83 w84 H => zjc ?_))
  refine sps [.func (.func 191) #[] #[pp b79 0, pp b83 0], .func (.func 191) #[] #[pp b79 0, pp b83 0]] (zjc (sp (.func (.func 191) #[] #[pp b79 0, pp b83 0]) (oF rfl (oL rfl (H.cell 1 rfl rfl) (oF rfl (oL rfl (H.cell 1 rfl rfl) (sw (zS #[.int .i64 ((s.qg[i]!).qp), .slice Xh (((s.qg[i]!).xq).length) Xf, pp b79 0, pp b83 0] rfl rfl Tryz.call191 (en Tryz.func191 Tryz.ntmps191 ?_)))))))))
  refine yO rfl H [0, 1, 2, 3, 4, 5, 6, 7, 9, 10, 11] fun H => ?_
  have S := H.jZ [0, 1, 2, 3, 4, 5, 6, 7, 9, 10, 11] [0, 1, 2, 3, 4, 5, 6, 7, 8, 9, 10, 11, 12, 13, 14, 15, 16]
  refine tL 0 rfl rfl (fun _ h => h.cell 2 rfl rfl) S ?_
  refine rtp 1 (.int .i64 ((s.qg[i]!).qp)) S ?_
  refine tL 2 rfl rfl (fun _ h => h.cell 2 rfl rfl) S ?_
  refine rtp 3 (.int .i64 ((s.qg[i]!).qp)) S ?_
  refine tI 4 rfl rfl rfl S ?_
  refine rtp 6 (.slice Xh (((s.qg[i]!).xq).length) Xf) S ?_
  refine tL 7 rfl rfl (fun _ h => h.cell 0 rfl rfl) S ?_
  refine ro 5 rfl ?_
  obtain ⟨a86, c87, G88, s89, h90, H⟩ := H.jo 8 rfl 0 rfl (iv := (s.qg[i]!).qp) (((s.qg[i]!).qp).toNat) (by omega) (by omega)
  refine zl (.slice a86 ((bg74[((s.qg[i]!).qp).toNat]!).length) c87) Tryz.isAgg22 rfl (h90) (⟨H.pick [0, 1, 2, 3, 4, 5, 6, 7, 9, 10, 11] [1, 2, 3, 4, 5, 6, 7, 8, 9, 10, 11, 12, 13, 14, 15, 16, 17], (ro 8 rfl ?_)⟩)
  obtain ⟨u1, u2⟩ := E_bg74.sh.row (c := ((s.qg[i]!).qp).toNat) (by omega) p8 (by omega)
  have u4 := (by first | exact bn1.jW (by omega) | exact bn2.jW (by omega) | exact bn3.jW (by omega) | exact bn4.jW (by omega) : SmallT ((s.qg[i]!).xq) (counts[i]!))
  have sz91 := H.base.size
  have lt92 := H.ltN (L := [G69]) [2]
  refine oc (plus_ok _ (bg74[((s.qg[i]!).qp).toNat]!) ((s.qg[i]!).xq) (counts[i]!) (H.get 0 rfl).1 (H.get 7 rfl).1 (by first | assumption | omega) (by first | assumption | omega) (by first | assumption | omega)) ?_
  rintro v96 w94 r96 x95
  replace H := H.xW x95 r96
  obtain ⟨a97, c98, rfl, hc99, hm100⟩ := H.vN 0 rfl
  refine ⟨H.pick [1, 2, 3, 4, 5, 6, 7, 8, 10, 11, 12] [1, 2, 3, 4, 5, 6, 7, 8, 9, 10, 11, 12, 13, 14, 15, 16, 17], (tI 9 rfl rfl rfl (H.pick [1, 2, 3, 4, 5, 6, 7, 8, 10, 11, 12] [1, 2, 3, 4, 5, 6, 7, 8, 9, 10, 11, 12, 13, 14, 15, 16, 17]) ?_)⟩
  refine ro 10 rfl ?_
  obtain ⟨G102, N, hn103, H⟩ := H.vG 0 rfl N (H.yT [2])
  refine jb false H 9 rfl 2 rfl (.slice a97 ((vk (bg74[((s.qg[i]!).qp).toNat]!) ((s.qg[i]!).xq) (counts[i]!)).length) c98) 0 rfl rfl Tryz.sizeOf22 rfl rfl (i := (((s.qg[i]!).qp).toNat)) (by omega) (by omega) (by simp) fun w101 xs104 F105 hs106 H => ⟨H.pick [1, 2, 3, 4, 5, 6, 7, 8, 10, 11, 12] [3, 4, 5, 6, 7, 8, 9, 10, 11, 12, 13, 14, 15, 16, 17, 18, 19], (xy (by kernel_rfl) ((ret0 rfl ⟨_, rfl, ?_⟩)))⟩
  replace H := H.erases [6, 0]
  dsimp only [jf, List.eraseIdx] at H
  obtain ⟨bg107, e_bg107⟩ : ∃ z, z = (bg74.set (((s.qg[i]!).qp).toNat) (vk (bg74[((s.qg[i]!).qp).toNat]!) ((s.qg[i]!).xq) (counts[i]!))) := ⟨_, rfl⟩
  rw [← e_bg107] at H
  have E_bg107 := Ent.add (D := 1000000) E_bg74 e_bg107 (by omega) (by first | exact bn1.mul (by omega) | exact bn2.mul (by omega) | exact bn3.mul (by omega) | exact bn4.mul (by omega)) (by omega)
  have z_bg107 := E_bg107.sh.1
  have E_cur := E_bg107
  refine zjcc (sw (xU [.int .i64 s.qJ, .slice qo s.qf.length qm, .slice (aa b44 o45) s.qg.length qA] Tryz.isAgg36 Tryz.sizeOf36 rfl (qw (H.cells 4 rfl) 0 3) (sw (xU [.slice qN t.qh.length qL, .slice xh t.ql.length qZ, .slice qG t.qj.length qF] Tryz.isAgg38 Tryz.sizeOf38 rfl (qw (H.cells 3 rfl) 0 3) (oF rfl (oL rfl (H.cell 1 rfl rfl) ?_))))))
  have qc' := qc
  refine sw (oq (parentNow_ok _ s t ((s.qg[i]!).qp) (H.get 14 rfl).1 (H.get 15 rfl).1 (H.get 16 rfl).1 (H.get 17 rfl).1 (H.get 18 rfl).1 (by first | assumption | omega) (by first | assumption | omega) (by first | assumption | omega)) H fun w109 H => ?_)
  have pl := parentNow_lt p15 p1.2.2.1 qc
  refine sp (.int .i64 (xe s t ((s.qg[i]!).qp))) (zjc (sps [.int .i64 (xe s t ((s.qg[i]!).qp)), .bool (decide ((xe s t ((s.qg[i]!).qp) : Int) ≥ 0))] (zjn (cD rfl (fun h111 => ?_) (fun h111 => ?_)))))
  ·skip
   have po := outPl_in (r := s.qg[i]!) p15 ‹_›
   refine xH (sps [.func (.func 191) #[] #[pp b79 0, pp b83 0], .int .i64 (xe s t ((s.qg[i]!).qp))] (oF rfl (oL rfl (H.cell 1 rfl rfl) (sw (zS #[.int .i64 (xe s t ((s.qg[i]!).qp)), .slice XL (((s.qg[i]!).zq).length) XJ, pp b79 0, pp b83 0] rfl rfl Tryz.call191 (en Tryz.func191 Tryz.ntmps191 ?_))))))
   refine yO rfl H [0, 1, 2, 3, 4, 5, 6, 8, 9, 10] fun H => ?_
   have S := H.jZ [0, 1, 2, 3, 4, 5, 6, 8, 9, 10] [0, 1, 2, 3, 4, 5, 6, 7, 8, 9, 10, 11, 12, 13, 14, 15, 16, 17, 18, 19]
   refine tL 0 rfl rfl (fun _ h => h.cell 2 rfl rfl) S ?_
   refine rtp 1 (.int .i64 (xe s t ((s.qg[i]!).qp))) S ?_
   refine tL 2 rfl rfl (fun _ h => h.cell 2 rfl rfl) S ?_
   refine rtp 3 (.int .i64 (xe s t ((s.qg[i]!).qp))) S ?_
   refine tI 4 rfl rfl rfl S ?_
   refine rtp 6 (.slice XL (((s.qg[i]!).zq).length) XJ) S ?_
   refine tL 7 rfl rfl (fun _ h => h.cell 0 rfl rfl) S ?_
   refine ro 5 rfl ?_
   obtain ⟨a113, c114, G115, s116, h117, H⟩ := H.jo 7 rfl 0 rfl (iv := xe s t ((s.qg[i]!).qp)) ((xe s t ((s.qg[i]!).qp)).toNat) (by omega) (by omega)
   refine zl (.slice a113 ((bg107[(xe s t ((s.qg[i]!).qp)).toNat]!).length) c114) Tryz.isAgg22 rfl (h117) (⟨H.pick [0, 1, 2, 3, 4, 5, 6, 8, 9, 10] [1, 2, 3, 4, 5, 6, 7, 8, 9, 10, 11, 12, 13, 14, 15, 16, 17, 18, 19, 20], (ro 8 rfl ?_)⟩)
   obtain ⟨u1, u2⟩ := E_bg107.sh.row (c := (xe s t ((s.qg[i]!).qp)).toNat) (by omega) p8 (by omega)
   have u4 := (by first | exact bn1.jW (by omega) | exact bn2.jW (by omega) | exact bn3.jW (by omega) | exact bn4.jW (by omega) : SmallT ((s.qg[i]!).zq) (counts[i]!))
   have sz118 := H.base.size
   have lt119 := H.ltN (L := [G102, G69]) [2, 5]
   refine oc (plus_ok _ (bg107[(xe s t ((s.qg[i]!).qp)).toNat]!) ((s.qg[i]!).zq) (counts[i]!) (H.get 0 rfl).1 (H.get 11 rfl).1 (by first | assumption | omega) (by first | assumption | omega) (by first | assumption | omega)) ?_
   rintro v123 w121 r123 x122
   replace H := H.xW x122 r123
   obtain ⟨a124, c125, rfl, hc126, hm127⟩ := H.vN 0 rfl
   refine ⟨H.pick [1, 2, 3, 4, 5, 6, 7, 9, 10, 11] [1, 2, 3, 4, 5, 6, 7, 8, 9, 10, 11, 12, 13, 14, 15, 16, 17, 18, 19, 20], (tI 9 rfl rfl rfl (H.pick [1, 2, 3, 4, 5, 6, 7, 9, 10, 11] [1, 2, 3, 4, 5, 6, 7, 8, 9, 10, 11, 12, 13, 14, 15, 16, 17, 18, 19, 20]) ?_)⟩
   refine ro 10 rfl ?_
   obtain ⟨G129, N, hn130, H⟩ := H.vG 0 rfl N (H.yT [2, 5])
   refine jb false H 8 rfl 2 rfl (.slice a124 ((vk (bg107[(xe s t ((s.qg[i]!).qp)).toNat]!) ((s.qg[i]!).zq) (counts[i]!)).length) c125) 0 rfl rfl Tryz.sizeOf22 rfl rfl (i := ((xe s t ((s.qg[i]!).qp)).toNat)) (by omega) (by omega) (by simp) fun w128 xs131 F132 hs133 H => ⟨H.pick [1, 2, 3, 4, 5, 6, 7, 9, 10, 11] [3, 4, 5, 6, 7, 8, 9, 10, 11, 12, 13, 14, 15, 16, 17, 18, 19, 20, 21, 22], (xy (by kernel_rfl) ((ret0 rfl ⟨_, rfl, ?_⟩)))⟩
   replace H := H.erases [0]
   dsimp only [jf, List.eraseIdx] at H
   obtain ⟨bg134, e_bg134⟩ : ∃ z, z = (bg107.set ((xe s t ((s.qg[i]!).qp)).toNat) (vk (bg107[(xe s t ((s.qg[i]!).qp)).toNat]!) ((s.qg[i]!).zq) (counts[i]!))) := ⟨_, rfl⟩
   rw [← e_bg134] at H
   have E_bg134 := Ent.add (D := 1000000) E_bg107 e_bg134 (by omega) (by first | exact bn1.mul (by omega) | exact bn2.mul (by omega) | exact bn3.mul (by omega) | exact bn4.mul (by omega)) (by omega)
   have z_bg134 := E_bg134.sh.1
   have E_cur := E_bg134
   refine zjc (oF rfl (oL rfl (H.cell 1 rfl rfl) (oN rfl (sp (.int .i64 0) (zjn (qM ?_))))))
   refine xQ (fun m' ρ w135 => ∃ (junk : Env) (k : Nat) (bags_1 : List (List Int)) (XO : List Value) (F_bags_1 : List Nat), ρ = upd (upd (upd (upd junk 10 (.func (.func 191) #[] #[pp b79 0, pp b83 0])) 40 (.slice Xg (((s.qg[i]!).qI).length) Xe)) 41 (.int .i64 (((s.qg[i]!).qI).length))) 42 (.int .i64 k) ∧ ((k : Int) ≤ (((s.qg[i]!).qI).length)) ∧ (Ent (s.qf.length + 1) (yZ s) (fun p q => base0 s t p q + allS s t counts i p q + at' p (s.qg[i]!).qp.toNat (-(counts[i]!) * ((s.qg[i]!).qV)[q]!) + at' p (s.qg[i]!).qp.toNat ((counts[i]!) * ((s.qg[i]!).xq)[q]!) + at' p (outPl s t (s.qg[i]!)) ((counts[i]!) * ((s.qg[i]!).zq)[q]!) + intoF (s.qg[i]!) (counts[i]!) k p q) (23000000 + 6000000 * i + 1000000 * k) bags_1) ∧ (bags_1.length = s.qf.length + 1) ∧ m' = ((((s.qg[i]!).qI).length) - (k : Int)).toNat ∧ Fresh w.heap.size [G69] ∧ St w w135 [.box b83 [.int .i64 (counts[i]!)] 2, .box b81 [.int .i64 ((s.qg[i]!).qp), .int .i64 ((s.qg[i]!).zg), .slice XY (((s.qg[i]!).qV).length) XT, .slice X0 (((s.qg[i]!).xg).length) XV, .slice XZ (((s.qg[i]!).xm).length) XU, .slice Xh (((s.qg[i]!).xq).length) Xf, .slice XL (((s.qg[i]!).zq).length) XJ, .slice Xg (((s.qg[i]!).qI).length) Xe, .bool ((s.qg[i]!).xO)] 121, .box b79 [.slice (aa b52 0) (t.ql.length + 1) c8] 27, .box b77 [.slice qN t.qh.length qL, .slice xh t.ql.length qZ, .slice qG t.qj.length qF] 38, .box b75 [.int .i64 s.qJ, .slice qo s.qf.length qm, .slice (aa b44 o45) s.qg.length qA] 36, .box b48 [.int .i64 ((s.qg[i]!).qp), .int .i64 ((s.qg[i]!).zg), .slice XY (((s.qg[i]!).qV).length) XT, .slice X0 (((s.qg[i]!).xg).length) XV, .slice XZ (((s.qg[i]!).xm).length) XU, .slice Xh (((s.qg[i]!).xq).length) Xf, .slice XL (((s.qg[i]!).zq).length) XJ, .slice Xg (((s.qg[i]!).qI).length) Xe, .bool ((s.qg[i]!).xO)] 121, rr (aa b36 0) s.qf.length s.qf.length 4 1 ((jH s counts s.qf.length i).map (Value.bool)), rr (aa b52 0) (t.ql.length + 1) c8 22 1 XO, .box b5 [.slice none 0 0, .slice none 0 0, .slice none 0 0] 38, .box b3 [.slice qN t.qh.length qL, .slice xh t.ql.length qZ, .slice qG t.qj.length qF] 38, .box b1 [.int .i64 s.qJ, .slice qo s.qf.length qm, .slice (aa b44 o45) s.qg.length qA] 36] [xN false F_bags_1 XO bags_1, sF true G69 a64 c65 (vk (bags[((s.qg[i]!).qp).toNat]!) ((s.qg[i]!).qV) (-(counts[i]!))), sF false G55 a53 c54 (bags[((s.qg[i]!).qp).toNat]!), sF false Fe47Need XY XT ((s.qg[i]!).qV), sF false Fe47Have X0 XV ((s.qg[i]!).xg), sF false Fe47Lack XZ XU ((s.qg[i]!).xm), sF false Fe47Here Xh Xf ((s.qg[i]!).xq), sF false Fe47Out XL XJ ((s.qg[i]!).zq), sF false Fe47Into Xg Xe ((s.qg[i]!).qI), atF b44 (o45 + (i : Int).toNat * 9) [.int .i64 ((s.qg[i]!).qp), .int .i64 ((s.qg[i]!).zg), .slice XY (((s.qg[i]!).qV).length) XT, .slice X0 (((s.qg[i]!).xg).length) XV, .slice XZ (((s.qg[i]!).xm).length) XU, .slice Xh (((s.qg[i]!).xq).length) Xf, .slice XL (((s.qg[i]!).zq).length) XJ, .slice Xg (((s.qg[i]!).qI).length) Xe, .bool ((s.qg[i]!).xO)], sF false qP qo qm s.qf, sF false xu (aa b44 o45) qA s.qg, sF false xE qN qL t.qh, sF false zf xh qZ t.ql, sF false xw qG qF t.qj, sF false Fcounts (aa b41 o42) ccounts counts]) (((((s.qg[i]!).qI).length) - (0 : Int)).toNat) ⟨_, 0, bg134, xs131, F132, uE4, (by omega), (by exact E_cur.to (fun p q => by rw [po]; simp only [intoF]; first | omega | (simp only [Int.toNat_natCast]; omega)) (by omega)), (by omega), rfl, (N.pick [2]), H.pick [0, 1, 2, 3, 4, 5, 6, 7, 8, 9, 10] [0, 7, 8, 9, 10, 11, 12, 13, 14, 15, 17, 18, 19, 20, 21, 22]⟩ ?_
   clear H N
   rintro m' ρ w136 ⟨junk, k, bags_1, XO, F_bags_1, rfl, i0, E_bags_1, z_bags_1, rfl, N, H⟩
   have hn_bags := H.xP (α := List Int) 7 rfl 0 rfl (by decide)
   refine zcr (sp (.bool (decide ((k : Int) < (((s.qg[i]!).qI).length)))) (zjn (xC (cD rfl (fun h137 => ?_) (fun h137 => ?_)))))
   ·skip
    have qi := q.2.2.2.2.2.2.2.2.2.2 k (by omega)
    have qi1 := qi.1
    have bn4 := qi.2.2.1
    have ln4 := bn4.len
    refine qK (t_n (xC (qM (zcr ?_))))
    obtain ⟨b138, o139, rfl⟩ := H.addr 8 rfl (by omega)
    obtain ⟨ae141Bag, ce141Bag, Fe141Bag, H⟩ := H.jh 8 rfl k k (by omega) (by omega) (by omega)
    refine oI rfl rfl (sw (xU [.int .i64 ((((s.qg[i]!).qI)[k]!).qp), .slice ae141Bag (((((s.qg[i]!).qI)[k]!).vS).length) ce141Bag] Tryz.isAgg164 Tryz.sizeOf164 rfl (qw (H.get 1 rfl) 0 2) (sw (xM H ti164 [.int .i64 0, .slice none 0 0] fun b142 w143 H => sw (zF H 0 [.int .i64 ((((s.qg[i]!).qI)[k]!).qp), .slice ae141Bag (((((s.qg[i]!).qI)[k]!).vS).length) ce141Bag] Tryz.sizeOf164 fun w144 H => zjn (xH (sp (.func (.func 191) #[] #[pp b79 0, pp b83 0]) (oF rfl (oL rfl (H.cell 0 rfl rfl) (oF rfl (oL rfl (H.cell 0 rfl rfl) ?_)))))))))))
    refine sw (zS #[.int .i64 ((((s.qg[i]!).qI)[k]!).qp), .slice ae141Bag (((((s.qg[i]!).qI)[k]!).vS).length) ce141Bag, pp b79 0, pp b83 0] rfl rfl Tryz.call191 (en Tryz.func191 Tryz.ntmps191 ?_))
    refine yO rfl H [0, 1, 2, 3, 4, 5, 6, 7, 9, 10, 11] fun H => ?_
    have S := H.jZ [0, 1, 2, 3, 4, 5, 6, 7, 9, 10, 11] [0, 1, 2, 3, 4, 5, 6, 7, 8, 9, 10, 11, 12, 13, 14, 15, 16, 17]
    refine tL 0 rfl rfl (fun _ h => h.cell 3 rfl rfl) S ?_
    refine rtp 1 (.int .i64 ((((s.qg[i]!).qI)[k]!).qp)) S ?_
    refine tL 2 rfl rfl (fun _ h => h.cell 3 rfl rfl) S ?_
    refine rtp 3 (.int .i64 ((((s.qg[i]!).qI)[k]!).qp)) S ?_
    refine tI 4 rfl rfl rfl S ?_
    refine rtp 6 (.slice ae141Bag (((((s.qg[i]!).qI)[k]!).vS).length) ce141Bag) S ?_
    refine tL 7 rfl rfl (fun _ h => h.cell 1 rfl rfl) S ?_
    refine ro 5 rfl ?_
    obtain ⟨a146, c147, G148, s149, h150, H⟩ := H.jo 8 rfl 2 rfl (iv := (((s.qg[i]!).qI)[k]!).qp) (((((s.qg[i]!).qI)[k]!).qp).toNat) (by omega) (by omega)
    refine zl (.slice a146 ((bags_1[((((s.qg[i]!).qI)[k]!).qp).toNat]!).length) c147) Tryz.isAgg22 rfl (h150) (⟨H.pick [0, 1, 2, 3, 4, 5, 6, 7, 9, 10, 11] [1, 2, 3, 4, 5, 6, 7, 8, 9, 10, 11, 12, 13, 14, 15, 16, 17, 18], (ro 8 rfl ?_)⟩)
    obtain ⟨u1, u2⟩ := E_bags_1.sh.row (c := ((((s.qg[i]!).qI)[k]!).qp).toNat) (by omega) p8 (by omega)
    have u4 := (by first | exact bn1.jW (by omega) | exact bn2.jW (by omega) | exact bn3.jW (by omega) | exact bn4.jW (by omega) : SmallT ((((s.qg[i]!).qI)[k]!).vS) (counts[i]!))
    have sz151 := H.base.size
    have lt152 := H.ltN (L := [G69]) [4]
    refine oc (plus_ok _ (bags_1[((((s.qg[i]!).qI)[k]!).qp).toNat]!) ((((s.qg[i]!).qI)[k]!).vS) (counts[i]!) (H.get 0 rfl).1 (H.get 1 rfl).1 (by first | assumption | omega) (by first | assumption | omega) (by first | assumption | omega)) ?_
    rintro v156 w154 r156 x155
    replace H := H.xW x155 r156
    obtain ⟨a157, c158, rfl, hc159, hm160⟩ := H.vN 0 rfl
    refine ⟨H.pick [1, 2, 3, 4, 5, 6, 7, 8, 10, 11, 12] [1, 2, 3, 4, 5, 6, 7, 8, 9, 10, 11, 12, 13, 14, 15, 16, 17, 18], (tI 9 rfl rfl rfl (H.pick [1, 2, 3, 4, 5, 6, 7, 8, 10, 11, 12] [1, 2, 3, 4, 5, 6, 7, 8, 9, 10, 11, 12, 13, 14, 15, 16, 17, 18]) ?_)⟩
    refine ro 10 rfl ?_
    obtain ⟨G162, N, hn163, H⟩ := H.vG 0 rfl N (H.yT [4])
    refine jb false H 9 rfl 4 rfl (.slice a157 ((vk (bags_1[((((s.qg[i]!).qI)[k]!).qp).toNat]!) ((((s.qg[i]!).qI)[k]!).vS) (counts[i]!)).length) c158) 0 rfl rfl Tryz.sizeOf22 rfl rfl (i := (((((s.qg[i]!).qI)[k]!).qp).toNat)) (by omega) (by omega) (by simp) fun w161 xs164 F165 hs166 H => ⟨H.pick [1, 2, 3, 4, 5, 6, 7, 8, 10, 11, 12] [3, 4, 5, 6, 7, 8, 9, 10, 11, 12, 13, 14, 15, 16, 17, 18, 19, 20], (xy (by kernel_rfl) ((ret0 rfl ⟨_, rfl, ?_⟩)))⟩
    replace H := H.erases [0]
    dsimp only [jf, List.eraseIdx] at H
    obtain ⟨bg167, e_bg167⟩ : ∃ z, z = (bags_1.set (((((s.qg[i]!).qI)[k]!).qp).toNat) (vk (bags_1[((((s.qg[i]!).qI)[k]!).qp).toNat]!) ((((s.qg[i]!).qI)[k]!).vS) (counts[i]!))) := ⟨_, rfl⟩
    rw [← e_bg167] at H
    have E_bg167 := Ent.add (D := 1000000) E_bags_1 e_bg167 (by omega) (by first | exact bn1.mul (by omega) | exact bn2.mul (by omega) | exact bn3.mul (by omega) | exact bn4.mul (by omega)) (by omega)
    have z_bg167 := E_bg167.sh.1
    have E_cur := E_bg167
    refine xG (b_n (t_n (xH (sw (xX k 1 rfl rfl (by omega) (sp (.int .i64 (k + 1)) (xG (qR (m' := ((((s.qg[i]!).qI).length) - ((k + 1) : Int)).toNat) (by omega) ⟨_, k + 1, bg167, xs164, F165, uE4, ?_, ?_, ?_, rfl, (N.pick [1]), H.pick [1, 2, 3, 4, 5, 6, 7, 8, 9, 10, 11] [0, 6, 7, 8, 9, 10, 11, 12, 13, 14, 15, 16, 17, 18, 19, 20]⟩))))))))
    · omega
    · exact E_cur.to (fun p q => by simp only [intoF]; omega) (by omega)
    · omega
   refine c_exit (t_x (t_x (b_x (ret0 rfl ⟨_, rfl, ?_⟩))))
   replace H := H.erases [4, 3, 2, 1, 0]
   dsimp only [jf, List.eraseIdx] at H
   refine zjn ?_
   refine yO rfl H [0, 2, 3, 4, 5] fun H => ?_
   have S := H.jZ [0, 2, 3, 4, 5] [0, 1, 2, 3, 4, 5, 6, 7, 8, 9, 10, 11, 12, 13, 14, 15]
   refine rtp 0 (.slice (aa b36 0) s.qf.length s.qf.length) S ?_
   refine tF 1 rfl rfl S ?_
   refine tL 2 rfl rfl (fun _ h => h.cell 0 rfl rfl) S ?_
   refine rtp 3 (.slice (aa b36 0) s.qf.length s.qf.length) S ?_
   refine tF 4 rfl rfl S ?_
   refine tL 5 rfl rfl (fun _ h => h.cell 0 rfl rfl) S ?_
   refine tI 6 rfl rfl rfl S ?_
   refine ro 7 rfl (zl (.bool ((jH s counts s.qf.length i)[((s.qg[i]!).qp).toNat]!)) Tryz.isAgg4 rfl (H.rowBool 1 rfl (iv := (s.qg[i]!).qp) (i := (((s.qg[i]!).qp).toNat)) (by omega) (by omega)) (⟨H.pick [0, 2, 3, 4, 5] [0, 1, 2, 3, 4, 5, 6, 7, 8, 9, 10, 11, 12, 13, 14, 15], (rtp 8 (.bool ((jH s counts s.qf.length i)[((s.qg[i]!).qp).toNat]!)) (H.pick [0, 2, 3, 4, 5] [0, 1, 2, 3, 4, 5, 6, 7, 8, 9, 10, 11, 12, 13, 14, 15]) ?_)⟩))
   cases h169 : ((jH s counts s.qf.length i)[((s.qg[i]!).qp).toNat]!)
   ·skip
    have S := H.jZ [0, 2, 3, 4, 5] [0, 1, 2, 3, 4, 5, 6, 7, 8, 9, 10, 11, 12, 13, 14, 15]
    refine rgp 9 (.int .i64 (counts[i]!)) 66 S ?_
    refine rgp 10 (.bool (decide ((counts[i]! : Int) > 0))) 66 S ?_
    refine rgp 11 (.bool (decide ((counts[i]! : Int) > 0))) 66 S ?_
    cases h170 : (decide ((counts[i]! : Int) > 0))
    ·skip
     replace h170 := of_decide_eq_false h170
     refine zo [12, 13] 2 (H.pick [0, 2, 3, 4, 5] [0, 1, 2, 3, 4, 5, 6, 7, 8, 9, 10, 11, 12, 13, 14, 15]) ?_
     have S := H.jZ [0, 2, 3, 4, 5] [0, 1, 2, 3, 4, 5, 6, 7, 8, 9, 10, 11, 12, 13, 14, 15]
     refine rgp 14 (.bool false) 66 S ?_
     refine rtp 15 (.bool false) S ?_
     refine tI 16 rfl rfl rfl S ?_
     refine ro 17 rfl (Qw H 1 rfl false Tryz.sizeOf4 rfl rfl (i := (((s.qg[i]!).qp).toNat)) (by omega) (by omega) fun w171 H => ⟨H.pick [0, 2, 3, 4, 5] [0, 1, 2, 3, 4, 5, 6, 7, 8, 9, 10, 11, 12, 13, 14, 15], (xy (by kernel_rfl) (b_n (t_n (xH (sw (xX i 1 rfl rfl (by omega) (sp (.int .i64 (i + 1)) (xG (qR (m' := (counts.length - ((i + 1) : Int)).toNat) (by omega) ⟨_, i + 1, ((jH s counts s.qf.length i).set (((s.qg[i]!).qp).toNat) false), bags_1, XO, F_bags_1, uE8, ?_, ?_, ?_, ?_, rfl, (N.pick []), H.pick [1, 2, 3, 4, 5] [0, 10, 11, 12, 13, 14, 15]⟩)))))))))⟩)
     · first | exact meltsL_1 (by omega) (by omega) ‹_› | exact meltsL_2 (by omega) (by omega) ‹_› (by omega) | exact meltsL_3 (by omega) (by omega) ‹_› (by omega)
     · omega
     · exact E_bags_1.to (fun p q => by rw [show k = ((s.qg[i]!).qI).length by omega]; simp only [allS, needF, putF]; omega) (by omega)
     · omega
    replace h170 := of_decide_eq_true h170
    have S := H.jZ [0, 2, 3, 4, 5] [0, 1, 2, 3, 4, 5, 6, 7, 8, 9, 10, 11, 12, 13, 14, 15]
    refine gF 12 rfl rfl S ?_
    refine gL 13 rfl rfl (fun _ h => h.cell 0 rfl rfl) S ?_
    refine rgp 14 (.bool ((s.qg[i]!).xO)) 66 S ?_
    refine rtp 15 (.bool ((s.qg[i]!).xO)) S ?_
    refine tI 16 rfl rfl rfl S ?_
    refine ro 17 rfl (Qw H 1 rfl ((s.qg[i]!).xO) Tryz.sizeOf4 rfl rfl (i := (((s.qg[i]!).qp).toNat)) (by omega) (by omega) fun w172 H => ⟨H.pick [0, 2, 3, 4, 5] [0, 1, 2, 3, 4, 5, 6, 7, 8, 9, 10, 11, 12, 13, 14, 15], (xy (by kernel_rfl) (b_n (t_n (xH (sw (xX i 1 rfl rfl (by omega) (sp (.int .i64 (i + 1)) (xG (qR (m' := (counts.length - ((i + 1) : Int)).toNat) (by omega) ⟨_, i + 1, ((jH s counts s.qf.length i).set (((s.qg[i]!).qp).toNat) ((s.qg[i]!).xO)), bags_1, XO, F_bags_1, uE8, ?_, ?_, ?_, ?_, rfl, (N.pick []), H.pick [1, 2, 3, 4, 5] [0, 10, 11, 12, 13, 14, 15]⟩)))))))))⟩)
    · first | exact meltsL_1 (by omega) (by omega) ‹_› | exact meltsL_2 (by omega) (by omega) ‹_› (by omega) | exact meltsL_3 (by omega) (by omega) ‹_› (by omega)
    · omega
    · exact E_bags_1.to (fun p q => by rw [show k = ((s.qg[i]!).qI).length by omega]; simp only [allS, needF, putF]; omega) (by omega)
    · omega
   refine zo [9, 10, 11, 12, 13, 14] 6 (H.pick [0, 2, 3, 4, 5] [0, 1, 2, 3, 4, 5, 6, 7, 8, 9, 10, 11, 12, 13, 14, 15]) ?_
   have S := H.jZ [0, 2, 3, 4, 5] [0, 1, 2, 3, 4, 5, 6, 7, 8, 9, 10, 11, 12, 13, 14, 15]
   refine rtp 15 (.bool true) S ?_
   refine tI 16 rfl rfl rfl S ?_
   refine ro 17 rfl (Qw H 1 rfl true Tryz.sizeOf4 rfl rfl (i := (((s.qg[i]!).qp).toNat)) (by omega) (by omega) fun w173 H => ⟨H.pick [0, 2, 3, 4, 5] [0, 1, 2, 3, 4, 5, 6, 7, 8, 9, 10, 11, 12, 13, 14, 15], (xy (by kernel_rfl) (b_n (t_n (xH (sw (xX i 1 rfl rfl (by omega) (sp (.int .i64 (i + 1)) (xG (qR (m' := (counts.length - ((i + 1) : Int)).toNat) (by omega) ⟨_, i + 1, ((jH s counts s.qf.length i).set (((s.qg[i]!).qp).toNat) true), bags_1, XO, F_bags_1, uE8, ?_, ?_, ?_, ?_, rfl, (N.pick []), H.pick [1, 2, 3, 4, 5] [0, 10, 11, 12, 13, 14, 15]⟩)))))))))⟩)
   · first | exact meltsL_1 (by omega) (by omega) ‹_› | exact meltsL_2 (by omega) (by omega) ‹_› (by omega) | exact meltsL_3 (by omega) (by omega) ‹_› (by omega)
   · omega
   · exact E_bags_1.to (fun p q => by rw [show k = ((s.qg[i]!).qI).length by omega]; simp only [allS, needF, putF]; omega) (by omega)
   · omega
  have po := outPl_out (r := s.qg[i]!) p15 p1.2.2.1 qc (by omega)
  refine yO rfl H [0, 1, 2, 3, 4, 5, 6, 8, 9, 10] fun H => ?_
  have S := H.jZ [0, 1, 2, 3, 4, 5, 6, 8, 9, 10] [0, 1, 2, 3, 4, 5, 6, 7, 8, 9, 10, 11, 12, 13, 14, 15, 16, 17, 18, 19]
  refine rtp 0 (.func (.func 191) #[] #[pp b79 0, pp b83 0]) S ?_
  refine rt 1 (.agg #[.int .i64 s.qJ, .slice qo s.qf.length qm, .slice (aa b44 o45) s.qg.length qA]) (Qm (cs := [.int .i64 s.qJ, .slice qo s.qf.length qm, .slice (aa b44 o45) s.qg.length qA]) Tryz.isAgg36 Tryz.sizeOf36 rfl (fun _ h => qw (h.cells 4 rfl) 0 3)) S ?_
  refine tF 3 rfl rfl S ?_
  refine tL 4 rfl rfl (fun _ h => h.cell 1 rfl rfl) S ?_
  refine ro 2 rfl (oq (around_ok _ s (H.get 14 rfl).1 (H.get 15 rfl).1) H fun w176 H => ⟨H.pick [0, 1, 2, 3, 4, 5, 6, 8, 9, 10] [0, 1, 2, 3, 4, 5, 6, 7, 8, 9, 10, 11, 12, 13, 14, 15, 16, 17, 18, 19], (ro 5 rfl (zS #[.int .i64 s.qf.length, .slice XL (((s.qg[i]!).zq).length) XJ, pp b79 0, pp b83 0] rfl rfl Tryz.call191 (en Tryz.func191 Tryz.ntmps191 ?_)))⟩)
  refine yO rfl H [0, 1, 2, 3, 4, 5, 6, 8, 9, 10] fun H => ?_
  have S := H.jZ [0, 1, 2, 3, 4, 5, 6, 8, 9, 10] [0, 1, 2, 3, 4, 5, 6, 7, 8, 9, 10, 11, 12, 13, 14, 15, 16, 17, 18, 19]
  refine tL 0 rfl rfl (fun _ h => h.cell 2 rfl rfl) S ?_
  refine rtp 1 (.int .i64 s.qf.length) S ?_
  refine tL 2 rfl rfl (fun _ h => h.cell 2 rfl rfl) S ?_
  refine rtp 3 (.int .i64 s.qf.length) S ?_
  refine tI 4 rfl rfl rfl S ?_
  refine rtp 6 (.slice XL (((s.qg[i]!).zq).length) XJ) S ?_
  refine tL 7 rfl rfl (fun _ h => h.cell 0 rfl rfl) S ?_
  refine ro 5 rfl ?_
  obtain ⟨a179, c180, G181, s182, h183, H⟩ := H.jo 7 rfl 0 rfl (iv := s.qf.length) s.qf.length (by omega) (by omega)
  refine zl (.slice a179 ((bg107[s.qf.length]!).length) c180) Tryz.isAgg22 rfl (h183) (⟨H.pick [0, 1, 2, 3, 4, 5, 6, 8, 9, 10] [1, 2, 3, 4, 5, 6, 7, 8, 9, 10, 11, 12, 13, 14, 15, 16, 17, 18, 19, 20], (ro 8 rfl ?_)⟩)
  obtain ⟨u1, u2⟩ := E_bg107.sh.row (c := s.qf.length) (by omega) p8 (by omega)
  have u4 := (by first | exact bn1.jW (by omega) | exact bn2.jW (by omega) | exact bn3.jW (by omega) | exact bn4.jW (by omega) : SmallT ((s.qg[i]!).zq) (counts[i]!))
  have sz184 := H.base.size
  have lt185 := H.ltN (L := [G102, G69]) [2, 5]
  refine oc (plus_ok _ (bg107[s.qf.length]!) ((s.qg[i]!).zq) (counts[i]!) (H.get 0 rfl).1 (H.get 11 rfl).1 (by first | assumption | omega) (by first | assumption | omega) (by first | assumption | omega)) ?_
  rintro v189 w187 r189 x188
  replace H := H.xW x188 r189
  obtain ⟨a190, c191, rfl, hc192, hm193⟩ := H.vN 0 rfl
  refine ⟨H.pick [1, 2, 3, 4, 5, 6, 7, 9, 10, 11] [1, 2, 3, 4, 5, 6, 7, 8, 9, 10, 11, 12, 13, 14, 15, 16, 17, 18, 19, 20], (tI 9 rfl rfl rfl (H.pick [1, 2, 3, 4, 5, 6, 7, 9, 10, 11] [1, 2, 3, 4, 5, 6, 7, 8, 9, 10, 11, 12, 13, 14, 15, 16, 17, 18, 19, 20]) ?_)⟩
  refine ro 10 rfl ?_
  obtain ⟨G195, N, hn196, H⟩ := H.vG 0 rfl N (H.yT [2, 5])
  refine jb false H 8 rfl 2 rfl (.slice a190 ((vk (bg107[s.qf.length]!) ((s.qg[i]!).zq) (counts[i]!)).length) c191) 0 rfl rfl Tryz.sizeOf22 rfl rfl (i := s.qf.length) (by omega) (by omega) (by simp) fun w194 xs197 F198 hs199 H => ⟨H.pick [1, 2, 3, 4, 5, 6, 7, 9, 10, 11] [3, 4, 5, 6, 7, 8, 9, 10, 11, 12, 13, 14, 15, 16, 17, 18, 19, 20, 21, 22], (xy (by kernel_rfl) ((ret0 rfl ⟨_, rfl, ?_⟩)))⟩
  replace H := H.erases [0]
  dsimp only [jf, List.eraseIdx] at H
  obtain ⟨bg200, e_bg200⟩ : ∃ z, z = (bg107.set s.qf.length (vk (bg107[s.qf.length]!) ((s.qg[i]!).zq) (counts[i]!))) := ⟨_, rfl⟩
  rw [← e_bg200] at H
  have E_bg200 := Ent.add (D := 1000000) E_bg107 e_bg200 (by omega) (by first | exact bn1.mul (by omega) | exact bn2.mul (by omega) | exact bn3.mul (by omega) | exact bn4.mul (by omega)) (by omega)
  have z_bg200 := E_bg200.sh.1
  have E_cur := E_bg200
  refine ⟨H.pick [0, 1, 2, 3, 4, 5, 6, 8, 9, 10] [3, 4, 5, 6, 7, 8, 9, 10, 11, 12, 13, 14, 15, 16, 17, 18, 19, 20, 21, 22], (xy (by kernel_rfl) (t_n (zcr (oF rfl (oL rfl (H.cell 1 rfl rfl) (oN rfl (sp (.int .i64 0) (zjn (qM ?_)))))))))⟩
  refine xQ (fun m' ρ w201 => ∃ (junk : Env) (k : Nat) (bags_1 : List (List Int)) (XO : List Value) (F_bags_1 : List Nat), ρ = upd (upd (upd (upd junk 10 (.func (.func 191) #[] #[pp b79 0, pp b83 0])) 40 (.slice Xg (((s.qg[i]!).qI).length) Xe)) 41 (.int .i64 (((s.qg[i]!).qI).length))) 42 (.int .i64 k) ∧ ((k : Int) ≤ (((s.qg[i]!).qI).length)) ∧ (Ent (s.qf.length + 1) (yZ s) (fun p q => base0 s t p q + allS s t counts i p q + at' p (s.qg[i]!).qp.toNat (-(counts[i]!) * ((s.qg[i]!).qV)[q]!) + at' p (s.qg[i]!).qp.toNat ((counts[i]!) * ((s.qg[i]!).xq)[q]!) + at' p (outPl s t (s.qg[i]!)) ((counts[i]!) * ((s.qg[i]!).zq)[q]!) + intoF (s.qg[i]!) (counts[i]!) k p q) (23000000 + 6000000 * i + 1000000 * k) bags_1) ∧ (bags_1.length = s.qf.length + 1) ∧ m' = ((((s.qg[i]!).qI).length) - (k : Int)).toNat ∧ Fresh w.heap.size [G69] ∧ St w w201 [.box b83 [.int .i64 (counts[i]!)] 2, .box b81 [.int .i64 ((s.qg[i]!).qp), .int .i64 ((s.qg[i]!).zg), .slice XY (((s.qg[i]!).qV).length) XT, .slice X0 (((s.qg[i]!).xg).length) XV, .slice XZ (((s.qg[i]!).xm).length) XU, .slice Xh (((s.qg[i]!).xq).length) Xf, .slice XL (((s.qg[i]!).zq).length) XJ, .slice Xg (((s.qg[i]!).qI).length) Xe, .bool ((s.qg[i]!).xO)] 121, .box b79 [.slice (aa b52 0) (t.ql.length + 1) c8] 27, .box b77 [.slice qN t.qh.length qL, .slice xh t.ql.length qZ, .slice qG t.qj.length qF] 38, .box b75 [.int .i64 s.qJ, .slice qo s.qf.length qm, .slice (aa b44 o45) s.qg.length qA] 36, .box b48 [.int .i64 ((s.qg[i]!).qp), .int .i64 ((s.qg[i]!).zg), .slice XY (((s.qg[i]!).qV).length) XT, .slice X0 (((s.qg[i]!).xg).length) XV, .slice XZ (((s.qg[i]!).xm).length) XU, .slice Xh (((s.qg[i]!).xq).length) Xf, .slice XL (((s.qg[i]!).zq).length) XJ, .slice Xg (((s.qg[i]!).qI).length) Xe, .bool ((s.qg[i]!).xO)] 121, rr (aa b36 0) s.qf.length s.qf.length 4 1 ((jH s counts s.qf.length i).map (Value.bool)), rr (aa b52 0) (t.ql.length + 1) c8 22 1 XO, .box b5 [.slice none 0 0, .slice none 0 0, .slice none 0 0] 38, .box b3 [.slice qN t.qh.length qL, .slice xh t.ql.length qZ, .slice qG t.qj.length qF] 38, .box b1 [.int .i64 s.qJ, .slice qo s.qf.length qm, .slice (aa b44 o45) s.qg.length qA] 36] [xN false F_bags_1 XO bags_1, sF true G69 a64 c65 (vk (bags[((s.qg[i]!).qp).toNat]!) ((s.qg[i]!).qV) (-(counts[i]!))), sF false G55 a53 c54 (bags[((s.qg[i]!).qp).toNat]!), sF false Fe47Need XY XT ((s.qg[i]!).qV), sF false Fe47Have X0 XV ((s.qg[i]!).xg), sF false Fe47Lack XZ XU ((s.qg[i]!).xm), sF false Fe47Here Xh Xf ((s.qg[i]!).xq), sF false Fe47Out XL XJ ((s.qg[i]!).zq), sF false Fe47Into Xg Xe ((s.qg[i]!).qI), atF b44 (o45 + (i : Int).toNat * 9) [.int .i64 ((s.qg[i]!).qp), .int .i64 ((s.qg[i]!).zg), .slice XY (((s.qg[i]!).qV).length) XT, .slice X0 (((s.qg[i]!).xg).length) XV, .slice XZ (((s.qg[i]!).xm).length) XU, .slice Xh (((s.qg[i]!).xq).length) Xf, .slice XL (((s.qg[i]!).zq).length) XJ, .slice Xg (((s.qg[i]!).qI).length) Xe, .bool ((s.qg[i]!).xO)], sF false qP qo qm s.qf, sF false xu (aa b44 o45) qA s.qg, sF false xE qN qL t.qh, sF false zf xh qZ t.ql, sF false xw qG qF t.qj, sF false Fcounts (aa b41 o42) ccounts counts]) (((((s.qg[i]!).qI).length) - (0 : Int)).toNat) ⟨_, 0, bg200, xs197, F198, uE4, (by omega), (by exact E_cur.to (fun p q => by rw [po]; simp only [intoF]; first | omega | (simp only [Int.toNat_natCast]; omega)) (by omega)), (by omega), rfl, (N.pick [2]), H.pick [0, 1, 2, 3, 4, 5, 6, 7, 8, 9, 10] [0, 7, 8, 9, 10, 11, 12, 13, 14, 15, 17, 18, 19, 20, 21, 22]⟩ ?_
  clear H N
  rintro m' ρ w202 ⟨junk, k, bags_1, XO, F_bags_1, rfl, i0, E_bags_1, z_bags_1, rfl, N, H⟩
  have hn_bags := H.xP (α := List Int) 7 rfl 0 rfl (by decide)
  refine zcr (sp (.bool (decide ((k : Int) < (((s.qg[i]!).qI).length)))) (zjn (xC (cD rfl (fun h203 => ?_) (fun h203 => ?_)))))
  ·skip
   have qi := q.2.2.2.2.2.2.2.2.2.2 k (by omega)
   have qi1 := qi.1
   have bn4 := qi.2.2.1
   have ln4 := bn4.len
   refine qK (t_n (xC (qM (zcr ?_))))
   obtain ⟨b204, o205, rfl⟩ := H.addr 8 rfl (by omega)
   obtain ⟨ae207Bag, ce207Bag, Fe207Bag, H⟩ := H.jh 8 rfl k k (by omega) (by omega) (by omega)
   refine oI rfl rfl (sw (xU [.int .i64 ((((s.qg[i]!).qI)[k]!).qp), .slice ae207Bag (((((s.qg[i]!).qI)[k]!).vS).length) ce207Bag] Tryz.isAgg164 Tryz.sizeOf164 rfl (qw (H.get 1 rfl) 0 2) (sw (xM H ti164 [.int .i64 0, .slice none 0 0] fun b208 w209 H => sw (zF H 0 [.int .i64 ((((s.qg[i]!).qI)[k]!).qp), .slice ae207Bag (((((s.qg[i]!).qI)[k]!).vS).length) ce207Bag] Tryz.sizeOf164 fun w210 H => zjn (xH (sp (.func (.func 191) #[] #[pp b79 0, pp b83 0]) (oF rfl (oL rfl (H.cell 0 rfl rfl) (oF rfl (oL rfl (H.cell 0 rfl rfl) ?_)))))))))))
   refine sw (zS #[.int .i64 ((((s.qg[i]!).qI)[k]!).qp), .slice ae207Bag (((((s.qg[i]!).qI)[k]!).vS).length) ce207Bag, pp b79 0, pp b83 0] rfl rfl Tryz.call191 (en Tryz.func191 Tryz.ntmps191 ?_))
   refine yO rfl H [0, 1, 2, 3, 4, 5, 6, 7, 9, 10, 11] fun H => ?_
   have S := H.jZ [0, 1, 2, 3, 4, 5, 6, 7, 9, 10, 11] [0, 1, 2, 3, 4, 5, 6, 7, 8, 9, 10, 11, 12, 13, 14, 15, 16, 17]
   refine tL 0 rfl rfl (fun _ h => h.cell 3 rfl rfl) S ?_
   refine rtp 1 (.int .i64 ((((s.qg[i]!).qI)[k]!).qp)) S ?_
   refine tL 2 rfl rfl (fun _ h => h.cell 3 rfl rfl) S ?_
   refine rtp 3 (.int .i64 ((((s.qg[i]!).qI)[k]!).qp)) S ?_
   refine tI 4 rfl rfl rfl S ?_
   refine rtp 6 (.slice ae207Bag (((((s.qg[i]!).qI)[k]!).vS).length) ce207Bag) S ?_
   refine tL 7 rfl rfl (fun _ h => h.cell 1 rfl rfl) S ?_
   refine ro 5 rfl ?_
   obtain ⟨a212, c213, G214, s215, h216, H⟩ := H.jo 8 rfl 2 rfl (iv := (((s.qg[i]!).qI)[k]!).qp) (((((s.qg[i]!).qI)[k]!).qp).toNat) (by omega) (by omega)
   refine zl (.slice a212 ((bags_1[((((s.qg[i]!).qI)[k]!).qp).toNat]!).length) c213) Tryz.isAgg22 rfl (h216) (⟨H.pick [0, 1, 2, 3, 4, 5, 6, 7, 9, 10, 11] [1, 2, 3, 4, 5, 6, 7, 8, 9, 10, 11, 12, 13, 14, 15, 16, 17, 18], (ro 8 rfl ?_)⟩)
   obtain ⟨u1, u2⟩ := E_bags_1.sh.row (c := ((((s.qg[i]!).qI)[k]!).qp).toNat) (by omega) p8 (by omega)
   have u4 := (by first | exact bn1.jW (by omega) | exact bn2.jW (by omega) | exact bn3.jW (by omega) | exact bn4.jW (by omega) : SmallT ((((s.qg[i]!).qI)[k]!).vS) (counts[i]!))
   have sz217 := H.base.size
   have lt218 := H.ltN (L := [G69]) [4]
   refine oc (plus_ok _ (bags_1[((((s.qg[i]!).qI)[k]!).qp).toNat]!) ((((s.qg[i]!).qI)[k]!).vS) (counts[i]!) (H.get 0 rfl).1 (H.get 1 rfl).1 (by first | assumption | omega) (by first | assumption | omega) (by first | assumption | omega)) ?_
   rintro v222 w220 r222 x221
   replace H := H.xW x221 r222
   obtain ⟨a223, c224, rfl, hc225, hm226⟩ := H.vN 0 rfl
   refine ⟨H.pick [1, 2, 3, 4, 5, 6, 7, 8, 10, 11, 12] [1, 2, 3, 4, 5, 6, 7, 8, 9, 10, 11, 12, 13, 14, 15, 16, 17, 18], (tI 9 rfl rfl rfl (H.pick [1, 2, 3, 4, 5, 6, 7, 8, 10, 11, 12] [1, 2, 3, 4, 5, 6, 7, 8, 9, 10, 11, 12, 13, 14, 15, 16, 17, 18]) ?_)⟩
   refine ro 10 rfl ?_
   obtain ⟨G228, N, hn229, H⟩ := H.vG 0 rfl N (H.yT [4])
   refine jb false H 9 rfl 4 rfl (.slice a223 ((vk (bags_1[((((s.qg[i]!).qI)[k]!).qp).toNat]!) ((((s.qg[i]!).qI)[k]!).vS) (counts[i]!)).length) c224) 0 rfl rfl Tryz.sizeOf22 rfl rfl (i := (((((s.qg[i]!).qI)[k]!).qp).toNat)) (by omega) (by omega) (by simp) fun w227 xs230 F231 hs232 H => ⟨H.pick [1, 2, 3, 4, 5, 6, 7, 8, 10, 11, 12] [3, 4, 5, 6, 7, 8, 9, 10, 11, 12, 13, 14, 15, 16, 17, 18, 19, 20], (xy (by kernel_rfl) ((ret0 rfl ⟨_, rfl, ?_⟩)))⟩
   replace H := H.erases [0]
   dsimp only [jf, List.eraseIdx] at H
   obtain ⟨bg233, e_bg233⟩ : ∃ z, z = (bags_1.set (((((s.qg[i]!).qI)[k]!).qp).toNat) (vk (bags_1[((((s.qg[i]!).qI)[k]!).qp).toNat]!) ((((s.qg[i]!).qI)[k]!).vS) (counts[i]!))) := ⟨_, rfl⟩
   rw [← e_bg233] at H
   have E_bg233 := Ent.add (D := 1000000) E_bags_1 e_bg233 (by omega) (by first | exact bn1.mul (by omega) | exact bn2.mul (by omega) | exact bn3.mul (by omega) | exact bn4.mul (by omega)) (by omega)
   have z_bg233 := E_bg233.sh.1
   have E_cur := E_bg233
   refine xG (b_n (t_n (xH (sw (xX k 1 rfl rfl (by omega) (sp (.int .i64 (k + 1)) (xG (qR (m' := ((((s.qg[i]!).qI).length) - ((k + 1) : Int)).toNat) (by omega) ⟨_, k + 1, bg233, xs230, F231, uE4, ?_, ?_, ?_, rfl, (N.pick [1]), H.pick [1, 2, 3, 4, 5, 6, 7, 8, 9, 10, 11] [0, 6, 7, 8, 9, 10, 11, 12, 13, 14, 15, 16, 17, 18, 19, 20]⟩))))))))
   · omega
   · exact E_cur.to (fun p q => by simp only [intoF]; omega) (by omega)
   · omega
  refine c_exit (t_x (t_x (b_x (ret0 rfl ⟨_, rfl, ?_⟩))))
  replace H := H.erases [4, 3, 2, 1, 0]
  dsimp only [jf, List.eraseIdx] at H
  refine zjn ?_
  refine yO rfl H [0, 2, 3, 4, 5] fun H => ?_
  have S := H.jZ [0, 2, 3, 4, 5] [0, 1, 2, 3, 4, 5, 6, 7, 8, 9, 10, 11, 12, 13, 14, 15]
  refine rtp 0 (.slice (aa b36 0) s.qf.length s.qf.length) S ?_
  refine tF 1 rfl rfl S ?_
  refine tL 2 rfl rfl (fun _ h => h.cell 0 rfl rfl) S ?_
  refine rtp 3 (.slice (aa b36 0) s.qf.length s.qf.length) S ?_
  refine tF 4 rfl rfl S ?_
  refine tL 5 rfl rfl (fun _ h => h.cell 0 rfl rfl) S ?_
  refine tI 6 rfl rfl rfl S ?_
  refine ro 7 rfl (zl (.bool ((jH s counts s.qf.length i)[((s.qg[i]!).qp).toNat]!)) Tryz.isAgg4 rfl (H.rowBool 1 rfl (iv := (s.qg[i]!).qp) (i := (((s.qg[i]!).qp).toNat)) (by omega) (by omega)) (⟨H.pick [0, 2, 3, 4, 5] [0, 1, 2, 3, 4, 5, 6, 7, 8, 9, 10, 11, 12, 13, 14, 15], (rtp 8 (.bool ((jH s counts s.qf.length i)[((s.qg[i]!).qp).toNat]!)) (H.pick [0, 2, 3, 4, 5] [0, 1, 2, 3, 4, 5, 6, 7, 8, 9, 10, 11, 12, 13, 14, 15]) ?_)⟩))
  cases h235 : ((jH s counts s.qf.length i)[((s.qg[i]!).qp).toNat]!)
  ·skip
   have S := H.jZ [0, 2, 3, 4, 5] [0, 1, 2, 3, 4, 5, 6, 7, 8, 9, 10, 11, 12, 13, 14, 15]
   refine rgp 9 (.int .i64 (counts[i]!)) 66 S ?_
   refine rgp 10 (.bool (decide ((counts[i]! : Int) > 0))) 66 S ?_
   refine rgp 11 (.bool (decide ((counts[i]! : Int) > 0))) 66 S ?_
   cases h236 : (decide ((counts[i]! : Int) > 0))
   ·skip
    replace h236 := of_decide_eq_false h236
    refine zo [12, 13] 2 (H.pick [0, 2, 3, 4, 5] [0, 1, 2, 3, 4, 5, 6, 7, 8, 9, 10, 11, 12, 13, 14, 15]) ?_
    have S := H.jZ [0, 2, 3, 4, 5] [0, 1, 2, 3, 4, 5, 6, 7, 8, 9, 10, 11, 12, 13, 14, 15]
    refine rgp 14 (.bool false) 66 S ?_
    refine rtp 15 (.bool false) S ?_
    refine tI 16 rfl rfl rfl S ?_
    refine ro 17 rfl (Qw H 1 rfl false Tryz.sizeOf4 rfl rfl (i := (((s.qg[i]!).qp).toNat)) (by omega) (by omega) fun w237 H => ⟨H.pick [0, 2, 3, 4, 5] [0, 1, 2, 3, 4, 5, 6, 7, 8, 9, 10, 11, 12, 13, 14, 15], (xy (by kernel_rfl) (b_n (t_n (xH (sw (xX i 1 rfl rfl (by omega) (sp (.int .i64 (i + 1)) (xG (qR (m' := (counts.length - ((i + 1) : Int)).toNat) (by omega) ⟨_, i + 1, ((jH s counts s.qf.length i).set (((s.qg[i]!).qp).toNat) false), bags_1, XO, F_bags_1, uE8, ?_, ?_, ?_, ?_, rfl, (N.pick []), H.pick [1, 2, 3, 4, 5] [0, 10, 11, 12, 13, 14, 15]⟩)))))))))⟩)
    · first | exact meltsL_1 (by omega) (by omega) ‹_› | exact meltsL_2 (by omega) (by omega) ‹_› (by omega) | exact meltsL_3 (by omega) (by omega) ‹_› (by omega)
    · omega
    · exact E_bags_1.to (fun p q => by rw [show k = ((s.qg[i]!).qI).length by omega]; simp only [allS, needF, putF]; omega) (by omega)
    · omega
   replace h236 := of_decide_eq_true h236
   have S := H.jZ [0, 2, 3, 4, 5] [0, 1, 2, 3, 4, 5, 6, 7, 8, 9, 10, 11, 12, 13, 14, 15]
   refine gF 12 rfl rfl S ?_
   refine gL 13 rfl rfl (fun _ h => h.cell 0 rfl rfl) S ?_
   refine rgp 14 (.bool ((s.qg[i]!).xO)) 66 S ?_
   refine rtp 15 (.bool ((s.qg[i]!).xO)) S ?_
   refine tI 16 rfl rfl rfl S ?_
   refine ro 17 rfl (Qw H 1 rfl ((s.qg[i]!).xO) Tryz.sizeOf4 rfl rfl (i := (((s.qg[i]!).qp).toNat)) (by omega) (by omega) fun w238 H => ⟨H.pick [0, 2, 3, 4, 5] [0, 1, 2, 3, 4, 5, 6, 7, 8, 9, 10, 11, 12, 13, 14, 15], (xy (by kernel_rfl) (b_n (t_n (xH (sw (xX i 1 rfl rfl (by omega) (sp (.int .i64 (i + 1)) (xG (qR (m' := (counts.length - ((i + 1) : Int)).toNat) (by omega) ⟨_, i + 1, ((jH s counts s.qf.length i).set (((s.qg[i]!).qp).toNat) ((s.qg[i]!).xO)), bags_1, XO, F_bags_1, uE8, ?_, ?_, ?_, ?_, rfl, (N.pick []), H.pick [1, 2, 3, 4, 5] [0, 10, 11, 12, 13, 14, 15]⟩)))))))))⟩)
   · first | exact meltsL_1 (by omega) (by omega) ‹_› | exact meltsL_2 (by omega) (by omega) ‹_› (by omega) | exact meltsL_3 (by omega) (by omega) ‹_› (by omega)
   · omega
   · exact E_bags_1.to (fun p q => by rw [show k = ((s.qg[i]!).qI).length by omega]; simp only [allS, needF, putF]; omega) (by omega)
   · omega
  refine zo [9, 10, 11, 12, 13, 14] 6 (H.pick [0, 2, 3, 4, 5] [0, 1, 2, 3, 4, 5, 6, 7, 8, 9, 10, 11, 12, 13, 14, 15]) ?_
  have S := H.jZ [0, 2, 3, 4, 5] [0, 1, 2, 3, 4, 5, 6, 7, 8, 9, 10, 11, 12, 13, 14, 15]
  refine rtp 15 (.bool true) S ?_
  refine tI 16 rfl rfl rfl S ?_
  refine ro 17 rfl (Qw H 1 rfl true Tryz.sizeOf4 rfl rfl (i := (((s.qg[i]!).qp).toNat)) (by omega) (by omega) fun w239 H => ⟨H.pick [0, 2, 3, 4, 5] [0, 1, 2, 3, 4, 5, 6, 7, 8, 9, 10, 11, 12, 13, 14, 15], (xy (by kernel_rfl) (b_n (t_n (xH (sw (xX i 1 rfl rfl (by omega) (sp (.int .i64 (i + 1)) (xG (qR (m' := (counts.length - ((i + 1) : Int)).toNat) (by omega) ⟨_, i + 1, ((jH s counts s.qf.length i).set (((s.qg[i]!).qp).toNat) true), bags_1, XO, F_bags_1, uE8, ?_, ?_, ?_, ?_, rfl, (N.pick []), H.pick [1, 2, 3, 4, 5] [0, 10, 11, 12, 13, 14, 15]⟩)))))))))⟩)
  · first | exact meltsL_1 (by omega) (by omega) ‹_› | exact meltsL_2 (by omega) (by omega) ‹_› (by omega) | exact meltsL_3 (by omega) (by omega) ‹_› (by omega)
  · omega
  · exact E_bags_1.to (fun p q => by rw [show k = ((s.qg[i]!).qI).length by omega]; simp only [allS, needF, putF]; omega) (by omega)
  · omega
 refine zx4 (xC ?_)
 obtain ⟨b240, rfl⟩ := H.Qn 1 rfl (by omega)
 refine c_cut (fun ρ w250 => ∃ (junk : Env) (b241 : Nat) (ra242 : Option Addr) (rc243 : Nat) (ra244 : Option Addr) (rc245 : Nat) (ra246 : Option Addr) (rc247 : Nat) (rx248 : List Value) (rF249 : List Nat), ρ = upd (upd (upd (upd junk 3 (pp b1 0)) 6 (pp b5 0)) 9 (.slice (aa b36 0) s.qf.length s.qf.length)) 13 (pp b241 0) ∧ Fresh w.heap.size [rF249] ∧ St w w250 [.box b241 [.slice ra242 (((⟨t.qh, (bags.take s.qf.length), bags[s.qf.length]!⟩ : qE).qh).length) rc243, .slice ra244 (((⟨t.qh, (bags.take s.qf.length), bags[s.qf.length]!⟩ : qE).ql).length) rc245, .slice ra246 (((⟨t.qh, (bags.take s.qf.length), bags[s.qf.length]!⟩ : qE).qj).length) rc247] 38, rr ra242 (((⟨t.qh, (bags.take s.qf.length), bags[s.qf.length]!⟩ : qE).qh).length) rc243 4 1 (((⟨t.qh, (bags.take s.qf.length), bags[s.qf.length]!⟩ : qE).qh).map (Value.bool)), rr ra244 (((⟨t.qh, (bags.take s.qf.length), bags[s.qf.length]!⟩ : qE).ql).length) rc245 22 1 rx248, rr ra246 (((⟨t.qh, (bags.take s.qf.length), bags[s.qf.length]!⟩ : qE).qj).length) rc247 2 1 (((⟨t.qh, (bags.take s.qf.length), bags[s.qf.length]!⟩ : qE).qj).map (Value.int .i64)), rr (aa b36 0) s.qf.length s.qf.length 4 1 ((jH s counts s.qf.length i).map (Value.bool)), rr none 0 0 0 1 [], .box b5 [.slice none 0 0, .slice none 0 0, .slice none 0 0] 38, .box b3 [.slice qN t.qh.length qL, .slice xh t.ql.length qZ, .slice qG t.qj.length qF] 38, .box b1 [.int .i64 s.qJ, .slice qo s.qf.length qm, .slice qC s.qg.length qA] 36] [xN true rF249 rx248 ((⟨t.qh, (bags.take s.qf.length), bags[s.qf.length]!⟩ : qE).ql), sF false qP qo qm s.qf, sF false xu qC qA s.qg, sF false xE qN qL t.qh, sF false zf xh qZ t.ql, sF false xw qG qF t.qj]) ?_ ?_
 ·skip
  refine yO rfl H [0, 2, 3, 4] fun H => ?_
  refine r_have (fun ρ w258 => ∃ (junk : Env) (a252 : Option Addr) (c253 : Nat) (a254 : Option Addr) (G255 : List Nat) (G256 : List Nat), ρ = upd (upd (upd (upd (upd (upd junk 3 (pp b1 0)) 6 (pp b5 0)) 9 (.slice (aa b36 0) s.qf.length s.qf.length)) 77 (.slice qN t.qh.length qL)) 81 (.slice a254 ((bags.take s.qf.length).length) c8)) 86 (.slice a252 ((bags[s.qf.length]!).length) c253) ∧ Fresh w.heap.size [] ∧ St w w258 [rr (aa b36 0) s.qf.length s.qf.length 4 1 ((jH s counts s.qf.length i).map (Value.bool)), rr none 0 0 0 1 [], .box b5 [.slice none 0 0, .slice none 0 0, .slice none 0 0] 38, .box b3 [.slice qN t.qh.length qL, .slice xh t.ql.length qZ, .slice qG t.qj.length qF] 38, .box b1 [.int .i64 s.qJ, .slice qo s.qf.length qm, .slice qC s.qg.length qA] 36] [sF false G255 a254 c8 (bags.take s.qf.length), sF false G256 a252 c253 (bags[s.qf.length]!), xN false F_bags x_bags bags, sF false qP qo qm s.qf, sF false xu qC qA s.qg, sF false xE qN qL t.qh, sF false zf xh qZ t.ql, sF false xw qG qF t.qj, sF false Fcounts acounts ccounts counts]) 4 #[true, true, true, true, true, true, true, true, true, true, true, false, false, false, false] ?_ fun L257 => ?_
  ·skip
   rintro ρ w259 ⟨junk, a252, c253, a254, G255, G256, rfl, N, H⟩
   refine vT [11, 13] (by kernel_rfl) (by simp) (yx rfl ?_ (yx rfl ?_ vU))
   ·skip
    refine jD [.slice qN t.qh.length qL, .slice a254 ((bags.take s.qf.length).length) c8, .slice a252 ((bags[s.qf.length]!).length) c253] [(0, .slice qN t.qh.length qL), (1, .slice a254 ((bags.take s.qf.length).length) c8), (2, .slice a252 ((bags[s.qf.length]!).length) c253)] (⟨H.pick [0, 2, 3, 4] [2, 3, 4, 5, 6, 7, 8], (vT [12, 13] (by kernel_rfl) (by simp) (yx rfl ?_ (yx rfl ?_ vU)))⟩)
    ·skip
     obtain ⟨cp0, cp1, cp2, cp3⟩ := copy_pre (al := t.qh) E_bags p8 p9.2 p12
     have sz263 := H.base.size
     refine oc (copied_ok _ (⟨t.qh, (bags.take s.qf.length), bags[s.qf.length]!⟩ : qE) (H.get 5 rfl).1 (H.get 0 rfl).1 (H.get 1 rfl).1 (by first | assumption | omega) (by first | assumption | omega) (by first | assumption | omega) (by first | assumption | omega)) ?_
     rintro _ w261 ⟨ra260Alive, rn260Alive, rc260Alive, ra260Bags, rn260Bags, rc260Bags, rx260Bags, rF260Bags, ra260Around, rn260Around, rc260Around, rfl, M, K⟩ _
     replace N := N.merge sz263 (by simp) M
     replace H := H.merge K M
     obtain rfl := H.rowNB 0 rfl
     obtain rfl := H.xP (α := List Int) 1 rfl 0 rfl (by decide)
     obtain rfl := H.rowNI 2 rfl
     refine ⟨H.pick [3, 5, 6, 7] [3, 4, 5, 6, 7, 8, 9], (ro 13 rfl (xM H ti38 [.slice none 0 0, .slice none 0 0, .slice none 0 0] fun b268 w269 H => ⟨H.pick [4, 6, 7, 8] [3, 4, 5, 6, 7, 8, 9], (ro 14 rfl (zF H 0 [.slice ra260Alive (((⟨t.qh, (bags.take s.qf.length), bags[s.qf.length]!⟩ : qE).qh).length) rc260Alive, .slice ra260Bags (((⟨t.qh, (bags.take s.qf.length), bags[s.qf.length]!⟩ : qE).ql).length) rc260Bags, .slice ra260Around (((⟨t.qh, (bags.take s.qf.length), bags[s.qf.length]!⟩ : qE).qj).length) rc260Around] Tryz.sizeOf38 fun w270 H => ⟨H.pick [4, 6, 7, 8] [3, 4, 5, 6, 7, 8, 9], ?_⟩))⟩))⟩
     refine xy (by kernel_rfl) ((meet ⟨_, b268, ra260Alive, rc260Alive, ra260Bags, rc260Bags, ra260Around, rc260Around, rx260Bags, rF260Bags, uE4, N, H.pick [0, 1, 2, 3, 4, 5, 6, 7, 8] [0, 4, 5, 6, 7, 8]⟩))
    refine xM H ti38 [.slice none 0 0, .slice none 0 0, .slice none 0 0] fun b271 w272 H => ⟨H.pick [1, 3, 4, 5] [2, 3, 4, 5, 6, 7, 8], (ro 12 rfl ?_)⟩
    obtain ⟨cp0, cp1, cp2, cp3⟩ := copy_pre (al := t.qh) E_bags p8 p9.2 p12
    have sz276 := H.base.size
    refine oc (copied_ok _ (⟨t.qh, (bags.take s.qf.length), bags[s.qf.length]!⟩ : qE) (H.get 5 rfl).1 (H.get 0 rfl).1 (H.get 1 rfl).1 (by first | assumption | omega) (by first | assumption | omega) (by first | assumption | omega) (by first | assumption | omega)) ?_
    rintro _ w274 ⟨ra273Alive, rn273Alive, rc273Alive, ra273Bags, rn273Bags, rc273Bags, rx273Bags, rF273Bags, ra273Around, rn273Around, rc273Around, rfl, M, K⟩ _
    replace N := N.merge sz276 (by simp) M
    replace H := H.merge K M
    obtain rfl := H.rowNB 0 rfl
    obtain rfl := H.xP (α := List Int) 1 rfl 0 rfl (by decide)
    obtain rfl := H.rowNI 2 rfl
    refine ⟨H.pick [4, 6, 7, 8] [3, 4, 5, 6, 7, 8, 9], (ro 14 rfl (zF H 3 [.slice ra273Alive (((⟨t.qh, (bags.take s.qf.length), bags[s.qf.length]!⟩ : qE).qh).length) rc273Alive, .slice ra273Bags (((⟨t.qh, (bags.take s.qf.length), bags[s.qf.length]!⟩ : qE).ql).length) rc273Bags, .slice ra273Around (((⟨t.qh, (bags.take s.qf.length), bags[s.qf.length]!⟩ : qE).qj).length) rc273Around] Tryz.sizeOf38 fun w281 H => ⟨H.pick [4, 6, 7, 8] [3, 4, 5, 6, 7, 8, 9], (xy (by kernel_rfl) (?_))⟩))⟩
    exact meet ⟨_, b271, ra273Alive, rc273Alive, ra273Bags, rc273Bags, ra273Around, rc273Around, rx273Bags, rF273Bags, uE4, N, H.pick [3, 0, 1, 2, 4, 5, 6, 7, 8] [0, 4, 5, 6, 7, 8]⟩
   refine xM H ti38 [.slice none 0 0, .slice none 0 0, .slice none 0 0] fun b282 w283 H => ⟨H.pick [1, 3, 4, 5] [2, 3, 4, 5, 6, 7, 8], (ro 11 rfl (jD [.slice qN t.qh.length qL, .slice a254 ((bags.take s.qf.length).length) c8, .slice a252 ((bags[s.qf.length]!).length) c253] [(0, .slice qN t.qh.length qL), (1, .slice a254 ((bags.take s.qf.length).length) c8), (2, .slice a252 ((bags[s.qf.length]!).length) c253)] (⟨H.pick [1, 3, 4, 5] [2, 3, 4, 5, 6, 7, 8], (ro 12 rfl ?_)⟩)))⟩
   obtain ⟨cp0, cp1, cp2, cp3⟩ := copy_pre (al := t.qh) E_bags p8 p9.2 p12
   have sz287 := H.base.size
   refine oc (copied_ok _ (⟨t.qh, (bags.take s.qf.length), bags[s.qf.length]!⟩ : qE) (H.get 5 rfl).1 (H.get 0 rfl).1 (H.get 1 rfl).1 (by first | assumption | omega) (by first | assumption | omega) (by first | assumption | omega) (by first | assumption | omega)) ?_
   rintro _ w285 ⟨ra284Alive, rn284Alive, rc284Alive, ra284Bags, rn284Bags, rc284Bags, rx284Bags, rF284Bags, ra284Around, rn284Around, rc284Around, rfl, M, K⟩ _
   replace N := N.merge sz287 (by simp) M
   replace H := H.merge K M
   obtain rfl := H.rowNB 0 rfl
   obtain rfl := H.xP (α := List Int) 1 rfl 0 rfl (by decide)
   obtain rfl := H.rowNI 2 rfl
   refine ⟨H.pick [4, 6, 7, 8] [3, 4, 5, 6, 7, 8, 9], (ro 14 rfl (zF H 3 [.slice ra284Alive (((⟨t.qh, (bags.take s.qf.length), bags[s.qf.length]!⟩ : qE).qh).length) rc284Alive, .slice ra284Bags (((⟨t.qh, (bags.take s.qf.length), bags[s.qf.length]!⟩ : qE).ql).length) rc284Bags, .slice ra284Around (((⟨t.qh, (bags.take s.qf.length), bags[s.qf.length]!⟩ : qE).qj).length) rc284Around] Tryz.sizeOf38 fun w292 H => ⟨H.pick [4, 6, 7, 8] [3, 4, 5, 6, 7, 8, 9], (xy (by kernel_rfl) (?_))⟩))⟩
   exact meet ⟨_, b282, ra284Alive, rc284Alive, ra284Bags, rc284Bags, ra284Around, rc284Around, rx284Bags, rF284Bags, uE4, N, H.pick [3, 0, 1, 2, 4, 5, 6, 7, 8] [0, 4, 5, 6, 7, 8]⟩
  refine r_have (fun ρ w297 => ∃ (junk : Env) (a293 : Option Addr) (G294 : List Nat) (G295 : List Nat), ρ = upd (upd (upd (upd (upd (upd junk 3 (pp b1 0)) 6 (pp b5 0)) 9 (.slice (aa b36 0) s.qf.length s.qf.length)) 77 (.slice qN t.qh.length qL)) 81 (.slice a293 ((bags.take s.qf.length).length) c8)) 85 (pp b240 (0 + (s.qf.length : Int).toNat * 1)) ∧ Fresh w.heap.size [] ∧ St w w297 [rr (aa b36 0) s.qf.length s.qf.length 4 1 ((jH s counts s.qf.length i).map (Value.bool)), rr none 0 0 0 1 [], .box b5 [.slice none 0 0, .slice none 0 0, .slice none 0 0] 38, .box b3 [.slice qN t.qh.length qL, .slice xh t.ql.length qZ, .slice qG t.qj.length qF] 38, .box b1 [.int .i64 s.qJ, .slice qo s.qf.length qm, .slice qC s.qg.length qA] 36] [sF false G294 a293 c8 (bags.take s.qf.length), isF false G295 (.slice (aa b240 0) (t.ql.length + 1) c8) bags, xN false F_bags x_bags bags, sF false qP qo qm s.qf, sF false xu qC qA s.qg, sF false xE qN qL t.qh, sF false zf xh qZ t.ql, sF false xw qG qF t.qj, sF false Fcounts acounts ccounts counts]) 5 #[true, true, true, true, true, true, true, true, true, true, false, false, false, false, false] ?_ fun L296 => ?_
  ·skip
   rintro ρ w298 ⟨junk, a293, G294, G295, rfl, N, H⟩
   refine vT [10, 13] (by kernel_rfl) (by simp) (yx rfl ?_ (yx rfl ?_ vU))
   ·skip
    have hl299 := H.isLen 1 rfl
    obtain ⟨ae300, ce300, Fe300, H⟩ := H.zU 1 rfl s.qf.length s.qf.length (by omega) (by omega) (by omega)
    refine zl (.slice ae300 ((bags[s.qf.length]!).length) ce300) Tryz.isAgg22 rfl (H.xB 1 rfl 0 rfl) (⟨H.pick [0, 2, 3, 4] [4, 5, 6, 7, 8, 9, 10], (Xl L257 ⟨_, ae300, ce300, a293, G294, Fe300, uE6, N, H.pick [0, 1, 2, 3, 4] [2, 0, 4, 5, 6, 7, 8, 9, 10]⟩)⟩)
   refine xM H ti38 [.slice none 0 0, .slice none 0 0, .slice none 0 0] fun b301 w302 H => ⟨H.pick [1, 3, 4, 5] [2, 3, 4, 5, 6, 7, 8], (ro 10 rfl ?_)⟩
   have hl303 := H.isLen 1 rfl
   obtain ⟨ae304, ce304, Fe304, H⟩ := H.zU 1 rfl s.qf.length s.qf.length (by omega) (by omega) (by omega)
   refine zl (.slice ae304 ((bags[s.qf.length]!).length) ce304) Tryz.isAgg22 rfl (H.xB 1 rfl 0 rfl) (⟨H.pick [1, 3, 4, 5] [4, 5, 6, 7, 8, 9, 10], (ro 11 rfl (jD [.slice qN t.qh.length qL, .slice a293 ((bags.take s.qf.length).length) c8, .slice ae304 ((bags[s.qf.length]!).length) ce304] [(0, .slice qN t.qh.length qL), (1, .slice a293 ((bags.take s.qf.length).length) c8), (2, .slice ae304 ((bags[s.qf.length]!).length) ce304)] (⟨H.pick [1, 3, 4, 5] [4, 5, 6, 7, 8, 9, 10], (ro 12 rfl ?_)⟩)))⟩)
   obtain ⟨cp0, cp1, cp2, cp3⟩ := copy_pre (al := t.qh) E_bags p8 p9.2 p12
   have sz308 := H.base.size
   refine oc (copied_ok _ (⟨t.qh, (bags.take s.qf.length), bags[s.qf.length]!⟩ : qE) (H.get 7 rfl).1 (H.get 2 rfl).1 (H.get 0 rfl).1 (by first | assumption | omega) (by first | assumption | omega) (by first | assumption | omega) (by first | assumption | omega)) ?_
   rintro _ w306 ⟨ra305Alive, rn305Alive, rc305Alive, ra305Bags, rn305Bags, rc305Bags, rx305Bags, rF305Bags, ra305Around, rn305Around, rc305Around, rfl, M, K⟩ _
   replace N := N.merge sz308 (by simp) M
   replace H := H.merge K M
   obtain rfl := H.rowNB 0 rfl
   obtain rfl := H.xP (α := List Int) 1 rfl 0 rfl (by decide)
   obtain rfl := H.rowNI 2 rfl
   refine ⟨H.pick [4, 6, 7, 8] [5, 6, 7, 8, 9, 10, 11], (ro 14 rfl (zF H 3 [.slice ra305Alive (((⟨t.qh, (bags.take s.qf.length), bags[s.qf.length]!⟩ : qE).qh).length) rc305Alive, .slice ra305Bags (((⟨t.qh, (bags.take s.qf.length), bags[s.qf.length]!⟩ : qE).ql).length) rc305Bags, .slice ra305Around (((⟨t.qh, (bags.take s.qf.length), bags[s.qf.length]!⟩ : qE).qj).length) rc305Around] Tryz.sizeOf38 fun w313 H => ⟨H.pick [4, 6, 7, 8] [5, 6, 7, 8, 9, 10, 11], (xy (by kernel_rfl) (?_))⟩))⟩
   exact meet ⟨_, b301, ra305Alive, rc305Alive, ra305Bags, rc305Bags, ra305Around, rc305Around, rx305Bags, rF305Bags, uE4, N, H.pick [3, 0, 1, 2, 4, 5, 6, 7, 8] [0, 6, 7, 8, 9, 10]⟩
  refine r_have (fun ρ w316 => ∃ (junk : Env) (b314 : Nat), ρ = upd (upd (upd (upd (upd (upd (upd (upd junk 3 (pp b1 0)) 6 (pp b5 0)) 9 (.slice (aa b36 0) s.qf.length s.qf.length)) 13 (pp b314 0)) 77 (.slice qN t.qh.length qL)) 78 (.slice (aa b240 0) (t.ql.length + 1) c8)) 80 (.int .i64 s.qf.length)) 85 (pp b240 (0 + (s.qf.length : Int).toNat * 1)) ∧ Fresh w.heap.size [] ∧ St w w316 [.box b314 [.slice none 0 0, .slice none 0 0, .slice none 0 0] 38, rr (aa b36 0) s.qf.length s.qf.length 4 1 ((jH s counts s.qf.length i).map (Value.bool)), rr (aa b240 0) (t.ql.length + 1) c8 22 1 x_bags, .box b5 [.slice none 0 0, .slice none 0 0, .slice none 0 0] 38, .box b3 [.slice qN t.qh.length qL, .slice xh t.ql.length qZ, .slice qG t.qj.length qF] 38, .box b1 [.int .i64 s.qJ, .slice qo s.qf.length qm, .slice qC s.qg.length qA] 36] [xN false F_bags x_bags bags, sF false qP qo qm s.qf, sF false xu qC qA s.qg, sF false xE qN qL t.qh, sF false zf xh qZ t.ql, sF false xw qG qF t.qj, sF false Fcounts acounts ccounts counts]) 5 #[true, true, true, true, true, false, true, true, true, true, false, false, false, true, false] ?_ fun L315 => ?_
  ·skip
   rintro ρ w317 ⟨junk, b314, rfl, N, H⟩
   refine vT [5, 10] (by kernel_rfl) (by simp) (yx rfl ?_ (yx rfl ?_ vU))
   ·skip
    obtain ⟨G318, hg320, hn319, H⟩ := H.VU (α := List Int) 2 rfl 0 rfl (by decide)
    have hl325 := H.isLen 0 rfl
    refine o_head H 0 rfl s.qf.length Tryz.underlying27 ti22 rfl rfl (by omega) (by omega) fun a321 G322 hG323 H => ?_
    have hl324 : (bags.take s.qf.length).length = s.qf.length := List.length_take_of_le (by omega)
    refine ⟨H.pick [1, 3, 4, 5] [2, 3, 4, 5, 6, 7, 8], (ro 10 rfl ?_)⟩
    have hl326 := H.isLen 1 rfl
    obtain ⟨ae327, ce327, Fe327, H⟩ := H.zU 1 rfl s.qf.length s.qf.length (by omega) (by omega) (by omega)
    refine zl (.slice ae327 ((bags[s.qf.length]!).length) ce327) Tryz.isAgg22 rfl (H.xB 1 rfl 0 rfl) (⟨H.pick [1, 3, 4, 5] [4, 5, 6, 7, 8, 9, 10], (ro 11 rfl (jD [.slice qN t.qh.length qL, .slice a321 ((bags.take s.qf.length).length) c8, .slice ae327 ((bags[s.qf.length]!).length) ce327] [(0, .slice qN t.qh.length qL), (1, .slice a321 ((bags.take s.qf.length).length) c8), (2, .slice ae327 ((bags[s.qf.length]!).length) ce327)] (⟨H.pick [1, 3, 4, 5] [4, 5, 6, 7, 8, 9, 10], (ro 12 rfl ?_)⟩)))⟩)
    obtain ⟨cp0, cp1, cp2, cp3⟩ := copy_pre (al := t.qh) E_bags p8 p9.2 p12
    have sz331 := H.base.size
    refine oc (copied_ok _ (⟨t.qh, (bags.take s.qf.length), bags[s.qf.length]!⟩ : qE) (H.get 7 rfl).1 (H.get 2 rfl).1 (H.get 0 rfl).1 (by first | assumption | omega) (by first | assumption | omega) (by first | assumption | omega) (by first | assumption | omega)) ?_
    rintro _ w329 ⟨ra328Alive, rn328Alive, rc328Alive, ra328Bags, rn328Bags, rc328Bags, rx328Bags, rF328Bags, ra328Around, rn328Around, rc328Around, rfl, M, K⟩ _
    replace N := N.merge sz331 (by simp) M
    replace H := H.merge K M
    obtain rfl := H.rowNB 0 rfl
    obtain rfl := H.xP (α := List Int) 1 rfl 0 rfl (by decide)
    obtain rfl := H.rowNI 2 rfl
    refine ⟨H.pick [4, 6, 7, 8] [5, 6, 7, 8, 9, 10, 11], (ro 14 rfl (zF H 3 [.slice ra328Alive (((⟨t.qh, (bags.take s.qf.length), bags[s.qf.length]!⟩ : qE).qh).length) rc328Alive, .slice ra328Bags (((⟨t.qh, (bags.take s.qf.length), bags[s.qf.length]!⟩ : qE).ql).length) rc328Bags, .slice ra328Around (((⟨t.qh, (bags.take s.qf.length), bags[s.qf.length]!⟩ : qE).qj).length) rc328Around] Tryz.sizeOf38 fun w336 H => ⟨H.pick [4, 6, 7, 8] [5, 6, 7, 8, 9, 10, 11], (xy (by kernel_rfl) (?_))⟩))⟩
    exact meet ⟨_, b314, ra328Alive, rc328Alive, ra328Bags, rc328Bags, ra328Around, rc328Around, rx328Bags, rF328Bags, uE4, N, H.pick [3, 0, 1, 2, 4, 5, 6, 7, 8] [0, 6, 7, 8, 9, 10]⟩
   obtain ⟨a337, c338, G339, s340, h341, H⟩ := H.jo 2 rfl 0 rfl (iv := s.qf.length) s.qf.length (by omega) (by omega)
   refine zl (.slice a337 ((bags[s.qf.length]!).length) c338) Tryz.isAgg22 rfl (h341) (⟨H.pick [1, 3, 4, 5] [1, 2, 3, 4, 5, 6, 7], (ro 5 rfl ?_)⟩)
   obtain ⟨G342, hg344, hn343, H⟩ := H.VU (α := List Int) 2 rfl 1 rfl (by decide)
   have hl349 := H.isLen 0 rfl
   refine o_head H 0 rfl s.qf.length Tryz.underlying27 ti22 rfl rfl (by omega) (by omega) fun a345 G346 hG347 H => ?_
   have hl348 : (bags.take s.qf.length).length = s.qf.length := List.length_take_of_le (by omega)
   refine ⟨H.pick [1, 3, 4, 5] [3, 4, 5, 6, 7, 8, 9], (ro 11 rfl (jD [.slice qN t.qh.length qL, .slice a345 ((bags.take s.qf.length).length) c8, .slice a337 ((bags[s.qf.length]!).length) c338] [(0, .slice qN t.qh.length qL), (1, .slice a345 ((bags.take s.qf.length).length) c8), (2, .slice a337 ((bags[s.qf.length]!).length) c338)] (⟨H.pick [1, 3, 4, 5] [3, 4, 5, 6, 7, 8, 9], (ro 12 rfl ?_)⟩)))⟩
   obtain ⟨cp0, cp1, cp2, cp3⟩ := copy_pre (al := t.qh) E_bags p8 p9.2 p12
   have sz353 := H.base.size
   refine oc (copied_ok _ (⟨t.qh, (bags.take s.qf.length), bags[s.qf.length]!⟩ : qE) (H.get 6 rfl).1 (H.get 0 rfl).1 (H.get 2 rfl).1 (by first | assumption | omega) (by first | assumption | omega) (by first | assumption | omega) (by first | assumption | omega)) ?_
   rintro _ w351 ⟨ra350Alive, rn350Alive, rc350Alive, ra350Bags, rn350Bags, rc350Bags, rx350Bags, rF350Bags, ra350Around, rn350Around, rc350Around, rfl, M, K⟩ _
   replace N := N.merge sz353 (by simp) M
   replace H := H.merge K M
   obtain rfl := H.rowNB 0 rfl
   obtain rfl := H.xP (α := List Int) 1 rfl 0 rfl (by decide)
   obtain rfl := H.rowNI 2 rfl
   refine ⟨H.pick [4, 6, 7, 8] [4, 5, 6, 7, 8, 9, 10], (ro 14 rfl (zF H 3 [.slice ra350Alive (((⟨t.qh, (bags.take s.qf.length), bags[s.qf.length]!⟩ : qE).qh).length) rc350Alive, .slice ra350Bags (((⟨t.qh, (bags.take s.qf.length), bags[s.qf.length]!⟩ : qE).ql).length) rc350Bags, .slice ra350Around (((⟨t.qh, (bags.take s.qf.length), bags[s.qf.length]!⟩ : qE).qj).length) rc350Around] Tryz.sizeOf38 fun w358 H => ⟨H.pick [4, 6, 7, 8] [4, 5, 6, 7, 8, 9, 10], (xy (by kernel_rfl) (?_))⟩))⟩
   exact meet ⟨_, b314, ra350Alive, rc350Alive, ra350Bags, rc350Bags, ra350Around, rc350Around, rx350Bags, rF350Bags, uE4, N, H.pick [3, 0, 1, 2, 4, 5, 6, 7, 8] [0, 5, 6, 7, 8, 9]⟩
  refine r_have (fun ρ w361 => ∃ (junk : Env) (b359 : Nat), ρ = upd (upd (upd (upd (upd (upd (upd (upd (upd junk 3 (pp b1 0)) 6 (pp b5 0)) 9 (.slice (aa b36 0) s.qf.length s.qf.length)) 13 (pp b359 0)) 77 (.slice qN t.qh.length qL)) 78 (.slice (aa b240 0) (t.ql.length + 1) c8)) 80 (.int .i64 s.qf.length)) 82 (.slice (aa b240 0) (t.ql.length + 1) c8)) 83 (.agg #[.int .i64 s.qJ, .slice qo s.qf.length qm, .slice qC s.qg.length qA]) ∧ Fresh w.heap.size [] ∧ St w w361 [.box b359 [.slice none 0 0, .slice none 0 0, .slice none 0 0] 38, rr (aa b36 0) s.qf.length s.qf.length 4 1 ((jH s counts s.qf.length i).map (Value.bool)), rr (aa b240 0) (t.ql.length + 1) c8 22 1 x_bags, .box b5 [.slice none 0 0, .slice none 0 0, .slice none 0 0] 38, .box b3 [.slice qN t.qh.length qL, .slice xh t.ql.length qZ, .slice qG t.qj.length qF] 38, .box b1 [.int .i64 s.qJ, .slice qo s.qf.length qm, .slice qC s.qg.length qA] 36] [xN false F_bags x_bags bags, sF false qP qo qm s.qf, sF false xu qC qA s.qg, sF false xE qN qL t.qh, sF false zf xh qZ t.ql, sF false xw qG qF t.qj, sF false Fcounts acounts ccounts counts]) 7 #[true, true, true, true, true, false, true, true, false, false, false, false, false, true, false] ?_ fun L360 => ?_
  ·skip
   rintro ρ w362 ⟨junk, b359, rfl, N, H⟩
   refine vT [5, 8] (by kernel_rfl) (by simp) (yx rfl ?_ (yx rfl ?_ vU))
   ·skip
    obtain ⟨G363, hg365, hn364, H⟩ := H.VU (α := List Int) 2 rfl 0 rfl (by decide)
    have hl370 := H.isLen 0 rfl
    refine o_head H 0 rfl s.qf.length Tryz.underlying27 ti22 rfl rfl (by omega) (by omega) fun a366 G367 hG368 H => ?_
    have hl369 : (bags.take s.qf.length).length = s.qf.length := List.length_take_of_le (by omega)
    refine ⟨H.pick [1, 3, 4, 5] [2, 3, 4, 5, 6, 7, 8], (ro 8 rfl (oq (around_ok _ s (H.get 3 rfl).1 (H.get 4 rfl).1) H fun w372 H => ⟨H.pick [1, 3, 4, 5] [2, 3, 4, 5, 6, 7, 8], ?_⟩))⟩
    obtain ⟨ae374, ce374, Fe374, H⟩ := H.zU 1 rfl s.qf.length s.qf.length (by omega) (by omega) (by omega)
    refine tI 9 rfl rfl rfl (H.pick [1, 3, 4, 5] [4, 5, 6, 7, 8, 9, 10]) ?_
    refine ro 10 rfl (zl (.slice ae374 ((bags[s.qf.length]!).length) ce374) Tryz.isAgg22 rfl (H.xB 1 rfl 0 rfl) (⟨H.pick [1, 3, 4, 5] [4, 5, 6, 7, 8, 9, 10], (ro 11 rfl (jD [.slice qN t.qh.length qL, .slice a366 ((bags.take s.qf.length).length) c8, .slice ae374 ((bags[s.qf.length]!).length) ce374] [(0, .slice qN t.qh.length qL), (1, .slice a366 ((bags.take s.qf.length).length) c8), (2, .slice ae374 ((bags[s.qf.length]!).length) ce374)] (⟨H.pick [1, 3, 4, 5] [4, 5, 6, 7, 8, 9, 10], (ro 12 rfl ?_)⟩)))⟩))
    obtain ⟨cp0, cp1, cp2, cp3⟩ := copy_pre (al := t.qh) E_bags p8 p9.2 p12
    have sz378 := H.base.size
    refine oc (copied_ok _ (⟨t.qh, (bags.take s.qf.length), bags[s.qf.length]!⟩ : qE) (H.get 7 rfl).1 (H.get 2 rfl).1 (H.get 0 rfl).1 (by first | assumption | omega) (by first | assumption | omega) (by first | assumption | omega) (by first | assumption | omega)) ?_
    rintro _ w376 ⟨ra375Alive, rn375Alive, rc375Alive, ra375Bags, rn375Bags, rc375Bags, rx375Bags, rF375Bags, ra375Around, rn375Around, rc375Around, rfl, M, K⟩ _
    replace N := N.merge sz378 (by simp) M
    replace H := H.merge K M
    obtain rfl := H.rowNB 0 rfl
    obtain rfl := H.xP (α := List Int) 1 rfl 0 rfl (by decide)
    obtain rfl := H.rowNI 2 rfl
    refine ⟨H.pick [4, 6, 7, 8] [5, 6, 7, 8, 9, 10, 11], (ro 14 rfl (zF H 3 [.slice ra375Alive (((⟨t.qh, (bags.take s.qf.length), bags[s.qf.length]!⟩ : qE).qh).length) rc375Alive, .slice ra375Bags (((⟨t.qh, (bags.take s.qf.length), bags[s.qf.length]!⟩ : qE).ql).length) rc375Bags, .slice ra375Around (((⟨t.qh, (bags.take s.qf.length), bags[s.qf.length]!⟩ : qE).qj).length) rc375Around] Tryz.sizeOf38 fun w383 H => ⟨H.pick [4, 6, 7, 8] [5, 6, 7, 8, 9, 10, 11], (xy (by kernel_rfl) (?_))⟩))⟩
    exact meet ⟨_, b359, ra375Alive, rc375Alive, ra375Bags, rc375Bags, ra375Around, rc375Around, rx375Bags, rF375Bags, uE4, N, H.pick [3, 0, 1, 2, 4, 5, 6, 7, 8] [0, 6, 7, 8, 9, 10]⟩
   refine oq (around_ok _ s (H.get 1 rfl).1 (H.get 2 rfl).1) H fun w385 H => ⟨H.pick [1, 3, 4, 5] [0, 1, 2, 3, 4, 5, 6], (tI 9 rfl rfl rfl (H.pick [1, 3, 4, 5] [0, 1, 2, 3, 4, 5, 6]) ?_)⟩
   exact Xl L315 ⟨_, b359, uE8, N, H⟩
  have S := H.jZ [0, 2, 3, 4] [0, 1, 2, 3, 4, 5, 6]
  refine tF 0 rfl rfl S ?_
  refine tL 1 rfl rfl (fun _ h => h.cell 2 rfl rfl) S ?_
  refine rtp 2 (.slice (aa b240 0) (t.ql.length + 1) c8) S ?_
  refine rt 3 (.agg #[.int .i64 s.qJ, .slice qo s.qf.length qm, .slice qC s.qg.length qA]) (Qm (cs := [.int .i64 s.qJ, .slice qo s.qf.length qm, .slice qC s.qg.length qA]) Tryz.isAgg36 Tryz.sizeOf36 rfl (fun _ h => qw (h.cells 3 rfl) 0 3)) S ?_
  refine rtp 6 (.slice (aa b240 0) (t.ql.length + 1) c8) S ?_
  refine rt 7 (.agg #[.int .i64 s.qJ, .slice qo s.qf.length qm, .slice qC s.qg.length qA]) (Qm (cs := [.int .i64 s.qJ, .slice qo s.qf.length qm, .slice qC s.qg.length qA]) Tryz.isAgg36 Tryz.sizeOf36 rfl (fun _ h => qw (h.cells 3 rfl) 0 3)) S ?_
  refine vT [4, 13] (by kernel_rfl) (by simp) (yx rfl ?_ (yx rfl ?_ vU))
  ·skip
   refine oq (around_ok _ s (H.get 1 rfl).1 (H.get 2 rfl).1) H fun w388 H => ⟨H.pick [0, 2, 3, 4] [0, 1, 2, 3, 4, 5, 6], (vT [5, 8, 13] (by kernel_rfl) (by simp) (yx rfl ?_ (yx rfl ?_ (yx rfl ?_ vU))))⟩
   ·skip
    obtain ⟨G390, hg392, hn391, H⟩ := H.VU (α := List Int) 1 rfl 0 rfl (by decide)
    have hl397 := H.isLen 0 rfl
    refine o_head H 0 rfl s.qf.length Tryz.underlying27 ti22 rfl rfl (by omega) (by omega) fun a393 G394 hG395 H => ?_
    have hl396 : (bags.take s.qf.length).length = s.qf.length := List.length_take_of_le (by omega)
    refine ⟨H.pick [0, 2, 3, 4] [2, 3, 4, 5, 6, 7, 8], (vT [8, 13] (by kernel_rfl) (by simp) (yx rfl ?_ (yx rfl ?_ vU)))⟩
    ·skip
     refine oq (around_ok _ s (H.get 3 rfl).1 (H.get 4 rfl).1) H fun w399 H => ⟨H.pick [0, 2, 3, 4] [2, 3, 4, 5, 6, 7, 8], ?_⟩
     obtain ⟨ae401, ce401, Fe401, H⟩ := H.zU 1 rfl s.qf.length s.qf.length (by omega) (by omega) (by omega)
     refine tI 9 rfl rfl rfl (H.pick [0, 2, 3, 4] [4, 5, 6, 7, 8, 9, 10]) ?_
     exact Xl L296 ⟨_, a393, G394, G390, uE6, N, H.pick [0, 1, 2, 3, 4] [2, 3, 4, 5, 6, 7, 8, 9, 10]⟩
    refine xM H ti38 [.slice none 0 0, .slice none 0 0, .slice none 0 0] fun b402 w403 H => ⟨H.pick [1, 3, 4, 5] [2, 3, 4, 5, 6, 7, 8], (ro 8 rfl (oq (around_ok _ s (H.get 3 rfl).1 (H.get 4 rfl).1) H fun w405 H => ⟨H.pick [1, 3, 4, 5] [2, 3, 4, 5, 6, 7, 8], ?_⟩))⟩
    obtain ⟨ae407, ce407, Fe407, H⟩ := H.zU 1 rfl s.qf.length s.qf.length (by omega) (by omega) (by omega)
    refine tI 9 rfl rfl rfl (H.pick [1, 3, 4, 5] [4, 5, 6, 7, 8, 9, 10]) ?_
    refine ro 10 rfl (zl (.slice ae407 ((bags[s.qf.length]!).length) ce407) Tryz.isAgg22 rfl (H.xB 1 rfl 0 rfl) (⟨H.pick [1, 3, 4, 5] [4, 5, 6, 7, 8, 9, 10], (ro 11 rfl (jD [.slice qN t.qh.length qL, .slice a393 ((bags.take s.qf.length).length) c8, .slice ae407 ((bags[s.qf.length]!).length) ce407] [(0, .slice qN t.qh.length qL), (1, .slice a393 ((bags.take s.qf.length).length) c8), (2, .slice ae407 ((bags[s.qf.length]!).length) ce407)] (⟨H.pick [1, 3, 4, 5] [4, 5, 6, 7, 8, 9, 10], (ro 12 rfl ?_)⟩)))⟩))
    obtain ⟨cp0, cp1, cp2, cp3⟩ := copy_pre (al := t.qh) E_bags p8 p9.2 p12
    have sz411 := H.base.size
    refine oc (copied_ok _ (⟨t.qh, (bags.take s.qf.length), bags[s.qf.length]!⟩ : qE) (H.get 7 rfl).1 (H.get 2 rfl).1 (H.get 0 rfl).1 (by first | assumption | omega) (by first | assumption | omega) (by first | assumption | omega) (by first | assumption | omega)) ?_
    rintro _ w409 ⟨ra408Alive, rn408Alive, rc408Alive, ra408Bags, rn408Bags, rc408Bags, rx408Bags, rF408Bags, ra408Around, rn408Around, rc408Around, rfl, M, K⟩ _
    replace N := N.merge sz411 (by simp) M
    replace H := H.merge K M
    obtain rfl := H.rowNB 0 rfl
    obtain rfl := H.xP (α := List Int) 1 rfl 0 rfl (by decide)
    obtain rfl := H.rowNI 2 rfl
    refine ⟨H.pick [4, 6, 7, 8] [5, 6, 7, 8, 9, 10, 11], (ro 14 rfl (zF H 3 [.slice ra408Alive (((⟨t.qh, (bags.take s.qf.length), bags[s.qf.length]!⟩ : qE).qh).length) rc408Alive, .slice ra408Bags (((⟨t.qh, (bags.take s.qf.length), bags[s.qf.length]!⟩ : qE).ql).length) rc408Bags, .slice ra408Around (((⟨t.qh, (bags.take s.qf.length), bags[s.qf.length]!⟩ : qE).qj).length) rc408Around] Tryz.sizeOf38 fun w416 H => ⟨H.pick [4, 6, 7, 8] [5, 6, 7, 8, 9, 10, 11], (xy (by kernel_rfl) (?_))⟩))⟩
    exact meet ⟨_, b402, ra408Alive, rc408Alive, ra408Bags, rc408Bags, ra408Around, rc408Around, rx408Bags, rF408Bags, uE4, N, H.pick [3, 0, 1, 2, 4, 5, 6, 7, 8] [0, 6, 7, 8, 9, 10]⟩
   ·skip
    refine oq (around_ok _ s (H.get 1 rfl).1 (H.get 2 rfl).1) H fun w418 H => ⟨H.pick [0, 2, 3, 4] [0, 1, 2, 3, 4, 5, 6], (tI 9 rfl rfl rfl (H.pick [0, 2, 3, 4] [0, 1, 2, 3, 4, 5, 6]) ?_)⟩
    refine vT [5, 10, 13] (by kernel_rfl) (by simp) (yx rfl ?_ (yx rfl ?_ (yx rfl ?_ vU)))
    ·skip
     obtain ⟨G420, hg422, hn421, H⟩ := H.VU (α := List Int) 1 rfl 0 rfl (by decide)
     have hl427 := H.isLen 0 rfl
     refine o_head H 0 rfl s.qf.length Tryz.underlying27 ti22 rfl rfl (by omega) (by omega) fun a423 G424 hG425 H => ?_
     have hl426 : (bags.take s.qf.length).length = s.qf.length := List.length_take_of_le (by omega)
     refine ⟨H.pick [0, 2, 3, 4] [2, 3, 4, 5, 6, 7, 8], (Xl L296 ⟨_, a423, G424, G420, uE6, N, H⟩)⟩
    ·skip
     obtain ⟨a428, c429, G430, s431, h432, H⟩ := H.jo 1 rfl 0 rfl (iv := s.qf.length) s.qf.length (by omega) (by omega)
     refine zl (.slice a428 ((bags[s.qf.length]!).length) c429) Tryz.isAgg22 rfl (h432) (⟨H.pick [0, 2, 3, 4] [1, 2, 3, 4, 5, 6, 7], (vT [5, 13] (by kernel_rfl) (by simp) (yx rfl ?_ (yx rfl ?_ vU)))⟩)
     ·skip
      obtain ⟨G433, hg435, hn434, H⟩ := H.VU (α := List Int) 1 rfl 1 rfl (by decide)
      have hl440 := H.isLen 0 rfl
      refine o_head H 0 rfl s.qf.length Tryz.underlying27 ti22 rfl rfl (by omega) (by omega) fun a436 G437 hG438 H => ?_
      have hl439 : (bags.take s.qf.length).length = s.qf.length := List.length_take_of_le (by omega)
      refine ⟨H.pick [0, 2, 3, 4] [3, 4, 5, 6, 7, 8, 9], (Xl L257 ⟨_, a428, c429, a436, G437, G430, uE6, N, H.pick [0, 1, 2, 3, 4] [0, 2, 3, 4, 5, 6, 7, 8, 9]⟩)⟩
     refine xM H ti38 [.slice none 0 0, .slice none 0 0, .slice none 0 0] fun b441 w442 H => ⟨H.pick [1, 3, 4, 5] [1, 2, 3, 4, 5, 6, 7], (ro 5 rfl ?_)⟩
     obtain ⟨G443, hg445, hn444, H⟩ := H.VU (α := List Int) 2 rfl 1 rfl (by decide)
     have hl450 := H.isLen 0 rfl
     refine o_head H 0 rfl s.qf.length Tryz.underlying27 ti22 rfl rfl (by omega) (by omega) fun a446 G447 hG448 H => ?_
     have hl449 : (bags.take s.qf.length).length = s.qf.length := List.length_take_of_le (by omega)
     refine ⟨H.pick [1, 3, 4, 5] [3, 4, 5, 6, 7, 8, 9], (ro 11 rfl (jD [.slice qN t.qh.length qL, .slice a446 ((bags.take s.qf.length).length) c8, .slice a428 ((bags[s.qf.length]!).length) c429] [(0, .slice qN t.qh.length qL), (1, .slice a446 ((bags.take s.qf.length).length) c8), (2, .slice a428 ((bags[s.qf.length]!).length) c429)] (⟨H.pick [1, 3, 4, 5] [3, 4, 5, 6, 7, 8, 9], (ro 12 rfl ?_)⟩)))⟩
     obtain ⟨cp0, cp1, cp2, cp3⟩ := copy_pre (al := t.qh) E_bags p8 p9.2 p12
     have sz454 := H.base.size
     refine oc (copied_ok _ (⟨t.qh, (bags.take s.qf.length), bags[s.qf.length]!⟩ : qE) (H.get 6 rfl).1 (H.get 0 rfl).1 (H.get 2 rfl).1 (by first | assumption | omega) (by first | assumption | omega) (by first | assumption | omega) (by first | assumption | omega)) ?_
     rintro _ w452 ⟨ra451Alive, rn451Alive, rc451Alive, ra451Bags, rn451Bags, rc451Bags, rx451Bags, rF451Bags, ra451Around, rn451Around, rc451Around, rfl, M, K⟩ _
     replace N := N.merge sz454 (by simp) M
     replace H := H.merge K M
     obtain rfl := H.rowNB 0 rfl
     obtain rfl := H.xP (α := List Int) 1 rfl 0 rfl (by decide)
     obtain rfl := H.rowNI 2 rfl
     refine ⟨H.pick [4, 6, 7, 8] [4, 5, 6, 7, 8, 9, 10], (ro 14 rfl (zF H 3 [.slice ra451Alive (((⟨t.qh, (bags.take s.qf.length), bags[s.qf.length]!⟩ : qE).qh).length) rc451Alive, .slice ra451Bags (((⟨t.qh, (bags.take s.qf.length), bags[s.qf.length]!⟩ : qE).ql).length) rc451Bags, .slice ra451Around (((⟨t.qh, (bags.take s.qf.length), bags[s.qf.length]!⟩ : qE).qj).length) rc451Around] Tryz.sizeOf38 fun w459 H => ⟨H.pick [4, 6, 7, 8] [4, 5, 6, 7, 8, 9, 10], (xy (by kernel_rfl) (?_))⟩))⟩
     exact meet ⟨_, b441, ra451Alive, rc451Alive, ra451Bags, rc451Bags, ra451Around, rc451Around, rx451Bags, rF451Bags, uE4, N, H.pick [3, 0, 1, 2, 4, 5, 6, 7, 8] [0, 5, 6, 7, 8, 9]⟩
    refine xM H ti38 [.slice none 0 0, .slice none 0 0, .slice none 0 0] fun b460 w461 H => ⟨H.pick [1, 3, 4, 5] [0, 1, 2, 3, 4, 5, 6], (Xl L315 ⟨_, b460, uE8, N, H⟩)⟩
   refine xM H ti38 [.slice none 0 0, .slice none 0 0, .slice none 0 0] fun b462 w463 H => ⟨H.pick [1, 3, 4, 5] [0, 1, 2, 3, 4, 5, 6], (Xl L360 ⟨_, b462, uE9, N, H⟩)⟩
  refine xM H ti38 [.slice none 0 0, .slice none 0 0, .slice none 0 0] fun b464 w465 H => ⟨H.pick [1, 3, 4, 5] [0, 1, 2, 3, 4, 5, 6], (ro 4 rfl (oq (around_ok _ s (H.get 1 rfl).1 (H.get 2 rfl).1) H fun w467 H => ⟨H.pick [1, 3, 4, 5] [0, 1, 2, 3, 4, 5, 6], (Xl L360 ⟨_, b464, uE9, N, H⟩)⟩))⟩
 clear H N
 rintro ρ w469 ⟨junk, b241, ra242, rc243, ra244, rc245, ra246, rc247, rx248, rF249, rfl, N, H⟩
 refine t_n (zcc (sp (.slice (aa b36 0) s.qf.length s.qf.length) (oN rfl (sw (o_sub s.qf.length 1 rfl rfl (by omega) (sp (.int .i64 (s.qf.length - 1)) (zjn (qM ?_))))))))
 obtain rfl : i = s.qg.length := by omega
 have hl := stepped_live p1 E_bags (by omega)
 obtain ⟨s1, s2⟩ := step_tab E_bags
 rw [show (⟨t.qh, (bags.take s.qf.length), bags[s.qf.length]!⟩ : qE) = stepped s t counts from by rw [show bags.take s.qf.length = _ from s1, show bags[s.qf.length]! = _ from s2]; rfl] at H
 refine xQ (fun m' ρ w470 => ∃ (junk : Env) (c : Int) (out_Alive : List Bool) (out_Bags : List (List Int)) (zi : List Value) (xF : List Nat) (j : Nat), ρ = upd (upd (upd (upd (upd junk 3 (pp b1 0)) 6 (pp b5 0)) 9 (.slice (aa b36 0) s.qf.length s.qf.length)) 13 (pp b241 0)) 14 (.int .i64 c) ∧ out_Alive = (qX s counts (stepped s t counts) j).qh ∧ out_Bags = (qX s counts (stepped s t counts) j).ql ∧ (c = (s.qf.length : Int) - 1 - j) ∧ (j + 1 ≤ s.qf.length) ∧ m' = (c : Int).toNat ∧ Fresh w.heap.size [xF] ∧ St w w470 [.box b241 [.slice ra242 (((stepped s t counts).qh).length) rc243, .slice ra244 (((stepped s t counts).ql).length) rc245, .slice ra246 (((stepped s t counts).qj).length) rc247] 38, rr ra242 (((stepped s t counts).qh).length) rc243 4 1 (out_Alive.map (Value.bool)), rr ra244 (((stepped s t counts).ql).length) rc245 22 1 zi, rr ra246 (((stepped s t counts).qj).length) rc247 2 1 (((stepped s t counts).qj).map (Value.int .i64)), rr (aa b36 0) s.qf.length s.qf.length 4 1 ((jH s counts s.qf.length s.qg.length).map (Value.bool)), .box b5 [.slice none 0 0, .slice none 0 0, .slice none 0 0] 38, .box b3 [.slice qN t.qh.length qL, .slice xh t.ql.length qZ, .slice qG t.qj.length qF] 38, .box b1 [.int .i64 s.qJ, .slice qo s.qf.length qm, .slice qC s.qg.length qA] 36] [xN true xF zi out_Bags, sF false qP qo qm s.qf, sF false xu qC qA s.qg, sF false xE qN qL t.qh, sF false zf xh qZ t.ql, sF false xw qG qF t.qj]) (((s.qf.length - 1) : Int).toNat) ⟨_, s.qf.length - 1, (stepped s t counts).qh, (stepped s t counts).ql, rx248, rF249, 0, uE5, (by rfl), (by rfl), (by omega), (by omega), rfl, N, H.pick [0, 1, 2, 3, 4, 6, 7, 8] [0, 1, 2, 3, 4, 5]⟩ ?_
 clear H N
 rintro m' ρ w471 ⟨junk, c, out_Alive, out_Bags, zi, xF, j, rfl, rfl, rfl, ic, jc, rfl, N, H⟩
 have hn_out_Alive := H.rowNB 1 rfl
 have VT := H.xP (α := List Int) 2 rfl 0 rfl (by decide)
 have L := meltDown_live (counts := counts) p0 hl j (by omega)
 have L1 := L.alive
 have L2 := L.root
 have L3 := L.bags.1
 rw [← yV s counts (stepped s t counts) j] at H
 refine zcc (sps [.int .i64 c, .bool (decide ((c : Int) > 0))] (zjn (cD rfl (fun h472 => ?_) (fun h472 => ?_))))
 ·skip
  refine qK (t_n (xC (qM (zcr (sps [.slice (aa b36 0) s.qf.length s.qf.length, .int .i64 c] (oI rfl rfl (oL rfl (H.rowBool 4 rfl (iv := c) (i := c.toNat) (by omega) (by omega)) (zjn (xn ((jH s counts s.qf.length s.qg.length)[c.toNat]!) rfl (fun h473 => ?_) (fun h473 => ?_))))))))))
  ·skip
   refine xH (sw (xU [.int .i64 s.qJ, .slice qo s.qf.length qm, .slice qC s.qg.length qA] Tryz.isAgg36 Tryz.sizeOf36 rfl (qw (H.cells 7 rfl) 0 3) (sp (.int .i64 c) (sw (zS #[.agg #[.int .i64 s.qJ, .slice qo s.qf.length qm, .slice qC s.qg.length qA], pp b241 0, .int .i64 c] rfl rfl Tryz.call155 (en Tryz.func155 Tryz.ntmps155 ?_))))))
   refine zcr (sw (zY H [.int .i64 s.qJ, .slice qo s.qf.length qm, .slice qC s.qg.length qA] fun b474 w475 H => zjn (xC ?_)))
   refine vH rfl H fun H => rt 0 (.agg #[.int .i64 s.qJ, .slice qo s.qf.length qm, .slice qC s.qg.length qA]) (Qm (cs := [.int .i64 s.qJ, .slice qo s.qf.length qm, .slice qC s.qg.length qA]) Tryz.isAgg36 Tryz.sizeOf36 rfl (fun _ h => qw (h.cells 0 rfl) 0 3)) H ?_
   refine rtp 1 (pp b241 0) H ?_
   refine rtp 2 (pp b241 0) H ?_
   refine rt 3 (.agg #[.slice ra242 (((stepped s t counts).qh).length) rc243, .slice ra244 (((stepped s t counts).ql).length) rc245, .slice ra246 (((qX s counts (stepped s t counts) j).qj).length) rc247]) (Qm (cs := [.slice ra242 (((stepped s t counts).qh).length) rc243, .slice ra244 (((stepped s t counts).ql).length) rc245, .slice ra246 (((qX s counts (stepped s t counts) j).qj).length) rc247]) Tryz.isAgg38 Tryz.sizeOf38 rfl (fun _ h => qw (h.cells 1 rfl) 0 3)) H ?_
   refine rtp 4 (.int .i64 c) H ?_
   refine ro 5 rfl ?_
   obtain ⟨G477, hn478, h479⟩ := H.rowIsB 2 rfl
   obtain ⟨G480, hn481, h482⟩ := H.rowIsR (α := List Int) 3 rfl 0 rfl (by decide)
   obtain ⟨G483, hn484, h485⟩ := H.rowIsI 4 rfl
   refine oq (args_eq (by rw [← hn478, ← hn481]) (parentNow_ok _ s (qX s counts (stepped s t counts) j) c (H.get 1 rfl).1 (H.get 2 rfl).1 (hn478 ▸ h479) (hn481 ▸ h482) h485 (by first | assumption | omega) (by first | assumption | omega) (by first | assumption | omega))) H fun w487 H => ?_
   have pin := VZ (s := s) (t := (qX s counts (stepped s t counts) j)) (c := c) p0.1 L2 (by omega) (by omega)
   refine ⟨H, (rtp 6 (.int .i64 (xe s (qX s counts (stepped s t counts) j) c)) H ?_)⟩
   refine xy (by kernel_rfl) (t_n (xC ?_))
   obtain ⟨b489, rfl⟩ := H.Qn 3 rfl (by omega)
   refine c_cut (fun ρ w492 => ∃ (junk : Env) (xs490 : List Value) (F491 : List Nat), ρ = upd (upd (upd junk 1 (pp b241 0)) 2 (.int .i64 c)) 3 (pp b474 0) ∧ Fresh w.heap.size [F491] ∧ St w w492 [.box b474 [.int .i64 s.qJ, .slice qo s.qf.length qm, .slice qC s.qg.length qA] 36, .box b241 [.slice ra242 (((stepped s t counts).qh).length) rc243, .slice (aa b489 0) (((stepped s t counts).ql).length) rc245, .slice ra246 (((qX s counts (stepped s t counts) j).qj).length) rc247] 38, rr ra242 (((stepped s t counts).qh).length) rc243 4 1 (((qX s counts (stepped s t counts) j).qh).map (Value.bool)), rr (aa b489 0) (((stepped s t counts).ql).length) rc245 22 1 xs490, rr ra246 (((qX s counts (stepped s t counts) j).qj).length) rc247 2 1 (((qX s counts (stepped s t counts) j).qj).map (Value.int .i64)), rr (aa b36 0) s.qf.length s.qf.length 4 1 ((jH s counts s.qf.length s.qg.length).map (Value.bool)), .box b5 [.slice none 0 0, .slice none 0 0, .slice none 0 0] 38, .box b3 [.slice qN t.qh.length qL, .slice xh t.ql.length qZ, .slice qG t.qj.length qF] 38, .box b1 [.int .i64 s.qJ, .slice qo s.qf.length qm, .slice qC s.qg.length qA] 36] [xN true F491 xs490 (((qX s counts (stepped s t counts) j).ql).set ((xe s (qX s counts (stepped s t counts) j) c).toNat) (vk (((qX s counts (stepped s t counts) j).ql)[(xe s (qX s counts (stepped s t counts) j) c).toNat]!) (((qX s counts (stepped s t counts) j).ql)[c.toNat]!) 1)), sF false qP qo qm s.qf, sF false xu qC qA s.qg, sF false xE qN qL t.qh, sF false zf xh qZ t.ql, sF false xw qG qF t.qj]) ?_ ?_
   ·skip
    refine yO rfl H [0, 1, 2, 4, 5, 6, 7, 8] fun H => ?_
    have S := H.jZ [0, 1, 2, 4, 5, 6, 7, 8] [0, 1, 2, 3, 4, 5]
    refine rtp 0 (pp b241 0) S ?_
    refine rtp 1 (pp b241 0) S ?_
    refine tF 2 rfl rfl S ?_
    refine tL 3 rfl rfl (fun _ h => h.cell 1 rfl rfl) S ?_
    refine rtp 4 (.int .i64 (xe s (qX s counts (stepped s t counts) j) c)) S ?_
    refine rtp 5 (pp b241 0) S ?_
    refine rtp 6 (pp b241 0) S ?_
    refine tF 7 rfl rfl S ?_
    refine tL 8 rfl rfl (fun _ h => h.cell 1 rfl rfl) S ?_
    refine rtp 9 (.int .i64 (xe s (qX s counts (stepped s t counts) j) c)) S ?_
    refine tI 10 rfl rfl rfl S ?_
    refine rtp 12 (pp b241 0) S ?_
    refine rtp 13 (pp b241 0) S ?_
    refine tF 14 rfl rfl S ?_
    refine tL 15 rfl rfl (fun _ h => h.cell 1 rfl rfl) S ?_
    refine rtp 16 (.int .i64 c) S ?_
    refine tI 17 rfl rfl rfl S ?_
    refine vT [11, 18] (by kernel_rfl) (by simp) (yx rfl ?_ (yx rfl ?_ vU))
    ·skip
     obtain ⟨a494, c495, G496, s497, h498, H⟩ := H.jo 3 rfl 0 rfl (iv := xe s (qX s counts (stepped s t counts) j) c) ((xe s (qX s counts (stepped s t counts) j) c).toNat) (by omega) (by omega)
     refine zl (.slice a494 ((((qX s counts (stepped s t counts) j).ql)[(xe s (qX s counts (stepped s t counts) j) c).toNat]!).length) c495) Tryz.isAgg22 rfl (h498) (⟨H.pick [0, 1, 2, 4, 5, 6, 7, 8] [1, 2, 3, 4, 5, 6], (ro 18 rfl ?_)⟩)
     obtain ⟨a499, c500, G501, s502, h503, H⟩ := H.jo 3 rfl 1 rfl (iv := c) c.toNat (by omega) (by omega)
     refine zl (.slice a499 ((((qX s counts (stepped s t counts) j).ql)[c.toNat]!).length) c500) Tryz.isAgg22 rfl (h503) (⟨H.pick [0, 1, 2, 4, 5, 6, 7, 8] [2, 3, 4, 5, 6, 7], (ro 19 rfl ?_)⟩)
     obtain ⟨u1, u2, u4⟩ := L.rows p0 (bnd_le (by omega)) (p := (xe s (qX s counts (stepped s t counts) j) c).toNat) (c := c.toNat) (by omega) (by omega)
     have sz504 := H.base.size
     have lt505 := H.ltN (L := [xF]) [2]
     refine oc (plus_ok _ (((qX s counts (stepped s t counts) j).ql)[(xe s (qX s counts (stepped s t counts) j) c).toNat]!) (((qX s counts (stepped s t counts) j).ql)[c.toNat]!) 1 (H.get 1 rfl).1 (H.get 0 rfl).1 (by first | assumption | omega) (by first | assumption | omega) (by first | assumption | omega)) ?_
     rintro v509 w507 r509 x508
     replace H := H.xW x508 r509
     obtain ⟨a510, c511, rfl, hc512, hm513⟩ := H.vN 0 rfl
     refine ⟨H.pick [1, 2, 3, 5, 6, 7, 8, 9] [2, 3, 4, 5, 6, 7], (tI 20 rfl rfl rfl (H.pick [1, 2, 3, 5, 6, 7, 8, 9] [2, 3, 4, 5, 6, 7]) ?_)⟩
     refine ro 21 rfl ?_
     obtain ⟨G515, N, hn516, H⟩ := H.vG 0 rfl N (H.yT [2])
     refine jb true H 4 rfl 3 rfl (.slice a510 ((vk (((qX s counts (stepped s t counts) j).ql)[(xe s (qX s counts (stepped s t counts) j) c).toNat]!) (((qX s counts (stepped s t counts) j).ql)[c.toNat]!) 1).length) c511) 0 rfl rfl Tryz.sizeOf22 rfl rfl (i := ((xe s (qX s counts (stepped s t counts) j) c).toNat)) (by omega) (by omega) (by simp) fun w514 xs517 F518 hs519 H => ?_
     replace N : Fresh w.heap.size [F518] := (N.pick [1, 0]).repl hs519
     refine ⟨H.pick [1, 2, 3, 5, 6, 7, 8, 9] [4, 5, 6, 7, 8, 9], (xy (by kernel_rfl) ((meet ⟨_, xs517, F518, uE3, N, H.pick [1, 2, 3, 4, 5, 6, 7, 8, 9] [0, 5, 6, 7, 8, 9]⟩)))⟩
    obtain ⟨a520, c521, G522, s523, h524, H⟩ := H.jo 3 rfl 0 rfl (iv := c) c.toNat (by omega) (by omega)
    refine zl (.slice a520 ((((qX s counts (stepped s t counts) j).ql)[c.toNat]!).length) c521) Tryz.isAgg22 rfl (h524) (⟨H.pick [0, 1, 2, 4, 5, 6, 7, 8] [1, 2, 3, 4, 5, 6], (ro 11 rfl ?_)⟩)
    obtain ⟨a525, c526, G527, s528, h529, H⟩ := H.jo 3 rfl 1 rfl (iv := xe s (qX s counts (stepped s t counts) j) c) ((xe s (qX s counts (stepped s t counts) j) c).toNat) (by omega) (by omega)
    refine zl (.slice a525 ((((qX s counts (stepped s t counts) j).ql)[(xe s (qX s counts (stepped s t counts) j) c).toNat]!).length) c526) Tryz.isAgg22 rfl (h529) (⟨H.pick [0, 1, 2, 4, 5, 6, 7, 8] [2, 3, 4, 5, 6, 7], (ro 19 rfl ?_)⟩)
    obtain ⟨u1, u2, u4⟩ := L.rows p0 (bnd_le (by omega)) (p := (xe s (qX s counts (stepped s t counts) j) c).toNat) (c := c.toNat) (by omega) (by omega)
    have sz530 := H.base.size
    have lt531 := H.ltN (L := [xF]) [2]
    refine oc (plus_ok _ (((qX s counts (stepped s t counts) j).ql)[(xe s (qX s counts (stepped s t counts) j) c).toNat]!) (((qX s counts (stepped s t counts) j).ql)[c.toNat]!) 1 (H.get 0 rfl).1 (H.get 1 rfl).1 (by first | assumption | omega) (by first | assumption | omega) (by first | assumption | omega)) ?_
    rintro v535 w533 r535 x534
    replace H := H.xW x534 r535
    obtain ⟨a536, c537, rfl, hc538, hm539⟩ := H.vN 0 rfl
    refine ⟨H.pick [1, 2, 3, 5, 6, 7, 8, 9] [2, 3, 4, 5, 6, 7], (tI 20 rfl rfl rfl (H.pick [1, 2, 3, 5, 6, 7, 8, 9] [2, 3, 4, 5, 6, 7]) ?_)⟩
    refine ro 21 rfl ?_
    obtain ⟨G541, N, hn542, H⟩ := H.vG 0 rfl N (H.yT [2])
    refine jb true H 4 rfl 3 rfl (.slice a536 ((vk (((qX s counts (stepped s t counts) j).ql)[(xe s (qX s counts (stepped s t counts) j) c).toNat]!) (((qX s counts (stepped s t counts) j).ql)[c.toNat]!) 1).length) c537) 0 rfl rfl Tryz.sizeOf22 rfl rfl (i := ((xe s (qX s counts (stepped s t counts) j) c).toNat)) (by omega) (by omega) (by simp) fun w540 xs543 F544 hs545 H => ?_
    replace N : Fresh w.heap.size [F544] := (N.pick [1, 0]).repl hs545
    refine ⟨H.pick [1, 2, 3, 5, 6, 7, 8, 9] [4, 5, 6, 7, 8, 9], (xy (by kernel_rfl) ((meet ⟨_, xs543, F544, uE3, N, H.pick [1, 2, 3, 4, 5, 6, 7, 8, 9] [0, 5, 6, 7, 8, 9]⟩)))⟩
   clear H N
   rintro ρ w546 ⟨junk, xs490, F491, rfl, N, H⟩
   refine t_n (xC ?_)
   refine yO rfl H [0, 1, 2, 4, 5, 6, 7, 8] fun H => ?_
   have S := H.jZ [0, 1, 2, 4, 5, 6, 7, 8] [0, 1, 2, 3, 4, 5]
   refine rtp 0 (pp b241 0) S ?_
   refine rtp 1 (pp b241 0) S ?_
   refine tF 2 rfl rfl S ?_
   refine tL 3 rfl rfl (fun _ h => h.cell 1 rfl rfl) S ?_
   refine rtp 4 (.int .i64 c) S ?_
   refine tF 5 rfl rfl S ?_
   refine tL 6 rfl rfl (fun _ h => h.cell 0 rfl rfl) S ?_
   refine ro 7 rfl (Xa H Tryz.underlying22 ti2 s.qJ.toNat rfl rfl (by omega) (by omega) (by omega) fun b548 w549 H => ⟨H.pick [1, 2, 3, 5, 6, 7, 8, 9] [0, 1, 2, 3, 4, 5], (tI 8 rfl rfl rfl (H.pick [1, 2, 3, 5, 6, 7, 8, 9] [0, 1, 2, 3, 4, 5]) ?_)⟩)
   refine ro 9 rfl ?_
   obtain ⟨G551, N, hn552, H⟩ := H.vG 0 rfl N (H.yT [0])
   refine jb true H 4 rfl 1 rfl (.slice (aa b548 0) s.qJ.toNat s.qJ.toNat) 0 rfl rfl Tryz.sizeOf22 rfl rfl (i := c.toNat) (by omega) (by omega) (by simp) fun w550 xs553 F554 hs555 H => ?_
   replace N : Fresh w.heap.size [F554] := (N.pick [1, 0]).repl hs555
   refine ⟨H.pick [1, 2, 3, 5, 6, 7, 8, 9] [2, 3, 4, 5, 6, 7], (xy (by kernel_rfl) (t_n (xH (sps [pp b241 0, pp b241 0] (oF rfl (oL rfl (H.cell 2 rfl rfl) (sp (.int .i64 c) ?_)))))))⟩
   obtain ⟨b556, rfl⟩ := H.Qn 3 rfl (by omega)
   refine oI rfl rfl (sw (Qw H 3 rfl false Tryz.sizeOf4 rfl rfl (i := c.toNat) (by omega) (by omega) fun w557 H => xG (ret0 rfl ⟨_, rfl, ?_⟩)))
   replace H := H.erases [1, 0]
   dsimp only [jf, List.eraseIdx] at H
   refine xG (b_n (t_n (xH (sp (.int .i64 c) (sw (o_sub c 1 rfl rfl (by omega) (sp (.int .i64 (c - 1)) (xG ?_))))))))
   rw [yV] at H
   refine qR (m' := ((c - 1) : Int).toNat) (by omega) ⟨_, c - 1, (((qX s counts (stepped s t counts) j).qh).set c.toNat false), ((((qX s counts (stepped s t counts) j).ql).set ((xe s (qX s counts (stepped s t counts) j) c).toNat) (vk (((qX s counts (stepped s t counts) j).ql)[(xe s (qX s counts (stepped s t counts) j) c).toNat]!) (((qX s counts (stepped s t counts) j).ql)[c.toNat]!) 1)).set c.toNat (List.replicate s.qJ.toNat (0 : Int))), xs553, F554, j + 1, uE5, ?_, ?_, ?_, ?_, rfl, N, H.pick [0, 1, 2, 3, 4, 5, 6, 7] [0, 3, 4, 5, 6, 7]⟩
   · first | (rw [meltDown_yesL (c := c) ‹_› (by omega) (by omega) rfl ic]; rfl) | rw [meltDown_noL (c := c) ‹_› (by omega) (by omega) rfl ic]
   · first | (rw [meltDown_yesL (c := c) ‹_› (by omega) (by omega) rfl ic]; rfl) | rw [meltDown_noL (c := c) ‹_› (by omega) (by omega) rfl ic]
   · omega
   · omega
  refine qK (b_n (t_n (xH (sp (.int .i64 c) (sw (o_sub c 1 rfl rfl (by omega) (sp (.int .i64 (c - 1)) (xG ?_))))))))
  rw [yV] at H
  refine qR (m' := ((c - 1) : Int).toNat) (by omega) ⟨_, c - 1, ((qX s counts (stepped s t counts) j).qh), ((qX s counts (stepped s t counts) j).ql), zi, xF, j + 1, uE5, ?_, ?_, ?_, ?_, rfl, N, H⟩
  · first | (rw [meltDown_yesL (c := c) ‹_› (by omega) (by omega) rfl ic]; rfl) | rw [meltDown_noL (c := c) ‹_› (by omega) (by omega) rfl ic]
  · first | (rw [meltDown_yesL (c := c) ‹_› (by omega) (by omega) rfl ic]; rfl) | rw [meltDown_noL (c := c) ‹_› (by omega) (by omega) rfl ic]
  · omega
  · omega
 refine zx4 (zcr (sw (xU [.int .i64 s.qJ, .slice qo s.qf.length qm, .slice qC s.qg.length qA] Tryz.isAgg36 Tryz.sizeOf36 rfl (qw (H.cells 7 rfl) 0 3) (sw (xU [.slice ra242 (((stepped s t counts).qh).length) rc243, .slice ra244 (((stepped s t counts).ql).length) rc245, .slice ra246 (((qX s counts (stepped s t counts) j).qj).length) rc247] Tryz.isAgg38 Tryz.sizeOf38 rfl (qw (H.cells 0 rfl) 0 3) ?_)))))
 refine sw (zS #[.agg #[.int .i64 s.qJ, .slice qo s.qf.length qm, .slice qC s.qg.length qA], .agg #[.slice ra242 (((stepped s t counts).qh).length) rc243, .slice ra244 (((stepped s t counts).ql).length) rc245, .slice ra246 (((qX s counts (stepped s t counts) j).qj).length) rc247]] rfl rfl Tryz.call156 (en Tryz.func156 Tryz.ntmps156 ?_))
 refine zcr (sw (zY H [.int .i64 s.qJ, .slice qo s.qf.length qm, .slice qC s.qg.length qA] fun b558 w559 H => sw (zY H [.slice ra242 (((stepped s t counts).qh).length) rc243, .slice ra244 (((stepped s t counts).ql).length) rc245, .slice ra246 (((qX s counts (stepped s t counts) j).qj).length) rc247] fun b560 w561 H => sw (xM H ti38 [.slice none 0 0, .slice none 0 0, .slice none 0 0] fun b562 w563 H => sp (.int .i64 0) (zjcc ?_)))))
 refine sw (xU [.int .i64 s.qJ, .slice qo s.qf.length qm, .slice qC s.qg.length qA] Tryz.isAgg36 Tryz.sizeOf36 rfl (qw (H.cells 2 rfl) 0 3) (sw (xU [.slice ra242 (((stepped s t counts).qh).length) rc243, .slice ra244 (((stepped s t counts).ql).length) rc245, .slice ra246 (((qX s counts (stepped s t counts) j).qj).length) rc247] Tryz.isAgg38 Tryz.sizeOf38 rfl (qw (H.cells 1 rfl) 0 3) ?_)))
 obtain ⟨G564, hn565, h566⟩ := H.rowIsB 4 rfl
 obtain ⟨G567, hn568, h569⟩ := H.rowIsR (α := List Int) 5 rfl 0 rfl (by decide)
 obtain ⟨G570, hn571, h572⟩ := H.rowIsI 6 rfl
 refine sw (oq (args_eq (by rw [← hn565, ← hn568]) (validState_ok _ s (qX s counts (stepped s t counts) j) (H.get 1 rfl).1 (H.get 2 rfl).1 (hn565 ▸ h566) (hn568 ▸ h569) h572)) H fun w574 H => sp (.bool (!(dec (jG s ∧ zt s (qX s counts (stepped s t counts) j))))) (zjn (cQ rfl (fun h576 => ?_) (fun h576 => ?_))))
 ·skip
  refine zcr (sw (jD [.slice none 0 0, .slice none 0 0, .slice none 0 0] [] (sw (zF H 0 [.slice none 0 0, .slice none 0 0, .slice none 0 0] Tryz.sizeOf38 fun w577 H => sp (.int .i64 3) (zjr (t_r (retC2 H 0 rfl (.int .i64 3) rfl Tryz.isAgg38 Tryz.sizeOf38 rfl rfl ⟨_, rfl, ?_⟩)))))))
  replace H := H.erases [2, 1, 0]
  dsimp only [jf, List.eraseIdx] at H
  refine sps [.agg #[.slice none 0 0, .slice none 0 0, .slice none 0 0], .int .i64 3] (sw (zF H 5 [.slice none 0 0, .slice none 0 0, .slice none 0 0] Tryz.sizeOf38 fun w578 H => sp (.int .i64 3) (zjr ?_)))
  replace H := H.nilRowB 4
  replace H := H.nilRow 22 1
  replace H := H.vw (α := List Int)
  replace H := H.nilRowI 2
  refine retC2 H 8 rfl (.int .i64 3) rfl Tryz.isAgg38 Tryz.sizeOf38 rfl rfl ⟨_, rfl, ?_, H.base⟩
  rw [stepBy_yes p3, stepRes, show vJ s - 1 = j by omega, told_no (fun h => ‹¬ (jG s ∧ _)› ⟨p0, h⟩)]
  exact ⟨none, 0, 0, none, 0, 0, [], [], none, 0, 0, rfl, (N.emp.pick [0]), H.pick [2, 1, 0] [0]⟩
 refine qK (t_n (zcr (sw (xU [.slice ra242 (((stepped s t counts).qh).length) rc243, .slice ra244 (((stepped s t counts).ql).length) rc245, .slice ra246 (((qX s counts (stepped s t counts) j).qj).length) rc247] Tryz.isAgg38 Tryz.sizeOf38 rfl (qw (H.cells 1 rfl) 0 3) (sw (zF H 0 [.slice ra242 (((stepped s t counts).qh).length) rc243, .slice ra244 (((stepped s t counts).ql).length) rc245, .slice ra246 (((qX s counts (stepped s t counts) j).qj).length) rc247] Tryz.sizeOf38 fun w579 H => sp (.int .i64 0) (zjr (retC2 H 0 rfl (.int .i64 0) rfl Tryz.isAgg38 Tryz.sizeOf38 rfl rfl ⟨_, rfl, ?_⟩))))))))
 replace H := H.erases [2, 1, 0]
 dsimp only [jf, List.eraseIdx] at H
 refine sps [.agg #[.slice ra242 (((stepped s t counts).qh).length) rc243, .slice ra244 (((stepped s t counts).ql).length) rc245, .slice ra246 (((qX s counts (stepped s t counts) j).qj).length) rc247], .int .i64 0] (sw (zF H 5 [.slice ra242 (((stepped s t counts).qh).length) rc243, .slice ra244 (((stepped s t counts).ql).length) rc245, .slice ra246 (((qX s counts (stepped s t counts) j).qj).length) rc247] Tryz.sizeOf38 fun w580 H => sp (.int .i64 0) (zjr (retC2 H 5 rfl (.int .i64 0) rfl Tryz.isAgg38 Tryz.sizeOf38 rfl rfl ⟨_, rfl, ?_, H.base⟩))))
 rw [stepBy_yes p3, stepRes, show vJ s - 1 = j by omega, told_yes (‹jG s ∧ _› : jG s ∧ _).2]
 exact ⟨ra242, ((stepped s t counts).qh).length, rc243, ra244, ((stepped s t counts).ql).length, rc245, zi, xF, ra246, ((qX s counts (stepped s t counts) j).qj).length, rc247, rfl, N, H.pick [1, 2, 3] [0]⟩
theorem eqStateS_ok (w : World) (x : List qE) (y : List qE) {ay : Option Addr} {cy : Nat} {Fy : List Nat} (hx : qB.rep w Fx [.slice ax x.length cx] x) (hy : qB.rep w Fy [.slice ay y.length cy] y) : Calls Tryz.prog 29 #[.slice ax x.length cx, .slice ay y.length cy] w (Ret (fun v w' => v = .bool (decide (x = y))) w) := by
 refine en Tryz.func29 Tryz.ntmps29 ?_
 have H := ((St.start w).arg hy).arg hx
 have nhx := qx hx
 have nhy := qx hy
 clear hx hy
 refine zcr (sp (.bool false) (zjcc (sp (.slice ax x.length cx) (oN rfl (sp (.slice ay y.length cy) (oN rfl (sp (.bool ((x.length : Int) != y.length)) (zjn (xn ((x.length : Int) != y.length) rfl (fun h1 => ?_) (fun h1 => ?_))))))))))
 ·skip
  replace h1 := bne_iff_ne.1 h1
  refine zcr (sp (.bool false) (zjr (t_r (ret1 (.bool false) rfl rfl ⟨_, rfl, ?_, H.base⟩))))
  first | rw [decide_eq_false (fun e => by subst e; omega)] | rw [decide_eq_false (zN (k := k) ‹_›)] | rw [decide_eq_true (zQ (k := k) (by omega) (by omega) ‹_›)]
 replace h1 := xf h1
 refine qK (t_n (zcc (sp (.int .i64 0) (zjn (qM ?_)))))
 refine xQ (fun m' ρ w2 => ∃ (junk : Env) (k : Nat), ρ = upd (upd (upd junk 0 (.slice ax x.length cx)) 1 (.slice ay y.length cy)) 5 (.int .i64 k) ∧ (k ≤ x.length) ∧ (x.take k = y.take k) ∧ m' = x.length - k ∧ St w w2 [] [sF false Fx ax cx x, sF false Fy ay cy y]) (x.length - 0) ⟨_, 0, uE3, (by omega), (by rfl), rfl, H⟩ ?_
 clear H
 rintro m' ρ w3 ⟨junk, k, rfl, i0, i1, rfl, H⟩
 refine zcc (sps [.int .i64 k, .slice ax x.length cx] (oN rfl (sp (.bool (decide ((k : Int) < x.length))) (zjn (cD rfl (fun h4 => ?_) (fun h4 => ?_))))))
 ·skip
  refine qK (t_n (xC (qM (xC ?_))))
  refine vH rfl H fun H => rtp 0 (.slice ax x.length cx) H ?_
  refine rtp 1 (.int .i64 k) H ?_
  obtain ⟨b6, o7, rfl⟩ := H.addr 0 rfl (by omega)
  obtain ⟨ae8Alive, ce8Alive, Fe8Alive, ae8Bags, ce8Bags, Fe8Bags, ae8Around, ce8Around, Fe8Around, H⟩ := H.elem_StateD 0 rfl k k (by omega) (by omega) (by omega)
  refine tI 2 rfl rfl rfl (H.sel _ (.refl _) _ (fun _ h => List.mem_cons_of_mem _ (List.mem_cons_of_mem _ (List.mem_cons_of_mem _ (List.mem_cons_of_mem _ (h)))))) ?_
  refine rtp 4 (.slice ay y.length cy) (H.sel _ (.refl _) _ (fun _ h => List.mem_cons_of_mem _ (List.mem_cons_of_mem _ (List.mem_cons_of_mem _ (List.mem_cons_of_mem _ (h)))))) ?_
  refine rtp 5 (.int .i64 k) (H.sel _ (.refl _) _ (fun _ h => List.mem_cons_of_mem _ (List.mem_cons_of_mem _ (List.mem_cons_of_mem _ (List.mem_cons_of_mem _ (h)))))) ?_
  obtain ⟨b9, o10, rfl⟩ := H.addr 5 rfl (by omega)
  obtain ⟨ae11Alive, ce11Alive, Fe11Alive, ae11Bags, ce11Bags, Fe11Bags, ae11Around, ce11Around, Fe11Around, H⟩ := H.elem_StateD 5 rfl k k (by omega) (by omega) (by omega)
  refine tI 6 rfl rfl rfl (H.sel _ (.refl _) _ (fun _ h => List.mem_cons_of_mem _ (List.mem_cons_of_mem _ (List.mem_cons_of_mem _ (List.mem_cons_of_mem _ (List.mem_cons_of_mem _ (List.mem_cons_of_mem _ (List.mem_cons_of_mem _ (List.mem_cons_of_mem _ (h)))))))))) ?_
  refine vT [3, 7] (by kernel_rfl) (by simp) (yx rfl ?_ (yx rfl ?_ vU))
  ·skip
   refine xU [.slice ae8Alive (((x[k]!).qh).length) ce8Alive, .slice ae8Bags (((x[k]!).ql).length) ce8Bags, .slice ae8Around (((x[k]!).qj).length) ce8Around] Tryz.isAgg38 Tryz.sizeOf38 rfl (qw (H.get 7 rfl) 0 3) (⟨H.dF 8, (ro 7 rfl (xU [.slice ae11Alive (((y[k]!).qh).length) ce11Alive, .slice ae11Bags (((y[k]!).ql).length) ce11Bags, .slice ae11Around (((y[k]!).qj).length) ce11Around] Tryz.isAgg38 Tryz.sizeOf38 rfl (qw (H.get 3 rfl) 0 3) (⟨H.dF 8, (ro 8 rfl (oq (eqState_ok _ (x[k]!) (y[k]!) (H.get 4 rfl).1 (H.get 5 rfl).1 (H.get 6 rfl).1 (H.get 0 rfl).1 (H.get 1 rfl).1 (H.get 2 rfl).1) H fun w12 H => ⟨H.dF 8, ?_⟩))⟩)))⟩)
   refine rtp 9 (.bool (!(decide ((x[k]!) = (y[k]!))))) (H.sel _ (.refl _) _ (fun _ h => List.mem_cons_of_mem _ (List.mem_cons_of_mem _ (List.mem_cons_of_mem _ (List.mem_cons_of_mem _ (List.mem_cons_of_mem _ (List.mem_cons_of_mem _ (List.mem_cons_of_mem _ (List.mem_cons_of_mem _ (h)))))))))) ?_
   refine xy (by kernel_rfl) (t_n (xn (!(decide ((x[k]!) = (y[k]!)))) rfl (fun h14 => ?_) (fun h14 => ?_)))
   ·skip
    replace h14 := qW h14
    replace h14 := of_decide_eq_false h14
    refine zcr (sp (.bool false) (zjr (zr5 (ret1 (.bool false) rfl rfl ⟨_, rfl, ?_, H.base⟩))))
    first | rw [decide_eq_false (fun e => by subst e; omega)] | rw [decide_eq_false (zN (k := k) ‹_›)] | rw [decide_eq_true (zQ (k := k) (by omega) (by omega) ‹_›)]
   replace h14 := qQ h14
   replace h14 := of_decide_eq_true h14
   refine qK (b_n (t_n (xH (sp (.int .i64 k) (sw (xX k 1 rfl rfl (by omega) (sp (.int .i64 (k + 1)) (xG (qR (m' := x.length - (k + 1)) (by omega) ⟨_, k + 1, uE3, ?_, ?_, rfl, H.sel _ (.refl _) _ (by simp)⟩)))))))))
   · omega
   · exact Qj (by omega) (by omega) ‹_› (by first | assumption | omega)
  refine xU [.slice ae11Alive (((y[k]!).qh).length) ce11Alive, .slice ae11Bags (((y[k]!).ql).length) ce11Bags, .slice ae11Around (((y[k]!).qj).length) ce11Around] Tryz.isAgg38 Tryz.sizeOf38 rfl (qw (H.get 3 rfl) 0 3) (⟨H.dF 8, (ro 3 rfl (xU [.slice ae8Alive (((x[k]!).qh).length) ce8Alive, .slice ae8Bags (((x[k]!).ql).length) ce8Bags, .slice ae8Around (((x[k]!).qj).length) ce8Around] Tryz.isAgg38 Tryz.sizeOf38 rfl (qw (H.get 7 rfl) 0 3) (⟨H.dF 8, (ro 8 rfl (oq (eqState_ok _ (x[k]!) (y[k]!) (H.get 4 rfl).1 (H.get 5 rfl).1 (H.get 6 rfl).1 (H.get 0 rfl).1 (H.get 1 rfl).1 (H.get 2 rfl).1) H fun w15 H => ⟨H.dF 8, ?_⟩))⟩)))⟩)
  refine rtp 9 (.bool (!(decide ((x[k]!) = (y[k]!))))) (H.sel _ (.refl _) _ (fun _ h => List.mem_cons_of_mem _ (List.mem_cons_of_mem _ (List.mem_cons_of_mem _ (List.mem_cons_of_mem _ (List.mem_cons_of_mem _ (List.mem_cons_of_mem _ (List.mem_cons_of_mem _ (List.mem_cons_of_mem _ (h)))))))))) ?_
  refine xy (by kernel_rfl) (t_n (xn (!(decide ((x[k]!) = (y[k]!)))) rfl (fun h17 => ?_) (fun h17 => ?_)))
  ·skip
   replace h17 := qW h17
   replace h17 := of_decide_eq_false h17
   refine zcr (sp (.bool false) (zjr (zr5 (ret1 (.bool false) rfl rfl ⟨_, rfl, ?_, H.base⟩))))
   first | rw [decide_eq_false (fun e => by subst e; omega)] | rw [decide_eq_false (zN (k := k) ‹_›)] | rw [decide_eq_true (zQ (k := k) (by omega) (by omega) ‹_›)]
  replace h17 := qQ h17
  replace h17 := of_decide_eq_true h17
  refine qK (b_n (t_n (xH (sp (.int .i64 k) (sw (xX k 1 rfl rfl (by omega) (sp (.int .i64 (k + 1)) (xG (qR (m' := x.length - (k + 1)) (by omega) ⟨_, k + 1, uE3, ?_, ?_, rfl, H.sel _ (.refl _) _ (by simp)⟩)))))))))
  · omega
  · exact Qj (by omega) (by omega) ‹_› (by first | assumption | omega)
 refine zx4 (zcr (sp (.bool true) (zjr (ret1 (.bool true) rfl rfl ⟨_, rfl, ?_, H.base⟩))))
 first | rw [decide_eq_false (fun e => by subst e; omega)] | rw [decide_eq_false (zN (k := k) ‹_›)] | rw [decide_eq_true (zQ (k := k) (by omega) (by omega) ‹_›)]

theorem markStateS_ok (w : World) (x : List qE) (kk : Int) (ax : Option Addr) (cx : Nat) (Fx : List Nat) (hx : qB.rep w Fx [.slice ax x.length cx] x) (nd : Fx.Nodup) (fr : zC w Fx) (p0 : 0 ≤ kk) (p1 : kk + (cnt x : Nat) ≤ 4611686018427387904) : Calls Tryz.prog 30 #[.slice ax x.length cx, .int .i64 kk] w (RetM (fun v w' => v = .int .i64 (kk + (cnt x : Nat)) ∧ (isF true Fx (.slice ax x.length cx) (mrk x kk)).φ w') Fx w) := by
 refine en Tryz.func30 Tryz.ntmps30 ?_
 have H := St.start w
 replace H := H.add (sF true Fx ax cx x) ⟨hx, fun _ => fr.sub (by intro z hz; simp [hz])⟩ (VH hx)
 have nhx := qx hx
 clear hx
 have C : Chg Fx w w := Chg.refl _ _
 have N : ([Fx] : List (List Nat)).flatten.Nodup := by simpa using nd
 refine zcr (sp (.int .i64 0) (zjcc (sp (.int .i64 0) (zjn (qM ?_)))))
 replace H : St w w [] [isF true Fx (.slice ax x.length cx) (zO x kk 0)] := by rw [markTo_zero]; exact H
 refine xQ (fun m' ρ w1 => ∃ (junk : Env) (k : Nat) (r : Int) (W : World), ρ = upd (upd (upd (upd junk 0 (.slice ax x.length cx)) 1 (.int .i64 r)) 4 (.int .i64 0)) 5 (.int .i64 k) ∧ (k ≤ x.length) ∧ (r = kk + (X9 x k : Nat)) ∧ (Chg Fx w W) ∧ m' = x.length - k ∧ St W w1 [] [isF true Fx (.slice ax x.length cx) (zO x kk k)]) (x.length - 0) ⟨_, 0, kk, w, uE4, (by omega), (by exact (Int.add_zero _).symm), (by exact C), rfl, H⟩ ?_
 clear H
 rintro m' ρ w2 ⟨junk, k, r, W, rfl, i0, i1, C, rfl, H⟩
 have hc := fun h => cnt_get (l := x) (k := k) h
 refine zcc (sps [.int .i64 k, .slice ax x.length cx] (oN rfl (sp (.bool (decide ((k : Int) < x.length))) (zjn (cD rfl (fun h3 => ?_) (fun h3 => ?_))))))
 ·skip
  refine qK (t_n (xC (qM (zcr (sps [.slice ax x.length cx, .int .i64 k] ?_)))))
  obtain ⟨b4, o5, rfl⟩ := H.addr 0 rfl (by rw [zX _ _ (by omega)]; omega)
  obtain ⟨xs1, xs2, G1, G2, aqAlive, cqAlive, FqAlive, aqBags, cqBags, FqBags, aqAround, cqAround, FqAround, rfl, hx, H, N⟩ := H.open_StateD nd k (by rw [zX _ _ (by omega)]; omega) (markTo_get _ _ (by omega))
  refine oI rfl rfl (oF rfl (oL rfl (H.VL _ 0 hx rfl) (sp (.int .i64 r) (sw (Xb #[.slice aqAlive (((x[k]!).qh).length) cqAlive, .int .i64 r] rfl rfl Tryz.call70 (markBoolS_ok w2 ((x[k]!).qh) r aqAlive cqAlive FqAlive (H.get 1 rfl).1 (yI N 1 rfl) ((H.get 1 rfl).2 rfl) (by (have := hc (by omega); have e := yc (x[k]!); omega)) (by (have := hc (by omega); have e := yc (x[k]!); omega))) ?_)))))
  rintro _ w6 ⟨rfl, m10⟩ x8
  obtain ⟨W7, C9, H⟩ := H.chgAt N 1 rfl (isF true FqAlive (.slice aqAlive (((x[k]!).qh).length) cqAlive) (mrk ((x[k]!).qh) r)) rfl x8 m10
  replace C := C.trans (C9.mono (by intro z hz; have hz : z ∈ FqAlive := hz; simp [hz]))
  replace H : St _ _ _ [XE b4 o5 xs1 [.slice aqAlive (((x[k]!).qh).length) cqAlive, .slice aqBags (((x[k]!).ql).length) cqBags, .slice aqAround (((x[k]!).qj).length) cqAround] xs2 G1 G2 ((zO x kk k).take k) ((zO x kk k).drop (k + 1)), isF true FqAlive (.slice aqAlive (((x[k]!).qh).length) cqAlive) (mrk ((x[k]!).qh) r), sF true FqBags aqBags cqBags ((x[k]!).ql), sF true FqAround aqAround cqAround ((x[k]!).qj)] := H
  refine sp (.int .i64 (r + (cnt ((x[k]!).qh) : Nat))) (zjc (sps [.slice (aa b4 o5) x.length cx, .int .i64 k] (oI rfl rfl (oF rfl (oL rfl (H.VL _ 1 hx rfl) (sp (.int .i64 (r + (cnt ((x[k]!).qh) : Nat))) (sw (Xb #[.slice aqBags (((x[k]!).ql).length) cqBags, .int .i64 (r + (cnt ((x[k]!).qh) : Nat))] rfl rfl Tryz.call25 (markInt64SS_ok w6 ((x[k]!).ql) (r + (cnt ((x[k]!).qh) : Nat)) aqBags cqBags FqBags (H.get 2 rfl).1 (yI N 2 rfl) ((H.get 2 rfl).2 rfl) (by (have := hc (by omega); have e := yc (x[k]!); omega)) (by (have := hc (by omega); have e := yc (x[k]!); omega))) ?_))))))))
  rintro _ w11 ⟨rfl, m15⟩ x13
  obtain ⟨W12, C14, H⟩ := H.chgAt N 2 rfl (isF true FqBags (.slice aqBags (((x[k]!).ql).length) cqBags) (mrk ((x[k]!).ql) (r + (cnt ((x[k]!).qh) : Nat)))) rfl x13 m15
  replace C := C.trans (C14.mono (by intro z hz; have hz : z ∈ FqBags := hz; simp [hz]))
  replace H : St _ _ _ [XE b4 o5 xs1 [.slice aqAlive (((x[k]!).qh).length) cqAlive, .slice aqBags (((x[k]!).ql).length) cqBags, .slice aqAround (((x[k]!).qj).length) cqAround] xs2 G1 G2 ((zO x kk k).take k) ((zO x kk k).drop (k + 1)), isF true FqAlive (.slice aqAlive (((x[k]!).qh).length) cqAlive) (mrk ((x[k]!).qh) r), isF true FqBags (.slice aqBags (((x[k]!).ql).length) cqBags) (mrk ((x[k]!).ql) (r + (cnt ((x[k]!).qh) : Nat))), sF true FqAround aqAround cqAround ((x[k]!).qj)] := H
  refine sp (.int .i64 (r + (cnt ((x[k]!).qh) : Nat) + (cnt ((x[k]!).ql) : Nat))) (zjn (xH (sps [.slice (aa b4 o5) x.length cx, .int .i64 k] (oI rfl rfl (oF rfl (oL rfl (H.VL _ 2 hx rfl) (sp (.int .i64 (r + (cnt ((x[k]!).qh) : Nat) + (cnt ((x[k]!).ql) : Nat))) ?_)))))))
  refine sw (Xb #[.slice aqAround (((x[k]!).qj).length) cqAround, .int .i64 (r + (cnt ((x[k]!).qh) : Nat) + (cnt ((x[k]!).ql) : Nat))] rfl rfl Tryz.call68 (yS w11 ((x[k]!).qj) (r + (cnt ((x[k]!).qh) : Nat) + (cnt ((x[k]!).ql) : Nat)) aqAround cqAround FqAround (H.get 3 rfl).1 (yI N 3 rfl) ((H.get 3 rfl).2 rfl) (by (have := hc (by omega); have e := yc (x[k]!); omega)) (by (have := hc (by omega); have e := yc (x[k]!); omega))) ?_)
  rintro _ w16 ⟨rfl, m20⟩ x18
  obtain ⟨W17, C19, H⟩ := H.chgAt N 3 rfl (isF true FqAround (.slice aqAround (((x[k]!).qj).length) cqAround) (mrk ((x[k]!).qj) (r + (cnt ((x[k]!).qh) : Nat) + (cnt ((x[k]!).ql) : Nat)))) rfl x18 m20
  replace C := C.trans (C19.mono (by intro z hz; have hz : z ∈ FqAround := hz; simp [hz]))
  replace H : St _ _ _ [XE b4 o5 xs1 [.slice aqAlive (((x[k]!).qh).length) cqAlive, .slice aqBags (((x[k]!).ql).length) cqBags, .slice aqAround (((x[k]!).qj).length) cqAround] xs2 G1 G2 ((zO x kk k).take k) ((zO x kk k).drop (k + 1)), isF true FqAlive (.slice aqAlive (((x[k]!).qh).length) cqAlive) (mrk ((x[k]!).qh) r), isF true FqBags (.slice aqBags (((x[k]!).ql).length) cqBags) (mrk ((x[k]!).ql) (r + (cnt ((x[k]!).qh) : Nat))), isF true FqAround (.slice aqAround (((x[k]!).qj).length) cqAround) (mrk ((x[k]!).qj) (r + (cnt ((x[k]!).qh) : Nat) + (cnt ((x[k]!).ql) : Nat)))] := H
  refine sp (.int .i64 (r + (cnt ((x[k]!).qh) : Nat) + (cnt ((x[k]!).ql) : Nat) + (cnt ((x[k]!).qj) : Nat))) (xG (b_n (t_n (xH (sp (.int .i64 k) (sw (xX k 1 rfl rfl (by (have := hc (by omega); have e := yc (x[k]!); omega)) (sp (.int .i64 (k + 1)) (xG ?_)))))))))
  replace H := H.closeAt (y := mrk (x[k]!) r) (m := x.length) (c := cx) ⟨_, _, _, _, _, _, rfl, rfl, (H.get 1 rfl).1, (H.get 2 rfl).1, (H.get 3 rfl).1⟩ ((((H.get 1 rfl).2 rfl).app ((H.get 2 rfl).2 rfl)).app ((H.get 3 rfl).2 rfl)) (Xt (Xt (H.ltOwn 1 rfl) (H.ltOwn 2 rfl)) (H.ltOwn 3 rfl)) (zO x kk (k + 1)) (by subst i1; exact markTo_step _ _ (by omega)) (zX _ _ (by omega)) (by rw [zX _ _ (by omega)]; exact nhx)
  refine qR (m' := x.length - (k + 1)) (by omega) ⟨_, k + 1, r + (cnt ((x[k]!).qh) : Nat) + (cnt ((x[k]!).ql) : Nat) + (cnt ((x[k]!).qj) : Nat), W17, uE4, ?_, ?_, ?_, rfl, H⟩
  · omega
  · rw [yg]; have e := yc (x[k]!); omega
  · exact C
 refine zx4 (zcr (sps [.int .i64 r, .int .i64 r] (zjr ?_)))
 obtain rfl : k = x.length := by omega
 refine ret1 (.int .i64 r) rfl rfl ⟨_, rfl, ⟨?_, H.get 0 rfl⟩, C.trans (Chg.ofExt H.base)⟩
 first | rfl | (refine congrArg (Value.int .i64) ?_; rw [XQ]; omega)

theorem heldStateS_ok (w : World) (x : List qE) (kk : Int) (hx : qB.rep w Fx [.slice ax x.length cx] x) (m : mkd x kk) (p0 : 0 ≤ kk) (p1 : kk + (cnt x : Nat) ≤ 4611686018427387904) : Calls Tryz.prog 31 #[.slice ax x.length cx, .int .i64 kk] w (Ret (fun v w' => v = .int .i64 (kk + (cnt x : Nat))) w) := by
 refine en Tryz.func31 Tryz.ntmps31 ?_
 have H := (St.start w).arg hx
 have nhx := qx hx
 clear hx
 refine zcr (sp (.int .i64 0) (zjcc (sp (.int .i64 0) (zjn (qM ?_)))))
 refine xQ (fun m' ρ w1 => ∃ (junk : Env) (k : Nat) (r : Int), ρ = upd (upd (upd junk 0 (.slice ax x.length cx)) 1 (.int .i64 r)) 5 (.int .i64 k) ∧ (k ≤ x.length) ∧ (r = kk + (X9 x k : Nat)) ∧ m' = x.length - k ∧ St w w1 [] [sF false Fx ax cx x]) (x.length - 0) ⟨_, 0, kk, uE3, (by omega), (by exact (Int.add_zero _).symm), rfl, H⟩ ?_
 clear H
 rintro m' ρ w2 ⟨junk, k, r, rfl, i0, i1, rfl, H⟩
 have hc := fun h => cnt_get (l := x) (k := k) h
 refine zcc (sps [.int .i64 k, .slice ax x.length cx] (oN rfl (sp (.bool (decide ((k : Int) < x.length))) (zjn (cD rfl (fun h3 => ?_) (fun h3 => ?_))))))
 ·skip
  obtain ⟨m0, m1, m2⟩ := m k (by omega)
  rw [← i1] at m0
  rw [← i1] at m1
  rw [← i1] at m2
  refine qK (t_n (xC (qM (zcr (sps [.slice ax x.length cx, .int .i64 k] ?_)))))
  obtain ⟨b4, o5, rfl⟩ := H.addr 0 rfl (by omega)
  obtain ⟨ae6Alive, ce6Alive, Fe6Alive, ae6Bags, ce6Bags, Fe6Bags, ae6Around, ce6Around, Fe6Around, H⟩ := H.elem_StateD 0 rfl k k (by omega) (by omega) (by omega)
  refine oI rfl rfl (oF rfl (oL rfl (H.xB 3 rfl 0 rfl) (sp (.int .i64 r) (sw (oq (heldBoolS_ok _ ((x[k]!).qh) r (H.get 0 rfl).1 (by assumption) (by (have := hc (by omega); have e := yc (x[k]!); omega)) (by (have := hc (by omega); have e := yc (x[k]!); omega))) H fun w7 H => sp (.int .i64 (r + (cnt ((x[k]!).qh) : Nat))) (zjcc (sps [.int .i64 (r + (cnt ((x[k]!).qh) : Nat)), .bool (decide ((r + (cnt ((x[k]!).qh) : Nat) : Int) < 0))] (zjn (cD rfl (fun h9 => ?_) (fun h9 => ?_))))))))))
  ·skip
   refine zcr (sp (.int .i64 (-1)) (zjr (t_r (zr5 (ret1 (.int .i64 (-1)) rfl rfl ⟨_, rfl, ?_, H.base⟩)))))
   exfalso; first | omega | (exact absurd ‹_› ‹¬ _›) | simp_all
  refine qK (t_n (zcr (sps [.slice (aa b4 o5) x.length cx, .int .i64 k] (oI rfl rfl (oF rfl (oL rfl (H.xB 3 rfl 1 rfl) (sp (.int .i64 (r + (cnt ((x[k]!).qh) : Nat))) (sw (oq (heldInt64SS_ok _ ((x[k]!).ql) (r + (cnt ((x[k]!).qh) : Nat)) (H.get 1 rfl).1 (by assumption) (by (have := hc (by omega); have e := yc (x[k]!); omega)) (by (have := hc (by omega); have e := yc (x[k]!); omega))) H fun w10 H => sp (.int .i64 ((r + (cnt ((x[k]!).qh) : Nat)) + (cnt ((x[k]!).ql) : Nat))) (zjcc ?_))))))))))
  refine sps [.int .i64 ((r + (cnt ((x[k]!).qh) : Nat)) + (cnt ((x[k]!).ql) : Nat)), .bool (decide (((r + (cnt ((x[k]!).qh) : Nat)) + (cnt ((x[k]!).ql) : Nat) : Int) < 0))] (zjn (cD rfl (fun h12 => ?_) (fun h12 => ?_)))
  ·skip
   refine zcr (sp (.int .i64 (-1)) (zjr (t_r (zr5 (ret1 (.int .i64 (-1)) rfl rfl ⟨_, rfl, ?_, H.base⟩)))))
   exfalso; first | omega | (exact absurd ‹_› ‹¬ _›) | simp_all
  refine qK (t_n (zcr (sps [.slice (aa b4 o5) x.length cx, .int .i64 k] (oI rfl rfl (oF rfl (oL rfl (H.xB 3 rfl 2 rfl) (sp (.int .i64 ((r + (cnt ((x[k]!).qh) : Nat)) + (cnt ((x[k]!).ql) : Nat))) (sw (oq (heldInt64S_ok _ ((x[k]!).qj) ((r + (cnt ((x[k]!).qh) : Nat)) + (cnt ((x[k]!).ql) : Nat)) (H.get 2 rfl).1 (by assumption) (by (have := hc (by omega); have e := yc (x[k]!); omega)) (by (have := hc (by omega); have e := yc (x[k]!); omega))) H fun w13 H => sp (.int .i64 (((r + (cnt ((x[k]!).qh) : Nat)) + (cnt ((x[k]!).ql) : Nat)) + (cnt ((x[k]!).qj) : Nat))) (zjc ?_))))))))))
  refine sps [.int .i64 (((r + (cnt ((x[k]!).qh) : Nat)) + (cnt ((x[k]!).ql) : Nat)) + (cnt ((x[k]!).qj) : Nat)), .bool (decide ((((r + (cnt ((x[k]!).qh) : Nat)) + (cnt ((x[k]!).ql) : Nat)) + (cnt ((x[k]!).qj) : Nat) : Int) < 0))] (zjn (cD rfl (fun h15 => ?_) (fun h15 => ?_)))
  ·skip
   refine zcr (sp (.int .i64 (-1)) (zjr (zr5 (ret1 (.int .i64 (-1)) rfl rfl ⟨_, rfl, ?_, H.base⟩))))
   exfalso; first | omega | (exact absurd ‹_› ‹¬ _›) | simp_all
  refine qK (b_n (t_n (xH (sp (.int .i64 k) (sw (xX k 1 rfl rfl (by (have := hc (by omega); have e := yc (x[k]!); omega)) (sp (.int .i64 (k + 1)) (xG (qR (m' := x.length - (k + 1)) (by omega) ⟨_, k + 1, ((r + (cnt ((x[k]!).qh) : Nat)) + (cnt ((x[k]!).ql) : Nat)) + (cnt ((x[k]!).qj) : Nat), uE3, ?_, ?_, rfl, H.sel _ (.refl _) _ (by simp)⟩)))))))))
  · omega
  · rw [yg]; have e := yc (x[k]!); omega
 refine zx4 (zcr (sps [.int .i64 r, .int .i64 r] (zjr (ret1 (.int .i64 r) rfl rfl ⟨_, rfl, ?_, H.base⟩))))
 first | rfl | (refine congrArg (Value.int .i64) ?_; obtain rfl : k = x.length := (by omega); exact i1)
theorem l00Same_ok (w : World) (a : List Int) (b : List Int) (ha : qB.rep w Fa [.slice aa a.length ca] a) (hb : qB.rep w Fb [.slice ab b.length cb] b) : Calls Tryz.prog 128 #[.slice aa a.length ca, .slice ab b.length cb] w (Ret (fun v w' => v = .bool (decide (a = b))) w) := by
 refine en Tryz.func128 Tryz.ntmps128 ?_
 have H := ((St.start w).arg hb).arg ha
 have nha := qx ha
 have nhb := qx hb
 clear ha hb
 have N := Fresh.nil w.heap.size
 refine zcr (sp (.bool false) (zjcc (sp (.slice aa a.length ca) (oN rfl (sp (.slice ab b.length cb) (oN rfl (sp (.bool ((a.length : Int) != b.length)) (zjn (xn ((a.length : Int) != b.length) rfl (fun h1 => ?_) (fun h1 => ?_))))))))))
 ·skip
  replace h1 := bne_iff_ne.1 h1
  refine zcr (sp (.bool false) (zjr (t_r (ret1 (.bool false) rfl rfl ⟨_, rfl, ?_, H.base⟩))))
  first | rw [decide_eq_false (fun e => by subst e; omega)] | rw [decide_eq_false (zN (k := i) ‹_›)] | rw [decide_eq_false (zN (k := i) (by simpa using ‹_›))]
 replace h1 := xf h1
 refine qK (t_n (zcc (sp (.int .i64 0) (zjn (qM ?_)))))
 refine xQ (fun m' ρ w2 => ∃ (junk : Env) (i : Nat), ρ = upd (upd (upd junk 0 (.slice aa a.length ca)) 1 (.slice ab b.length cb)) 5 (.int .i64 i) ∧ ((i : Int) ≤ a.length) ∧ (a.take i = b.take i) ∧ m' = (a.length - (i : Int)).toNat ∧ Fresh w.heap.size [] ∧ St w w2 [] [sF false Fa aa ca a, sF false Fb ab cb b]) ((a.length - (0 : Int)).toNat) ⟨_, 0, uE3, (by omega), (by rfl), rfl, N, H⟩ ?_
 clear H N
 rintro m' ρ w3 ⟨junk, i, rfl, i0, i1, rfl, N, H⟩
 refine zcc (sps [.int .i64 i, .slice aa a.length ca] (oN rfl (sp (.bool (decide ((i : Int) < a.length))) (zjn (cD rfl (fun h4 => ?_) (fun h4 => ?_))))))
 ·skip
  refine qK (t_n (xC (qM (xC ?_))))
  refine vH rfl H fun H => rtp 0 (.slice aa a.length ca) H ?_
  refine rtp 1 (.int .i64 i) H ?_
  obtain ⟨b6, o7, rfl⟩ := H.addr 0 rfl (by omega)
  refine tI 2 rfl rfl rfl H ?_
  refine tL 3 rfl rfl (fun _ h => h.jA 0 rfl i (by omega)) H ?_
  refine rtp 4 (.slice ab b.length cb) H ?_
  refine rtp 5 (.int .i64 i) H ?_
  obtain ⟨b9, o10, rfl⟩ := H.addr 1 rfl (by omega)
  refine tI 6 rfl rfl rfl H ?_
  refine tL 7 rfl rfl (fun _ h => h.jA 1 rfl i (by omega)) H ?_
  refine rtp 8 (.bool ((a[i]! : Int) != (b[i]!))) H ?_
  refine xy (by kernel_rfl) (t_n (xn ((a[i]! : Int) != (b[i]!)) rfl (fun h12 => ?_) (fun h12 => ?_)))
  ·skip
   replace h12 := bne_iff_ne.1 h12
   refine zcr (sp (.bool false) (zjr (zr5 (ret1 (.bool false) rfl rfl ⟨_, rfl, ?_, H.base⟩))))
   first | rw [decide_eq_false (fun e => by subst e; omega)] | rw [decide_eq_false (zN (k := i) ‹_›)] | rw [decide_eq_false (zN (k := i) (by simpa using ‹_›))]
  replace h12 := xf h12
  refine qK (b_n (t_n (xH (sp (.int .i64 i) (sw (xX i 1 rfl rfl (by omega) (sp (.int .i64 (i + 1)) (xG (qR (m' := (a.length - ((i + 1) : Int)).toNat) (by omega) ⟨_, i + 1, uE3, ?_, ?_, rfl, N, H⟩)))))))))
  · omega
  · exact Qj (by omega) (by omega) i1 (by first | assumption | omega)
 refine zx4 (zcr (sp (.bool true) (zjr (ret1 (.bool true) rfl rfl ⟨_, rfl, ?_, H.base⟩))))
 rw [decide_eq_true (zQ (k := i) (by omega) (by omega) i1)]

theorem equalI_ok (w : World) (a : List Int) (b : List Int) (ha : qB.rep w Fa [.slice aa a.length ca] a) (hb : qB.rep w Fb [.slice ab b.length cb] b) : Calls Tryz.prog 96 #[.slice aa a.length ca, .slice ab b.length cb] w (Ret (fun v w' => v = .bool (decide (a = b))) w) := by
 refine en Tryz.func96 Tryz.ntmps96 ?_
 have H := ((St.start w).arg hb).arg ha
 have nha := qx ha
 have nhb := qx hb
 clear ha hb
 have N := Fresh.nil w.heap.size
 refine zcr (sp (.bool false) (zjcc (sp (.slice aa a.length ca) (oN rfl (sp (.slice ab b.length cb) (oN rfl (sp (.bool ((a.length : Int) != b.length)) (zjn (xn ((a.length : Int) != b.length) rfl (fun h1 => ?_) (fun h1 => ?_))))))))))
 ·skip
  replace h1 := bne_iff_ne.1 h1
  refine zcr (sp (.bool false) (zjr (t_r (ret1 (.bool false) rfl rfl ⟨_, rfl, ?_, H.base⟩))))
  first | rw [decide_eq_false (fun e => by subst e; omega)] | rw [decide_eq_false (zN (k := i) ‹_›)] | rw [decide_eq_false (zN (k := i) (by simpa using ‹_›))]
 replace h1 := xf h1
 refine qK (t_n (zcc (sp (.slice aa a.length ca) (oN rfl (sp (.int .i64 0) (zjn (qM ?_)))))))
 refine xQ (fun m' ρ w2 => ∃ (junk : Env) (i : Nat), ρ = upd (upd (upd (upd junk 0 (.slice aa a.length ca)) 1 (.slice ab b.length cb)) 12 (.int .i64 a.length)) 13 (.int .i64 i) ∧ ((i : Int) ≤ a.length) ∧ (a.take i = b.take i) ∧ m' = (a.length - (i : Int)).toNat ∧ Fresh w.heap.size [] ∧ St w w2 [] [sF false Fa aa ca a, sF false Fb ab cb b]) ((a.length - (0 : Int)).toNat) ⟨_, 0, uE4, (by omega), (by rfl), rfl, N, H⟩ ?_
 clear H N
 rintro m' ρ w3 ⟨junk, i, rfl, i0, i1, rfl, N, H⟩
 refine zcr (sp (.bool (decide ((i : Int) < a.length))) (zjn (xC (cD rfl (fun h4 => ?_) (fun h4 => ?_)))))
 ·skip
  refine qK (t_n (xC (qM (zcr (sps [.int .i64 i, .int .i64 i] (zjn (xC ?_)))))))
  refine vH rfl H fun H => rtp 0 (.slice aa a.length ca) H ?_
  refine rtp 1 (.int .i64 i) H ?_
  obtain ⟨b6, o7, rfl⟩ := H.addr 0 rfl (by omega)
  refine tI 2 rfl rfl rfl H ?_
  refine tL 3 rfl rfl (fun _ h => h.jA 0 rfl i (by omega)) H ?_
  refine rtp 4 (.slice ab b.length cb) H ?_
  refine rtp 5 (.int .i64 i) H ?_
  obtain ⟨b9, o10, rfl⟩ := H.addr 1 rfl (by omega)
  refine tI 6 rfl rfl rfl H ?_
  refine tL 7 rfl rfl (fun _ h => h.jA 1 rfl i (by omega)) H ?_
  refine rtp 8 (.bool ((a[i]! : Int) != (b[i]!))) H ?_
  refine xy (by kernel_rfl) (t_n (xn ((a[i]! : Int) != (b[i]!)) rfl (fun h12 => ?_) (fun h12 => ?_)))
  ·skip
   replace h12 := bne_iff_ne.1 h12
   refine zcr (sp (.bool false) (zjr (zr5 (ret1 (.bool false) rfl rfl ⟨_, rfl, ?_, H.base⟩))))
   first | rw [decide_eq_false (fun e => by subst e; omega)] | rw [decide_eq_false (zN (k := i) ‹_›)] | rw [decide_eq_false (zN (k := i) (by simpa using ‹_›))]
  replace h12 := xf h12
  refine qK (b_n (t_n (xH (sw (xX i 1 rfl rfl (by omega) (sp (.int .i64 (i + 1)) (xG (qR (m' := (a.length - ((i + 1) : Int)).toNat) (by omega) ⟨_, i + 1, uE4, ?_, ?_, rfl, N, H⟩))))))))
  · omega
  · exact Qj (by omega) (by omega) i1 (by first | assumption | omega)
 refine zx4 (zcr (sp (.bool true) (zjr (ret1 (.bool true) rfl rfl ⟨_, rfl, ?_, H.base⟩))))
 rw [decide_eq_true (zQ (k := i) (by omega) (by omega) i1)]

theorem equalB_ok (w : World) (a : List Bool) (b : List Bool) (ha : qB.rep w Fa [.slice aa a.length ca] a) (hb : qB.rep w Fb [.slice ab b.length cb] b) : Calls Tryz.prog 148 #[.slice aa a.length ca, .slice ab b.length cb] w (Ret (fun v w' => v = .bool (decide (a = b))) w) := by
 refine en Tryz.func148 Tryz.ntmps148 ?_
 have H := ((St.start w).arg hb).arg ha
 have nha := qx ha
 have nhb := qx hb
 clear ha hb
 have N := Fresh.nil w.heap.size
 refine zcr (sp (.bool false) (zjcc (sp (.slice aa a.length ca) (oN rfl (sp (.slice ab b.length cb) (oN rfl (sp (.bool ((a.length : Int) != b.length)) (zjn (xn ((a.length : Int) != b.length) rfl (fun h1 => ?_) (fun h1 => ?_))))))))))
 ·skip
  replace h1 := bne_iff_ne.1 h1
  refine zcr (sp (.bool false) (zjr (t_r (ret1 (.bool false) rfl rfl ⟨_, rfl, ?_, H.base⟩))))
  first | rw [decide_eq_false (fun e => by subst e; omega)] | rw [decide_eq_false (zN (k := i) ‹_›)] | rw [decide_eq_false (zN (k := i) (by simpa using ‹_›))]
 replace h1 := xf h1
 refine qK (t_n (zcc (sp (.slice aa a.length ca) (oN rfl (sp (.int .i64 0) (zjn (qM ?_)))))))
 refine xQ (fun m' ρ w2 => ∃ (junk : Env) (i : Nat), ρ = upd (upd (upd (upd junk 0 (.slice aa a.length ca)) 1 (.slice ab b.length cb)) 12 (.int .i64 a.length)) 13 (.int .i64 i) ∧ ((i : Int) ≤ a.length) ∧ (a.take i = b.take i) ∧ m' = (a.length - (i : Int)).toNat ∧ Fresh w.heap.size [] ∧ St w w2 [] [sF false Fa aa ca a, sF false Fb ab cb b]) ((a.length - (0 : Int)).toNat) ⟨_, 0, uE4, (by omega), (by rfl), rfl, N, H⟩ ?_
 clear H N
 rintro m' ρ w3 ⟨junk, i, rfl, i0, i1, rfl, N, H⟩
 refine zcr (sp (.bool (decide ((i : Int) < a.length))) (zjn (xC (cD rfl (fun h4 => ?_) (fun h4 => ?_)))))
 ·skip
  refine qK (t_n (xC (qM (zcr (sps [.int .i64 i, .int .i64 i] (zjn (xC ?_)))))))
  refine vH rfl H fun H => rtp 0 (.slice aa a.length ca) H ?_
  refine rtp 1 (.int .i64 i) H ?_
  obtain ⟨b6, o7, rfl⟩ := H.addr 0 rfl (by omega)
  refine tI 2 rfl rfl rfl H ?_
  refine tL 3 rfl rfl (fun _ h => h.elemBoolN 0 rfl i (by omega)) H ?_
  refine rtp 4 (.slice ab b.length cb) H ?_
  refine rtp 5 (.int .i64 i) H ?_
  obtain ⟨b9, o10, rfl⟩ := H.addr 1 rfl (by omega)
  refine tI 6 rfl rfl rfl H ?_
  refine tL 7 rfl rfl (fun _ h => h.elemBoolN 1 rfl i (by omega)) H ?_
  refine rt 8 (.bool ((a[i]!) != (b[i]!))) (y_neB Tryz.underlying4 (a[i]!) (b[i]!) rfl rfl) H ?_
  refine xy (by kernel_rfl) (t_n (xn ((a[i]!) != (b[i]!)) rfl (fun h12 => ?_) (fun h12 => ?_)))
  ·skip
   replace h12 := bne_iff_ne.1 h12
   refine zcr (sp (.bool false) (zjr (zr5 (ret1 (.bool false) rfl rfl ⟨_, rfl, ?_, H.base⟩))))
   first | rw [decide_eq_false (fun e => by subst e; omega)] | rw [decide_eq_false (zN (k := i) ‹_›)] | rw [decide_eq_false (zN (k := i) (by simpa using ‹_›))]
  replace h12 := xf h12
  refine qK (b_n (t_n (xH (sw (xX i 1 rfl rfl (by omega) (sp (.int .i64 (i + 1)) (xG (qR (m' := (a.length - ((i + 1) : Int)).toNat) (by omega) ⟨_, i + 1, uE4, ?_, ?_, rfl, N, H⟩))))))))
  · omega
  · exact Qj (by omega) (by omega) i1 (by first | assumption | omega)
 refine zx4 (zcr (sp (.bool true) (zjr (ret1 (.bool true) rfl rfl ⟨_, rfl, ?_, H.base⟩))))
 rw [decide_eq_true (zQ (k := i) (by omega) (by omega) i1)]

theorem l02Same_ok (w : World) (a : qE) (b : qE) {ba oa : Nat} {bb ob : Nat} (ha : zK w ba oa [.slice aaAlive a.qh.length caAlive, .slice aaBags a.ql.length caBags, .slice Xz a.qj.length Xv]) (haAlive : qB.rep w FaAlive [.slice aaAlive a.qh.length caAlive] a.qh) (haBags : qB.rep w FaBags [.slice aaBags a.ql.length caBags] a.ql) (haAround : qB.rep w FaAround [.slice Xz a.qj.length Xv] a.qj) (hb : zK w bb ob [.slice abAlive b.qh.length cbAlive, .slice abBags b.ql.length cbBags, .slice Xy b.qj.length Xu]) (hbAlive : qB.rep w FbAlive [.slice abAlive b.qh.length cbAlive] b.qh) (hbBags : qB.rep w FbBags [.slice abBags b.ql.length cbBags] b.ql) (hbAround : qB.rep w FbAround [.slice Xy b.qj.length Xu] b.qj) : Calls Tryz.prog 114 #[pp ba oa, pp bb ob] w (Ret (fun v w' => v = .bool (decide (a = b))) w) := by
 refine en Tryz.func114 Tryz.ntmps114 ?_
 have H := ((((((((St.start w).arg hbAround).arg hbBags).arg hbAlive).XX hb).arg haAround).arg haBags).arg haAlive).XX ha
 have nhaAlive := qx haAlive
 have nhaBags := qx haBags
 have nhaAround := qx haAround
 have nhbAlive := qx hbAlive
 have nhbBags := qx hbBags
 have nhbAround := qx hbAround
 clear ha haAlive haBags haAround hb hbAlive hbBags hbAround
 have N := Fresh.nil w.heap.size
 refine zcr (sp (.bool false) (zjn (xC (xC ?_))))
 refine vH rfl H fun H => rtp 0 (pp ba oa) H ?_
 refine rtp 1 (pp ba oa) H ?_
 refine tF 2 rfl rfl H ?_
 refine tL 3 rfl rfl (fun _ h => h.xB 0 rfl 0 rfl) H ?_
 refine tN 4 rfl rfl H ?_
 refine rtp 5 (pp bb ob) H ?_
 refine rtp 6 (pp bb ob) H ?_
 refine tF 7 rfl rfl H ?_
 refine tL 8 rfl rfl (fun _ h => h.xB 4 rfl 0 rfl) H ?_
 refine tN 9 rfl rfl H ?_
 refine rtp 10 (.bool ((a.qh.length : Int) != b.qh.length)) H ?_
 refine rtp 11 (.bool ((a.qh.length : Int) != b.qh.length)) H ?_
 cases h2 : ((a.qh.length : Int) != b.qh.length)
 ·skip
  replace h2 := xf h2
  refine rgp 12 (pp ba oa) 18 H ?_
  refine rgp 13 (pp ba oa) 18 H ?_
  refine gF 14 rfl rfl H ?_
  refine gL 15 rfl rfl (fun _ h => h.xB 0 rfl 1 rfl) H ?_
  refine gN 16 rfl rfl H ?_
  refine rgp 17 (pp bb ob) 18 H ?_
  refine rgp 18 (pp bb ob) 18 H ?_
  refine gF 19 rfl rfl H ?_
  refine gL 20 rfl rfl (fun _ h => h.xB 4 rfl 1 rfl) H ?_
  refine gN 21 rfl rfl H ?_
  refine rgp 22 (.bool ((a.ql.length : Int) != b.ql.length)) 18 H ?_
  refine rtp 23 (.bool ((a.ql.length : Int) != b.ql.length)) H ?_
  refine rtp 24 (.bool ((a.ql.length : Int) != b.ql.length)) H ?_
  cases h3 : ((a.ql.length : Int) != b.ql.length)
  ·skip
   replace h3 := xf h3
   refine rgp 25 (pp ba oa) 31 H ?_
   refine rgp 26 (pp ba oa) 31 H ?_
   refine gF 27 rfl rfl H ?_
   refine gL 28 rfl rfl (fun _ h => h.xB 0 rfl 2 rfl) H ?_
   refine rgp 29 (pp bb ob) 31 H ?_
   refine rgp 30 (pp bb ob) 31 H ?_
   refine gF 31 rfl rfl H ?_
   refine gL 32 rfl rfl (fun _ h => h.xB 4 rfl 2 rfl) H ?_
   refine vT [33] (by kernel_rfl) (by simp) (r_opG rfl (e := 31) rfl rfl (oq (l00Same_ok _ a.qj b.qj (H.get 3 rfl).1 (H.get 7 rfl).1) H fun w5 H => ⟨H, (rgp 34 (.bool (!(decide (a.qj = b.qj)))) 31 H ?_)⟩) vU)
   refine rtp 35 (.bool (!(decide (a.qj = b.qj)))) H ?_
   refine xy (by kernel_rfl) (t_n (xn (!(decide (a.qj = b.qj))) rfl (fun h7 => ?_) (fun h7 => ?_)))
   ·skip
    replace h7 := qW h7
    replace h7 := of_decide_eq_false h7
    refine zcr (sp (.bool false) (zjr (t_r (ret1 (.bool false) rfl rfl ⟨_, rfl, ?_, H.base⟩))))
    rw [decide_eq_false (fun e => by subst e; first | omega | exact absurd rfl (by assumption) | simp_all)]
   replace h7 := qQ h7
   replace h7 := of_decide_eq_true h7
   refine qK (t_n (zcc (sp (.int .i64 0) (zjn (qM ?_)))))
   refine xQ (fun m' ρ w8 => ∃ (junk : Env) (c : Nat), ρ = upd (upd (upd junk 0 (pp ba oa)) 1 (pp bb ob)) 5 (.int .i64 c) ∧ ((c : Int) ≤ a.qh.length) ∧ (a.qh.take c = b.qh.take c) ∧ m' = (a.qh.length - (c : Int)).toNat ∧ Fresh w.heap.size [] ∧ St w w8 [] [atF ba oa [.slice aaAlive a.qh.length caAlive, .slice aaBags a.ql.length caBags, .slice Xz a.qj.length Xv], sF false FaAlive aaAlive caAlive a.qh, sF false FaBags aaBags caBags a.ql, sF false FaAround Xz Xv a.qj, atF bb ob [.slice abAlive b.qh.length cbAlive, .slice abBags b.ql.length cbBags, .slice Xy b.qj.length Xu], sF false FbAlive abAlive cbAlive b.qh, sF false FbBags abBags cbBags b.ql, sF false FbAround Xy Xu b.qj]) ((a.qh.length - (0 : Int)).toNat) ⟨_, 0, uE3, (by omega), (by rfl), rfl, N, H⟩ ?_
   clear H N
   rintro m' ρ w9 ⟨junk, c, rfl, i0, i1, rfl, N, H⟩
   refine zcc (sps [.int .i64 c, pp ba oa, pp ba oa] (oF rfl (oL rfl (H.xB 0 rfl 0 rfl) (oN rfl (sp (.bool (decide ((c : Int) < a.qh.length))) (zjn (cD rfl (fun h10 => ?_) (fun h10 => ?_))))))))
   ·skip
    refine qK (t_n (xC (qM (xC ?_))))
    refine vH rfl H fun H => rtp 0 (pp ba oa) H ?_
    refine rtp 1 (pp ba oa) H ?_
    refine tF 2 rfl rfl H ?_
    refine tL 3 rfl rfl (fun _ h => h.xB 0 rfl 0 rfl) H ?_
    refine rtp 4 (.int .i64 c) H ?_
    obtain ⟨b12, o13, rfl⟩ := H.addr 1 rfl (by omega)
    refine tI 5 rfl rfl rfl H ?_
    refine tL 6 rfl rfl (fun _ h => h.elemBoolN 1 rfl c (by omega)) H ?_
    refine rtp 7 (pp bb ob) H ?_
    refine rtp 8 (pp bb ob) H ?_
    refine tF 9 rfl rfl H ?_
    refine tL 10 rfl rfl (fun _ h => h.xB 4 rfl 0 rfl) H ?_
    refine rtp 11 (.int .i64 c) H ?_
    obtain ⟨b15, o16, rfl⟩ := H.addr 5 rfl (by omega)
    refine tI 12 rfl rfl rfl H ?_
    refine tL 13 rfl rfl (fun _ h => h.elemBoolN 5 rfl c (by omega)) H ?_
    refine rt 14 (.bool ((a.qh[c]!) != (b.qh[c]!))) (y_neB Tryz.underlying4 (a.qh[c]!) (b.qh[c]!) rfl rfl) H ?_
    refine xy (by kernel_rfl) (t_n (xn ((a.qh[c]!) != (b.qh[c]!)) rfl (fun h18 => ?_) (fun h18 => ?_)))
    ·skip
     replace h18 := bne_iff_ne.1 h18
     refine zcr (sp (.bool false) (zjr (zr5 (ret1 (.bool false) rfl rfl ⟨_, rfl, ?_, H.base⟩))))
     rw [decide_eq_false (fun e => by subst e; first | omega | exact absurd rfl (by assumption) | simp_all)]
    replace h18 := xf h18
    refine qK (b_n (t_n (xH (sp (.int .i64 c) (sw (xX c 1 rfl rfl (by omega) (sp (.int .i64 (c + 1)) (xG (qR (m' := (a.qh.length - ((c + 1) : Int)).toNat) (by omega) ⟨_, c + 1, uE3, ?_, ?_, rfl, N, H⟩)))))))))
    · omega
    · exact Qj (by omega) (by omega) i1 (by first | assumption | omega)
   refine zx4 (zcc (sp (.int .i64 0) (zjn (qM ?_))))
   refine xQ (fun m' ρ w19 => ∃ (junk : Env) (c_1 : Nat), ρ = upd (upd (upd junk 0 (pp ba oa)) 1 (pp bb ob)) 6 (.int .i64 c_1) ∧ ((c_1 : Int) ≤ a.ql.length) ∧ (a.ql.take c_1 = b.ql.take c_1) ∧ m' = (a.ql.length - (c_1 : Int)).toNat ∧ Fresh w.heap.size [] ∧ St w w19 [] [atF ba oa [.slice aaAlive a.qh.length caAlive, .slice aaBags a.ql.length caBags, .slice Xz a.qj.length Xv], sF false FaAlive aaAlive caAlive a.qh, sF false FaBags aaBags caBags a.ql, sF false FaAround Xz Xv a.qj, atF bb ob [.slice abAlive b.qh.length cbAlive, .slice abBags b.ql.length cbBags, .slice Xy b.qj.length Xu], sF false FbAlive abAlive cbAlive b.qh, sF false FbBags abBags cbBags b.ql, sF false FbAround Xy Xu b.qj]) ((a.ql.length - (0 : Int)).toNat) ⟨_, 0, uE3, (by omega), (by rfl), rfl, N, H⟩ ?_
   clear H N
   rintro m' ρ w20 ⟨junk, c_1, rfl, i0, i2, rfl, N, H⟩
   refine zcc (sps [.int .i64 c_1, pp ba oa, pp ba oa] (oF rfl (oL rfl (H.xB 0 rfl 1 rfl) (oN rfl (sp (.bool (decide ((c_1 : Int) < a.ql.length))) (zjn (cD rfl (fun h21 => ?_) (fun h21 => ?_))))))))
   ·skip
    refine qK (t_n (xC (qM (xC ?_))))
    obtain ⟨b22, o23, rfl⟩ := H.addr 2 rfl (by omega)
    obtain ⟨b25, o26, rfl⟩ := H.addr 6 rfl (by omega)
    refine c_cut (fun ρ w34 => ∃ (junk : Env) (F28 : List Nat) (a29 : Option Addr) (c30 : Nat) (F31 : List Nat) (a32 : Option Addr) (c33 : Nat), ρ = upd (upd (upd (upd junk 0 (pp ba oa)) 1 (pp bb ob)) 6 (.int .i64 c_1)) 91 (.bool (!(decide ((a.ql[c_1]!) = (b.ql[c_1]!))))) ∧ Fresh w.heap.size [] ∧ St w w34 [] [sF false F28 a29 c30 (b.ql[c_1]!), atF b25 (o26 + (c_1 : Int).toNat * 1) [.slice a29 ((b.ql[c_1]!).length) c30], sF false F31 a32 c33 (a.ql[c_1]!), atF b22 (o23 + (c_1 : Int).toNat * 1) [.slice a32 ((a.ql[c_1]!).length) c33], atF ba oa [.slice aaAlive a.qh.length caAlive, .slice (aa b22 o23) a.ql.length caBags, .slice Xz a.qj.length Xv], sF false FaAlive aaAlive caAlive a.qh, sF false FaBags (aa b22 o23) caBags a.ql, sF false FaAround Xz Xv a.qj, atF bb ob [.slice abAlive b.qh.length cbAlive, .slice (aa b25 o26) b.ql.length cbBags, .slice Xy b.qj.length Xu], sF false FbAlive abAlive cbAlive b.qh, sF false FbBags (aa b25 o26) cbBags b.ql, sF false FbAround Xy Xu b.qj]) ?_ ?_
    ·skip
     refine vH rfl H fun H => rtp 0 (pp ba oa) H ?_
     refine rtp 1 (pp ba oa) H ?_
     refine tF 2 rfl rfl H ?_
     refine tL 3 rfl rfl (fun _ h => h.xB 0 rfl 1 rfl) H ?_
     refine rtp 4 (.int .i64 c_1) H ?_
     obtain ⟨ae36, ce36, Fe36, H⟩ := H.zU 2 rfl c_1 c_1 (by omega) (by omega) (by omega)
     have S := H.jZ [] [2, 3, 4, 5, 6, 7, 8, 9]
     refine tI 5 rfl rfl rfl S ?_
     refine rtp 7 (pp bb ob) S ?_
     refine rtp 8 (pp bb ob) S ?_
     refine tF 9 rfl rfl S ?_
     refine tL 10 rfl rfl (fun _ h => h.xB 4 rfl 1 rfl) S ?_
     refine rtp 11 (.int .i64 c_1) S ?_
     obtain ⟨ae37, ce37, Fe37, H⟩ := H.zU 8 rfl c_1 c_1 (by omega) (by omega) (by omega)
     refine tI 12 rfl rfl rfl (H.pick [] [4, 5, 6, 7, 8, 9, 10, 11]) ?_
     refine vT [6, 13] (by kernel_rfl) (by simp) (yx rfl ?_ (yx rfl ?_ vU))
     ·skip
      refine zl (.slice ae36 ((a.ql[c_1]!).length) ce36) Tryz.isAgg22 rfl (H.xB 3 rfl 0 rfl) (⟨H.pick [] [4, 5, 6, 7, 8, 9, 10, 11], (ro 13 rfl (zl (.slice ae37 ((b.ql[c_1]!).length) ce37) Tryz.isAgg22 rfl (H.xB 1 rfl 0 rfl) (⟨H.pick [] [4, 5, 6, 7, 8, 9, 10, 11], (ro 14 rfl (oq (l00Same_ok _ (a.ql[c_1]!) (b.ql[c_1]!) (H.get 2 rfl).1 (H.get 0 rfl).1) H fun w39 H => ⟨H.pick [] [4, 5, 6, 7, 8, 9, 10, 11], (rtp 15 (.bool (!(decide ((a.ql[c_1]!) = (b.ql[c_1]!))))) (H.pick [] [4, 5, 6, 7, 8, 9, 10, 11]) ?_)⟩))⟩)))⟩)
      refine xy (by kernel_rfl) ((meet ⟨_, Fe37, ae37, ce37, Fe36, ae36, ce36, uE4, N, H⟩))
     refine zl (.slice ae37 ((b.ql[c_1]!).length) ce37) Tryz.isAgg22 rfl (H.xB 1 rfl 0 rfl) (⟨H.pick [] [4, 5, 6, 7, 8, 9, 10, 11], (ro 6 rfl (zl (.slice ae36 ((a.ql[c_1]!).length) ce36) Tryz.isAgg22 rfl (H.xB 3 rfl 0 rfl) (⟨H.pick [] [4, 5, 6, 7, 8, 9, 10, 11], (ro 14 rfl (oq (l00Same_ok _ (a.ql[c_1]!) (b.ql[c_1]!) (H.get 2 rfl).1 (H.get 0 rfl).1) H fun w42 H => ⟨H.pick [] [4, 5, 6, 7, 8, 9, 10, 11], (rtp 15 (.bool (!(decide ((a.ql[c_1]!) = (b.ql[c_1]!))))) (H.pick [] [4, 5, 6, 7, 8, 9, 10, 11]) ?_)⟩))⟩)))⟩)
     refine xy (by kernel_rfl) ((meet ⟨_, Fe37, ae37, ce37, Fe36, ae36, ce36, uE4, N, H⟩))
    clear H N
    rintro ρ w44 ⟨junk, F28, a29, c30, F31, a32, c33, rfl, N, H⟩
    refine t_n (xn (!(decide ((a.ql[c_1]!) = (b.ql[c_1]!)))) rfl (fun h45 => ?_) (fun h45 => ?_))
    ·skip
     replace h45 := qW h45
     replace h45 := of_decide_eq_false h45
     refine zcr (sp (.bool false) (zjr (zr5 (ret1 (.bool false) rfl rfl ⟨_, rfl, ?_, H.base⟩))))
     rw [decide_eq_false (fun e => by subst e; first | omega | exact absurd rfl (by assumption) | simp_all)]
    replace h45 := qQ h45
    replace h45 := of_decide_eq_true h45
    refine qK (b_n (t_n (xH (sp (.int .i64 c_1) (sw (xX c_1 1 rfl rfl (by omega) (sp (.int .i64 (c_1 + 1)) (xG (qR (m' := (a.ql.length - ((c_1 + 1) : Int)).toNat) (by omega) ⟨_, c_1 + 1, uE3, ?_, ?_, rfl, N, H.pick [] [4, 5, 6, 7, 8, 9, 10, 11]⟩)))))))))
    · omega
    · exact Qj (by omega) (by omega) i2 (by assumption)
   refine zx4 (zcr (sp (.bool true) (zjr (ret1 (.bool true) rfl rfl ⟨_, rfl, ?_, H.base⟩))))
   rw [decide_eq_true (state_eq (zQ (k := c) (by omega) (by omega) i1) (zQ (k := c_1) (by omega) (by omega) i2) (by assumption))]
  replace h3 := bne_iff_ne.1 h3
  refine zo [25, 26, 27, 28, 29, 30, 31, 32, 33, 34] 10 (H) (rtp 35 (.bool true) H ?_)
  refine xy (by kernel_rfl) (t_n (xn true rfl (fun _ => zcr (sp (.bool false) (zjr (t_r (ret1 (.bool false) rfl rfl ⟨_, rfl, ?_, H.base⟩))))) (fun h => absurd h (by decide))))
  rw [decide_eq_false (fun e => by subst e; first | omega | exact absurd rfl (by assumption) | simp_all)]
 replace h2 := bne_iff_ne.1 h2
 refine zo [12, 13, 14, 15, 16, 17, 18, 19, 20, 21, 22] 11 (H) (rtp 23 (.bool true) H ?_)
 refine rtp 24 (.bool true) H ?_
 refine zo [25, 26, 27, 28, 29, 30, 31, 32, 33, 34] 10 (H) (rtp 35 (.bool true) H ?_)
 refine xy (by kernel_rfl) (t_n (xn true rfl (fun _ => zcr (sp (.bool false) (zjr (t_r (ret1 (.bool false) rfl rfl ⟨_, rfl, ?_, H.base⟩))))) (fun h => absurd h (by decide))))
 rw [decide_eq_false (fun e => by subst e; first | omega | exact absurd rfl (by assumption) | simp_all)]

theorem l03Find_ok (w : World) (l : List qE) (u : qE) {al : Option Addr} {cl : Nat} {Fl : List Nat} {bu ou : Nat} {auAlive : Option Addr} {cuAlive : Nat} {FuAlive : List Nat} {auBags : Option Addr} {cuBags : Nat} {FuBags : List Nat} {auAround : Option Addr} {cuAround : Nat} {FuAround : List Nat} (hl : qB.rep w Fl [.slice al l.length cl] l) (hu : zK w bu ou [.slice auAlive u.qh.length cuAlive, .slice auBags u.ql.length cuBags, .slice auAround u.qj.length cuAround]) (huAlive : qB.rep w FuAlive [.slice auAlive u.qh.length cuAlive] u.qh) (huBags : qB.rep w FuBags [.slice auBags u.ql.length cuBags] u.ql) (huAround : qB.rep w FuAround [.slice auAround u.qj.length cuAround] u.qj) : Calls Tryz.prog 77 #[.slice al l.length cl, pp bu ou] w (Ret (fun v w' => v = .int .i64 (firstIdx (fun k => decide (l[k]! = u)) l.length)) w) := by
 refine en Tryz.func77 Tryz.ntmps77 ?_
 have H := (((((St.start w).arg huAround).arg huBags).arg huAlive).XX hu).arg hl
 have nhl := qx hl
 have nhuAlive := qx huAlive
 have nhuBags := qx huBags
 have nhuAround := qx huAround
 clear hl hu huAlive huBags huAround
 have N := Fresh.nil w.heap.size
 refine zcr (sp (.int .i64 0) (zjcc (sp (.int .i64 0) (zjn (qM ?_)))))
 refine xQ (fun m' ρ w1 => ∃ (junk : Env) (i : Nat), ρ = upd (upd (upd junk 0 (.slice al l.length cl)) 1 (pp bu ou)) 5 (.int .i64 i) ∧ ((i : Int) ≤ l.length) ∧ (noneTo (fun k => decide (l[k]! = u)) i) ∧ m' = (l.length - (i : Int)).toNat ∧ Fresh w.heap.size [] ∧ St w w1 [] [sF false Fl al cl l, atF bu ou [.slice auAlive u.qh.length cuAlive, .slice auBags u.ql.length cuBags, .slice auAround u.qj.length cuAround], sF false FuAlive auAlive cuAlive u.qh, sF false FuBags auBags cuBags u.ql, sF false FuAround auAround cuAround u.qj]) ((l.length - (0 : Int)).toNat) ⟨_, 0, uE3, (by omega), (by exact fun j hj => by omega), rfl, N, H⟩ ?_
 clear H N
 rintro m' ρ w2 ⟨junk, i, rfl, i0, i1, rfl, N, H⟩
 refine zcc (sps [.int .i64 i, .slice al l.length cl] (oN rfl (sp (.bool (decide ((i : Int) < l.length))) (zjn (cD rfl (fun h3 => ?_) (fun h3 => ?_))))))
 ·skip
  refine qK (t_n (xC (qM (zcr (sps [.slice al l.length cl, .int .i64 i] ?_)))))
  obtain ⟨b4, o5, rfl⟩ := H.addr 0 rfl (by omega)
  obtain ⟨ae7Alive, ce7Alive, Fe7Alive, ae7Bags, ce7Bags, Fe7Bags, ae7Around, ce7Around, Fe7Around, H⟩ := H.elem_StateD 0 rfl i i (by omega) (by omega) (by omega)
  refine oI rfl rfl (sp (pp bu ou) (sw (oq (l02Same_ok _ (l[i]!) u (qw (H.get 3 rfl) 0 3) (H.get 0 rfl).1 (H.get 1 rfl).1 (H.get 2 rfl).1 (qw (H.get 5 rfl) 0 3) (H.get 6 rfl).1 (H.get 7 rfl).1 (H.get 8 rfl).1) H fun w9 H => zjn (cD rfl (fun h11 => ?_) (fun h11 => ?_)))))
  ·skip
   refine zcr (sps [.int .i64 i, .int .i64 i] (zjr (zr5 (ret1 (.int .i64 i) rfl rfl ⟨_, rfl, ?_, H.base⟩))))
   rw [firstIdx_some (k := i) (by omega) i1 (decide_eq_true ‹_›)]
  refine qK (b_n (t_n (xH (sp (.int .i64 i) (sw (xX i 1 rfl rfl (by omega) (sp (.int .i64 (i + 1)) (xG (qR (m' := (l.length - ((i + 1) : Int)).toNat) (by omega) ⟨_, i + 1, uE3, ?_, ?_, rfl, N, H.pick [] [4, 5, 6, 7, 8]⟩)))))))))
  · omega
  · exact noneTo_succ i1 (decide_eq_false ‹_›)
 refine zx4 (zcr (sp (.int .i64 (-1)) (zjr (ret1 (.int .i64 (-1)) rfl rfl ⟨_, rfl, ?_, H.base⟩))))
 rw [firstIdx_none (fun j hj => i1 j (by omega))]

theorem l03Next_ok (w : World) (s : qy) (t : qE) (cs : List (List Int)) (hs : zK w bs os [.int .i64 s.qJ, .slice qo s.qf.length qm, .slice qC s.qg.length qA]) (qU : qB.rep w qP [.slice qo s.qf.length qm] s.qf) (xx : qB.rep w xu [.slice qC s.qg.length qA] s.qg) (ht : zK w bt ot [.slice qN t.qh.length qL, .slice xh t.ql.length qZ, .slice qG t.qj.length qF]) (xK : qB.rep w xE [.slice qN t.qh.length qL] t.qh) (zn : qB.rep w zf [.slice xh t.ql.length qZ] t.ql) (xA : qB.rep w xw [.slice qG t.qj.length qF] t.qj) (hcs : qB.rep w Fcs [.slice acs cs.length ccs] cs) (p0 : jG s) (p1 : zt s t) (p2 : cs.length ≤ 1000) (p3 : ∀ q, q < cs.length → CntOk s (cs[q]!)) : Calls Tryz.prog 111 #[pp bs os, pp bt ot, .slice acs cs.length ccs] w (Ret (fun v w' => ∃ (ra0 : Option Addr) (rn0 : Nat) (rc0 : Nat) (rx0 : List Value) (rF0 : List Nat), v = .tuple #[.slice ra0 rn0 rc0, .int .i64 ((yN s t cs).2)] ∧ Fresh w.heap.size [rF0] ∧ St w w' [rr ra0 rn0 rc0 38 3 rx0] [xN true rF0 rx0 ((yN s t cs).1)]) w) := by
 refine en Tryz.func111 Tryz.ntmps111 ?_
 have H := ((((((((St.start w).arg hcs).arg xA).arg zn).arg xK).XX ht).arg xx).arg qU).XX hs
 have zJ := qx qU
 have vW := qx xx
 have yJ := qx xK
 have QD := qx zn
 have jB := qx xA
 have nhcs := qx hcs
 clear hs qU xx ht xK zn xA hcs
 have N := Fresh.nil w.heap.size
 refine zcr (sps [.slice none 0 0, .int .i64 0] (zjc (sw (vI H Tryz.underlying47 ti38 fun b1 w2 H => sp (.slice (aa b1 0) 0 0) (zjcc (sp (.int .i64 0) (zjn (qM ?_))))))))
 replace H := H.boxRow 0 rfl 3 0 rfl (by decide)
 replace H := H.vw (α := qE)
 replace H : St _ _ [rr (aa b1 0) 0 0 38 3 []] [xN true [] [] ([] : List qE), atF bs os [.int .i64 s.qJ, .slice qo s.qf.length qm, .slice qC s.qg.length qA], sF false qP qo qm s.qf, sF false xu qC qA s.qg, atF bt ot [.slice qN t.qh.length qL, .slice xh t.ql.length qZ, .slice qG t.qj.length qF], sF false xE qN qL t.qh, sF false zf xh qZ t.ql, sF false xw qG qF t.qj, sF false Fcs acs ccs cs] := H
 refine xQ (fun m' ρ w3 => ∃ (junk : Env) (zW : Option Addr) (xZ : Nat) (zH : Nat) (out : List qE) (QC : List Value) (yK : List Nat) (i : Nat), ρ = upd (upd (upd (upd (upd junk 0 (pp bs os)) 1 (pp bt ot)) 2 (.slice acs cs.length ccs)) 8 (.slice zW xZ zH)) 9 (.int .i64 i) ∧ out = jw s t cs i ∧ ((i : Int) ≤ cs.length) ∧ (NoBad s t cs i) ∧ m' = (cs.length - (i : Int)).toNat ∧ Fresh w.heap.size [yK] ∧ St w w3 [rr zW xZ zH 38 3 QC] [xN true yK QC out, atF bs os [.int .i64 s.qJ, .slice qo s.qf.length qm, .slice qC s.qg.length qA], sF false qP qo qm s.qf, sF false xu qC qA s.qg, atF bt ot [.slice qN t.qh.length qL, .slice xh t.ql.length qZ, .slice qG t.qj.length qF], sF false xE qN qL t.qh, sF false zf xh qZ t.ql, sF false xw qG qF t.qj, sF false Fcs acs ccs cs]) ((cs.length - (0 : Int)).toNat) ⟨_, (aa b1 0), 0, 0, ([] : List qE), [], [], 0, uE5, (by rfl), (by omega), (by exact fun j hj => by omega), rfl, N.emp, H⟩ ?_
 clear H N
 rintro m' ρ w4 ⟨junk, zW, xZ, zH, out, QC, yK, i, rfl, rfl, i0, i1, rfl, N, H⟩
 have hn_out := H.xP (α := qE) 0 rfl 0 rfl (by decide)
 have nl := nextTo_len (s := s) (t := t) (cs := cs) i
 refine zcc (sps [.int .i64 i, .slice acs cs.length ccs] (oN rfl (sp (.bool (decide ((i : Int) < cs.length))) (zjn (cD rfl (fun h5 => ?_) (fun h5 => ?_))))))
 ·skip
  refine qK (t_n (xC (qM (zcr (sps [pp bs os, pp bt ot, .slice acs cs.length ccs, .int .i64 i] ?_)))))
  obtain ⟨b6, o7, rfl⟩ := H.addr 8 rfl (by omega)
  obtain ⟨ae9, ce9, Fe9, H⟩ := H.zU 8 rfl i i (by omega) (by omega) (by omega)
  refine oI rfl rfl (oL rfl (H.xB 1 rfl 0 rfl) ?_)
  have k3 := p3 i (by omega)
  have sz13 := H.base.size
  have lt14 := H.ltN (L := [yK]) [2]
  refine sw (oc (l03Step_ok _ s t (cs[i]!) (qw (H.get 3 rfl) 0 3) (H.get 4 rfl).1 (H.get 5 rfl).1 (qw (H.get 6 rfl) 0 3) (H.get 7 rfl).1 (H.get 8 rfl).1 (H.get 9 rfl).1 (H.get 0 rfl).1 (by first | assumption | omega) (by first | assumption | omega) (by first | assumption | omega)) ?_)
  rintro _ w11 ⟨ra10aAlive, rn10aAlive, rc10aAlive, ra10aBags, rn10aBags, rc10aBags, rx10aBags, rF10aBags, ra10aAround, rn10aAround, rc10aAround, rfl, M, K⟩ _
  replace N := N.merge sz13 lt14 M
  replace H := H.merge K M
  obtain rfl := H.rowNB 0 rfl
  obtain rfl := H.xP (α := List Int) 1 rfl 0 rfl (by decide)
  obtain rfl := H.rowNI 2 rfl
  refine sps [.tuple #[.agg #[.slice ra10aAlive ((((xR s t (cs[i]!)).1).qh).length) rc10aAlive, .slice ra10aBags ((((xR s t (cs[i]!)).1).ql).length) rc10aBags, .slice ra10aAround ((((xR s t (cs[i]!)).1).qj).length) rc10aAround], .int .i64 ((xR s t (cs[i]!)).2)], .agg #[.slice ra10aAlive ((((xR s t (cs[i]!)).1).qh).length) rc10aAlive, .slice ra10aBags ((((xR s t (cs[i]!)).1).ql).length) rc10aBags, .slice ra10aAround ((((xR s t (cs[i]!)).1).qj).length) rc10aAround], .int .i64 ((xR s t (cs[i]!)).2)] (sw (xM H ti38 [.slice none 0 0, .slice none 0 0, .slice none 0 0] fun b18 w19 H => ?_))
  refine sw (zF H 0 [.slice ra10aAlive ((((xR s t (cs[i]!)).1).qh).length) rc10aAlive, .slice ra10aBags ((((xR s t (cs[i]!)).1).ql).length) rc10aBags, .slice ra10aAround ((((xR s t (cs[i]!)).1).qj).length) rc10aAround] Tryz.sizeOf38 fun w20 H => sp (.int .i64 ((xR s t (cs[i]!)).2)) (zjcc (sps [.int .i64 ((xR s t (cs[i]!)).2), .bool (((xR s t (cs[i]!)).2 : Int) != 0)] (zjn (xn (((xR s t (cs[i]!)).2 : Int) != 0) rfl (fun h21 => ?_) (fun h21 => ?_))))))
  ·skip
   replace h21 := bne_iff_ne.1 h21
   refine zcr (sw (vI H Tryz.underlying47 ti38 fun b22 w23 H => sps [.int .i64 ((xR s t (cs[i]!)).2), .slice (aa b22 0) 0 0, .int .i64 ((xR s t (cs[i]!)).2)] (zjr (t_r (zr5 ?_)))))
   replace H := H.boxRow 0 rfl 3 0 rfl (by decide)
   replace H := H.vw (α := qE)
   replace H : St _ _ [rr (aa b22 0) 0 0 38 3 [], .box b18 [.slice ra10aAlive ((((xR s t (cs[i]!)).1).qh).length) rc10aAlive, .slice ra10aBags ((((xR s t (cs[i]!)).1).ql).length) rc10aBags, .slice ra10aAround ((((xR s t (cs[i]!)).1).qj).length) rc10aAround] 38, rr ra10aAlive ((((xR s t (cs[i]!)).1).qh).length) rc10aAlive 4 1 ((((xR s t (cs[i]!)).1).qh).map (Value.bool)), rr ra10aBags ((((xR s t (cs[i]!)).1).ql).length) rc10aBags 22 1 rx10aBags, rr ra10aAround ((((xR s t (cs[i]!)).1).qj).length) rc10aAround 2 1 ((((xR s t (cs[i]!)).1).qj).map (Value.int .i64)), rr zW xZ zH 38 3 QC] [xN true [] [] ([] : List qE), xN true rF10aBags rx10aBags (((xR s t (cs[i]!)).1).ql), sF false Fe9 ae9 ce9 (cs[i]!), atF b6 (o7 + (i : Int).toNat * 1) [.slice ae9 ((cs[i]!).length) ce9], xN true yK QC (jw s t cs i), atF bs os [.int .i64 s.qJ, .slice qo s.qf.length qm, .slice qC s.qg.length qA], sF false qP qo qm s.qf, sF false xu qC qA s.qg, atF bt ot [.slice qN t.qh.length qL, .slice xh t.ql.length qZ, .slice qG t.qj.length qF], sF false xE qN qL t.qh, sF false zf xh qZ t.ql, sF false xw qG qF t.qj, sF false Fcs (aa b6 o7) ccs cs] := H
   refine ret2 (.slice (aa b22 0) 0 0) (.int .i64 ((xR s t (cs[i]!)).2)) rfl rfl rfl ⟨_, rfl, ?_, H.base⟩
   rw [next_bad i1 (by omega) ‹_›]
   exact ⟨(aa b22 0), 0, 0, [], [], rfl, (N.emp.pick [0]), H.pick [0] [0]⟩
  replace h21 := xf h21
  refine qK (t_n (zcr (sp (.slice zW xZ zH) ?_)))
  obtain ⟨G24, hn25, h26⟩ := H.rowIsR (α := qE) 4 rfl 3 rfl (by decide)
  obtain ⟨G27, hn28, h29⟩ := H.rowIsB 1 rfl
  obtain ⟨G30, hn31, h32⟩ := H.rowIsR (α := List Int) 2 rfl 0 rfl (by decide)
  obtain ⟨G33, hn34, h35⟩ := H.rowIsI 3 rfl
  refine sw (oq (args_eq (by rw [← hn25]) (l03Find_ok _ (jw s t cs i) ((xR s t (cs[i]!)).1) (hn25 ▸ h26) (qw (H.cells 0 rfl) 0 3) h29 h32 h35)) H fun w37 H => sp (.bool (decide ((firstIdx (fun k => decide ((jw s t cs i)[k]! = ((xR s t (cs[i]!)).1))) (jw s t cs i).length : Int) < 0))) (zjn (cD rfl (fun h39 => ?_) (fun h39 => ?_))))
  ·skip
   refine xH (sp (.slice zW xZ zH) (sw (xU [.slice ra10aAlive ((((xR s t (cs[i]!)).1).qh).length) rc10aAlive, .slice ra10aBags ((((xR s t (cs[i]!)).1).ql).length) rc10aBags, .slice ra10aAround ((((xR s t (cs[i]!)).1).qj).length) rc10aAround] Tryz.isAgg38 Tryz.sizeOf38 rfl (qw (H.cells 0 rfl) 0 3) (sw (zM H Tryz.underlying47 ti38 [.slice ra10aAlive ((((xR s t (cs[i]!)).1).qh).length) rc10aAlive, .slice ra10aBags ((((xR s t (cs[i]!)).1).ql).length) rc10aBags, .slice ra10aAround ((((xR s t (cs[i]!)).1).qj).length) rc10aAround] fun b40 w41 H => ?_)))))
   obtain ⟨G45, N, hn46, H⟩ := H.freezeB 2 rfl N (H.yT [0, 3])
   have H0 := H
   obtain ⟨G47, hg49, hn48, H⟩ := H.VU (α := List Int) 3 rfl 1 rfl (by decide)
   replace N : Fresh w.heap.size [G47, G45, yK] := Fresh.ice (N.pick [1, 0, 2]) H0 3 hg49.1 hg49.2 (H0.yT [0, 4])
   clear H0
   obtain ⟨G50, N, hn51, H⟩ := H.vG 4 rfl N (H.yT [0, 1, 5])
   refine sw (zV H 5 rfl 0 rfl Tryz.underlying47 ti38 rfl (by decide) rfl rfl rfl (by simp [Value.oneCell', Value.cells]) (by unfold maxLen; omega) (by omega) fun a42 c43 w44 H => ?_)
   replace H := H.snoc_StateD 6 rfl 2 rfl 1 rfl 0 rfl
   replace N : Fresh w.heap.size [(yK ++ (G45 ++ G47 ++ G50))] := (N.pick [2, 1, 0, 3]).join.join.swap.join
   refine sp (.slice a42 (xZ + 1) c43) (xG (b_n (t_n (xH (sp (.int .i64 i) (sw (xX i 1 rfl rfl (by omega) (sp (.int .i64 (i + 1)) (xG ?_)))))))))
   refine qR (m' := (cs.length - ((i + 1) : Int)).toNat) (by omega) ⟨_, a42, xZ + 1, c43, ((jw s t cs i) ++ [⟨((xR s t (cs[i]!)).1).qh, ((xR s t (cs[i]!)).1).ql, ((xR s t (cs[i]!)).1).qj⟩]), QC ++ [.slice ra10aAlive ((((xR s t (cs[i]!)).1).qh).length) rc10aAlive, .slice ra10aBags ((((xR s t (cs[i]!)).1).ql).length) rc10aBags, .slice ra10aAround ((((xR s t (cs[i]!)).1).qj).length) rc10aAround], (yK ++ (G45 ++ G47 ++ G50)), i + 1, uE5, ?_, ?_, ?_, rfl, N, H.pick [5] [0, 8, 9, 10, 11, 12, 13, 14, 15]⟩
   · first | exact nextTo_new (find_mem.1 (by assumption)) | exact nextTo_in (Classical.byContradiction fun h => absurd (find_mem.2 h) (by assumption))
   · omega
   · exact i1.succ ‹_›
  refine qK (b_n (t_n (xH (sp (.int .i64 i) (sw (xX i 1 rfl rfl (by omega) (sp (.int .i64 (i + 1)) (xG (qR (m' := (cs.length - ((i + 1) : Int)).toNat) (by omega) ⟨_, zW, xZ, zH, (jw s t cs i), QC, yK, i + 1, uE5, ?_, ?_, ?_, rfl, (N.pick [1]), H.pick [4] [3, 4, 5, 6, 7, 8, 9, 10, 11]⟩)))))))))
  · first | exact nextTo_new (find_mem.1 (by assumption)) | exact nextTo_in (Classical.byContradiction fun h => absurd (find_mem.2 h) (by assumption))
  · omega
  · exact i1.succ ‹_›
 refine zx4 (zcr (sps [.slice zW xZ zH, .slice zW xZ zH, .int .i64 0] (zjr (ret2 (.slice zW xZ zH) (.int .i64 0) rfl rfl rfl ⟨_, rfl, ?_, H.base⟩))))
 rw [next_ok (fun j hj => i1 j (by omega)), show cs.length = i by omega]
 exact ⟨zW, xZ, zH, QC, yK, rfl, N, H.pick [0] [0]⟩

theorem sameState_ok (w : World) (a : qE) (b : qE) (haAlive : qB.rep w FaAlive [.slice aaAlive a.qh.length caAlive] a.qh) (haBags : qB.rep w FaBags [.slice aaBags a.ql.length caBags] a.ql) (haAround : qB.rep w FaAround [.slice Xz a.qj.length Xv] a.qj) (hbAlive : qB.rep w FbAlive [.slice abAlive b.qh.length cbAlive] b.qh) (hbBags : qB.rep w FbBags [.slice abBags b.ql.length cbBags] b.ql) (hbAround : qB.rep w FbAround [.slice Xy b.qj.length Xu] b.qj) : Calls Tryz.prog 118 #[.agg #[.slice aaAlive a.qh.length caAlive, .slice aaBags a.ql.length caBags, .slice Xz a.qj.length Xv], .agg #[.slice abAlive b.qh.length cbAlive, .slice abBags b.ql.length cbBags, .slice Xy b.qj.length Xu]] w (Ret (fun v w' => v = .bool (decide (a = b))) w) := by
 refine en Tryz.func118 Tryz.ntmps118 ?_
 have H := ((((((St.start w).arg hbAround).arg hbBags).arg hbAlive).arg haAround).arg haBags).arg haAlive
 have nhaAlive := qx haAlive
 have nhaBags := qx haBags
 have nhaAround := qx haAround
 have nhbAlive := qx hbAlive
 have nhbBags := qx hbBags
 have nhbAround := qx hbAround
 clear haAlive haBags haAround hbAlive hbBags hbAround
 have N := Fresh.nil w.heap.size
 refine zcr (sw (zY H [.slice aaAlive a.qh.length caAlive, .slice aaBags a.ql.length caBags, .slice Xz a.qj.length Xv] fun b1 w2 H => sw (zY H [.slice abAlive b.qh.length cbAlive, .slice abBags b.ql.length cbBags, .slice Xy b.qj.length Xu] fun b3 w4 H => sp (.bool false) (zjc (oF rfl (oL rfl (H.cell 1 rfl rfl) (oF rfl (oL rfl (H.cell 0 rfl rfl) (sw (oq (equalB_ok _ a.qh b.qh (H.get 0 rfl).1 (H.get 3 rfl).1) H fun w6 H => sp (.bool (decide (a.qh = b.qh))) ?_))))))))))
 cases h8 : (decide (a.qh = b.qh))
 ·skip
  replace h8 := of_decide_eq_false h8
  refine xJ [11, 12, 13, 14, 15] (sps [.bool false, .bool false] (xJ [18, 19, 20, 21, 22] (sps [.bool false, .bool false] (zjr (ret1 (.bool false) rfl rfl ⟨_, rfl, ?_, H.base⟩)))))
  rw [decide_eq_false (fun e => by subst e; first | omega | exact absurd rfl (by assumption) | simp_all)]
 replace h8 := of_decide_eq_true h8
 refine qH 10 rfl rfl (oF rfl (qH 10 rfl rfl (oL rfl (H.cell 1 rfl rfl) (qH 10 rfl rfl (oF rfl (qH 10 rfl rfl (oL rfl (H.cell 0 rfl rfl) (qH 10 rfl rfl (sw (zS #[.slice aaBags a.ql.length caBags, .slice abBags b.ql.length cbBags, .func (.func 96) #[] #[]] rfl rfl Tryz.call149 (en Tryz.func149 Tryz.ntmps149 ?_)))))))))))
 refine zcr (sp (.bool false) (zjcc (sp (.slice aaBags a.ql.length caBags) (oN rfl (sp (.slice abBags b.ql.length cbBags) (oN rfl (sp (.bool ((a.ql.length : Int) != b.ql.length)) (zjn (xn ((a.ql.length : Int) != b.ql.length) rfl (fun h9 => ?_) (fun h9 => ?_))))))))))
 ·skip
  replace h9 := bne_iff_ne.1 h9
  refine zcr (sp (.bool false) (zjr (t_r (ret1 (.bool false) rfl rfl ⟨_, rfl, (sps [.bool false, .bool false] (xJ [18, 19, 20, 21, 22] (sps [.bool false, .bool false] (zjr (ret1 (.bool false) rfl rfl ⟨_, rfl, ?_, H.base⟩)))))⟩))))
  rw [decide_eq_false (fun e => by subst e; first | omega | exact absurd rfl (by assumption) | simp_all)]
 replace h9 := xf h9
 refine qK (t_n (zcc (sp (.slice aaBags a.ql.length caBags) (oN rfl (sp (.int .i64 0) (zjn (qM ?_)))))))
 refine xQ (fun m' ρ w10 => ∃ (junk : Env) (i : Nat), ρ = upd (upd (upd (upd (upd junk 1 (.slice abBags b.ql.length cbBags)) 2 (.func (.func 96) #[] #[])) 15 (.slice aaBags a.ql.length caBags)) 16 (.int .i64 a.ql.length)) 17 (.int .i64 i) ∧ ((i : Int) ≤ a.ql.length) ∧ (a.ql.take i = b.ql.take i) ∧ m' = (a.ql.length - (i : Int)).toNat ∧ Fresh w.heap.size [] ∧ St w w10 [.box b3 [.slice abAlive b.qh.length cbAlive, .slice abBags b.ql.length cbBags, .slice Xy b.qj.length Xu] 38, .box b1 [.slice aaAlive a.qh.length caAlive, .slice aaBags a.ql.length caBags, .slice Xz a.qj.length Xv] 38] [sF false FaAlive aaAlive caAlive a.qh, sF false FaBags aaBags caBags a.ql, sF false FaAround Xz Xv a.qj, sF false FbAlive abAlive cbAlive b.qh, sF false FbBags abBags cbBags b.ql, sF false FbAround Xy Xu b.qj]) ((a.ql.length - (0 : Int)).toNat) ⟨_, 0, uE5, (by omega), (by rfl), rfl, N, H⟩ ?_
 clear H N
 rintro m' ρ w11 ⟨junk, i, rfl, i0, i2, rfl, N, H⟩
 refine zcr (sp (.bool (decide ((i : Int) < a.ql.length))) (zjn (xC (cD rfl (fun h12 => ?_) (fun h12 => ?_)))))
 ·skip
  refine qK (t_n (xC (qM (zcr (sp (.int .i64 i) ?_)))))
  obtain ⟨b13, o14, rfl⟩ := H.addr 1 rfl (by omega)
  obtain ⟨ae16, ce16, Fe16, H⟩ := H.zU 1 rfl i i (by omega) (by omega) (by omega)
  refine oI rfl rfl (oL rfl (H.xB 1 rfl 0 rfl) (sps [.int .i64 i, .slice ae16 ((a.ql[i]!).length) ce16] (zjc (sps [.slice abBags b.ql.length cbBags, .int .i64 i] ?_))))
  obtain ⟨b17, o18, rfl⟩ := H.addr 6 rfl (by omega)
  obtain ⟨ae20, ce20, Fe20, H⟩ := H.zU 6 rfl i i (by omega) (by omega) (by omega)
  refine oI rfl rfl (oL rfl (H.xB 1 rfl 0 rfl) (sp (.slice ae20 ((b.ql[i]!).length) ce20) (zjc (sps [.func (.func 96) #[] #[], .slice ae16 ((a.ql[i]!).length) ce16, .slice ae20 ((b.ql[i]!).length) ce20] (sw (oq (equalI_ok _ (a.ql[i]!) (b.ql[i]!) (H.get 2 rfl).1 (H.get 0 rfl).1) H fun w22 H => sp (.bool (!(decide ((a.ql[i]!) = (b.ql[i]!))))) (zjn (xn (!(decide ((a.ql[i]!) = (b.ql[i]!)))) rfl (fun h24 => ?_) (fun h24 => ?_)))))))))
  ·skip
   replace h24 := qW h24
   replace h24 := of_decide_eq_false h24
   refine zcr (sp (.bool false) (zjr (zr5 (ret1 (.bool false) rfl rfl ⟨_, rfl, (sps [.bool false, .bool false] (xJ [18, 19, 20, 21, 22] (sps [.bool false, .bool false] (zjr (ret1 (.bool false) rfl rfl ⟨_, rfl, ?_, H.base⟩)))))⟩))))
   rw [decide_eq_false (fun e => by subst e; first | omega | exact absurd rfl (by assumption) | simp_all)]
  replace h24 := qQ h24
  replace h24 := of_decide_eq_true h24
  refine qK (b_n (t_n (xH (sw (xX i 1 rfl rfl (by omega) (sp (.int .i64 (i + 1)) (xG (qR (m' := (a.ql.length - ((i + 1) : Int)).toNat) (by omega) ⟨_, i + 1, uE5, ?_, ?_, rfl, N, H.pick [0, 1] [4, 5, 6, 7, 8, 9]⟩))))))))
  · omega
  · exact Qj (by omega) (by omega) i2 (by assumption)
 refine zx4 (zcr (sp (.bool true) (zjr (ret1 (.bool true) rfl rfl ⟨_, rfl, (sps [.bool true, .bool true] (qH 17 rfl rfl (oF rfl (qH 17 rfl rfl (oL rfl (H.cell 1 rfl rfl) (qH 17 rfl rfl (oF rfl (qH 17 rfl rfl (oL rfl (H.cell 0 rfl rfl) (qH 17 rfl rfl (sw (oq (equalI_ok _ a.qj b.qj (H.get 2 rfl).1 (H.get 5 rfl).1) H fun w26 H => sps [.bool (decide (a.qj = b.qj)), .bool (decide (a.qj = b.qj))] (zjr (ret1 (.bool (decide (a.qj = b.qj))) rfl rfl ⟨_, rfl, ?_, H.base⟩))))))))))))))⟩))))
 rw [show decide (a = b) = decide (a.qj = b.qj) from decide_eq_decide.2 ⟨fun e => by rw [e], fun e => state_eq (by assumption) (zQ (k := i) (by omega) (by omega) i2) e⟩]

theorem behind_ok (w : World) (s : qy) (t : qE) (cs : List (List Int)) (qU : qB.rep w qP [.slice qo s.qf.length qm] s.qf) (xx : qB.rep w xu [.slice qC s.qg.length qA] s.qg) (xK : qB.rep w xE [.slice qN t.qh.length qL] t.qh) (zn : qB.rep w zf [.slice xh t.ql.length qZ] t.ql) (xA : qB.rep w xw [.slice qG t.qj.length qF] t.qj) (hcs : qB.rep w Fcs [.slice acs cs.length ccs] cs) (p0 : jG s) (p1 : zt s t) (p2 : cs.length ≤ 1000) (p3 : ∀ q, q < cs.length → CntOk s (cs[q]!)) (p4 : ∀ q, q < cs.length → IsCh s t (cs[q]!)) : Calls Tryz.prog 113 #[.agg #[.int .i64 s.qJ, .slice qo s.qf.length qm, .slice qC s.qg.length qA], .agg #[.slice qN t.qh.length qL, .slice xh t.ql.length qZ, .slice qG t.qj.length qF], .slice acs cs.length ccs] w (Ret (fun v w' => ∃ (ra0 : Option Addr) (rn0 : Nat) (rc0 : Nat) (rx0 : List Value) (rF0 : List Nat), v = .tuple #[.slice ra0 rn0 rc0, .int .i64 ((yN s t cs).2)] ∧ Fresh w.heap.size [rF0] ∧ St w w' [rr ra0 rn0 rc0 38 3 rx0] [xN true rF0 rx0 ((yN s t cs).1)]) w) := by
 refine en Tryz.func113 Tryz.ntmps113 ?_
 have H := ((((((St.start w).arg hcs).arg xA).arg zn).arg xK).arg xx).arg qU
 have zJ := qx qU
 have vW := qx xx
 have yJ := qx xK
 have QD := qx zn
 have jB := qx xA
 have nhcs := qx hcs
 clear qU xx xK zn xA hcs
 have N := Fresh.nil w.heap.size
 refine zcr (sw (zY H [.int .i64 s.qJ, .slice qo s.qf.length qm, .slice qC s.qg.length qA] fun b1 w2 H => sw (zY H [.slice qN t.qh.length qL, .slice xh t.ql.length qZ, .slice qG t.qj.length qF] fun b3 w4 H => sps [.slice none 0 0, .int .i64 0] (zjc (sw (vI H Tryz.underlying47 ti38 fun b5 w6 H => sp (.slice (aa b5 0) 0 0) (zjcc (sp (.slice acs cs.length ccs) (oN rfl (sp (.int .i64 0) (zjn (qM ?_))))))))))))
 replace H := H.boxRow 0 rfl 3 0 rfl (by decide)
 replace H := H.vw (α := qE)
 replace H : St _ _ [rr (aa b5 0) 0 0 38 3 [], .box b3 [.slice qN t.qh.length qL, .slice xh t.ql.length qZ, .slice qG t.qj.length qF] 38, .box b1 [.int .i64 s.qJ, .slice qo s.qf.length qm, .slice qC s.qg.length qA] 36] [xN true [] [] ([] : List qE), sF false qP qo qm s.qf, sF false xu qC qA s.qg, sF false xE qN qL t.qh, sF false zf xh qZ t.ql, sF false xw qG qF t.qj, sF false Fcs acs ccs cs] := H
 refine xQ (fun m' ρ w7 => ∃ (junk : Env) (zW : Option Addr) (xZ : Nat) (zH : Nat) (out : List qE) (QC : List Value) (yK : List Nat) (k : Nat), ρ = upd (upd (upd (upd (upd (upd junk 3 (pp b1 0)) 4 (pp b3 0)) 8 (.slice zW xZ zH)) 14 (.slice acs cs.length ccs)) 15 (.int .i64 cs.length)) 16 (.int .i64 k) ∧ out = jw s t cs k ∧ ((k : Int) ≤ cs.length) ∧ (NoBad s t cs k) ∧ m' = (cs.length - (k : Int)).toNat ∧ Fresh w.heap.size [yK] ∧ St w w7 [rr zW xZ zH 38 3 QC, .box b3 [.slice qN t.qh.length qL, .slice xh t.ql.length qZ, .slice qG t.qj.length qF] 38, .box b1 [.int .i64 s.qJ, .slice qo s.qf.length qm, .slice qC s.qg.length qA] 36] [xN true yK QC out, sF false qP qo qm s.qf, sF false xu qC qA s.qg, sF false xE qN qL t.qh, sF false zf xh qZ t.ql, sF false xw qG qF t.qj, sF false Fcs acs ccs cs]) ((cs.length - (0 : Int)).toNat) ⟨_, (aa b5 0), 0, 0, ([] : List qE), [], [], 0, uE6, (by rfl), (by omega), (by exact fun j hj => by omega), rfl, N.emp, H⟩ ?_
 clear H N
 rintro m' ρ w8 ⟨junk, zW, xZ, zH, out, QC, yK, k, rfl, rfl, i0, i1, rfl, N, H⟩
 have hn_out := H.xP (α := qE) 0 rfl 0 rfl (by decide)
 have nl := nextTo_len (s := s) (t := t) (cs := cs) k
 refine zcr (sp (.bool (decide ((k : Int) < cs.length))) (zjn (xC (cD rfl (fun h9 => ?_) (fun h9 => ?_)))))
 ·skip
  refine qK (t_n (xC (qM (zcr ?_))))
  obtain ⟨b10, o11, rfl⟩ := H.addr 6 rfl (by omega)
  obtain ⟨ae13, ce13, Fe13, H⟩ := H.zU 6 rfl k k (by omega) (by omega) (by omega)
  refine oI rfl rfl (oL rfl (H.xB 1 rfl 0 rfl) (sp (.slice ae13 ((cs[k]!).length) ce13) (zjc (sw (xU [.int .i64 s.qJ, .slice qo s.qf.length qm, .slice qC s.qg.length qA] Tryz.isAgg36 Tryz.sizeOf36 rfl (qw (H.cells 2 rfl) 0 3) (sw (xU [.slice qN t.qh.length qL, .slice xh t.ql.length qZ, .slice qG t.qj.length qF] Tryz.isAgg38 Tryz.sizeOf38 rfl (qw (H.cells 1 rfl) 0 3) (sp (.slice ae13 ((cs[k]!).length) ce13) ?_))))))))
  have k3 := p3 k (by omega)
  have k5 := p4 k (by omega)
  have sz17 := H.base.size
  have lt18 := H.ltN (L := [yK]) [2]
  refine sw (oc (step_ok _ s t (cs[k]!) (H.get 3 rfl).1 (H.get 4 rfl).1 (H.get 5 rfl).1 (H.get 6 rfl).1 (H.get 7 rfl).1 (H.get 0 rfl).1 (by first | assumption | omega) (by first | assumption | omega) (by first | assumption | omega) (by first | assumption | omega)) ?_)
  rintro _ w15 ⟨ra14aAlive, rn14aAlive, rc14aAlive, ra14aBags, rn14aBags, rc14aBags, rx14aBags, rF14aBags, ra14aAround, rn14aAround, rc14aAround, rfl, M, K⟩ _
  replace N := N.merge sz17 lt18 M
  replace H := H.merge K M
  obtain rfl := H.rowNB 0 rfl
  obtain rfl := H.xP (α := List Int) 1 rfl 0 rfl (by decide)
  obtain rfl := H.rowNI 2 rfl
  refine sps [.tuple #[.agg #[.slice ra14aAlive ((((xR s t (cs[k]!)).1).qh).length) rc14aAlive, .slice ra14aBags ((((xR s t (cs[k]!)).1).ql).length) rc14aBags, .slice ra14aAround ((((xR s t (cs[k]!)).1).qj).length) rc14aAround], .int .i64 ((xR s t (cs[k]!)).2)], .agg #[.slice ra14aAlive ((((xR s t (cs[k]!)).1).qh).length) rc14aAlive, .slice ra14aBags ((((xR s t (cs[k]!)).1).ql).length) rc14aBags, .slice ra14aAround ((((xR s t (cs[k]!)).1).qj).length) rc14aAround], .int .i64 ((xR s t (cs[k]!)).2)] (sw (xM H ti38 [.slice none 0 0, .slice none 0 0, .slice none 0 0] fun b22 w23 H => ?_))
  refine sw (zF H 0 [.slice ra14aAlive ((((xR s t (cs[k]!)).1).qh).length) rc14aAlive, .slice ra14aBags ((((xR s t (cs[k]!)).1).ql).length) rc14aBags, .slice ra14aAround ((((xR s t (cs[k]!)).1).qj).length) rc14aAround] Tryz.sizeOf38 fun w24 H => sp (.int .i64 ((xR s t (cs[k]!)).2)) (zjcc (sps [.int .i64 ((xR s t (cs[k]!)).2), .bool (((xR s t (cs[k]!)).2 : Int) != 0)] (zjn (xn (((xR s t (cs[k]!)).2 : Int) != 0) rfl (fun h25 => ?_) (fun h25 => ?_))))))
  ·skip
   replace h25 := bne_iff_ne.1 h25
   refine zcr (sps [.int .i64 ((xR s t (cs[k]!)).2), .slice none 0 0, .int .i64 ((xR s t (cs[k]!)).2)] (zjr (t_r (zr5 ?_))))
   replace H := H.nilRow 38 3
   replace H := H.vw (α := qE)
   refine ret2 (.slice none 0 0) (.int .i64 ((xR s t (cs[k]!)).2)) rfl rfl rfl ⟨_, rfl, ?_, H.base⟩
   rw [next_bad i1 (by omega) ‹_›]
   exact ⟨none, 0, 0, [], [], rfl, (N.emp.pick [0]), H.pick [0] [0]⟩
  replace h25 := xf h25
  refine qK (t_n (zcr (sps [.slice zW xZ zH, .func (.func 147) #[] #[pp b22 0]] (sw (zS #[.slice zW xZ zH, .func (.func 147) #[] #[pp b22 0]] rfl rfl Tryz.call146 (en Tryz.func146 Tryz.ntmps146 ?_))))))
  refine zcr (sp (.bool false) (zjc (sps [.slice zW xZ zH, .func (.func 147) #[] #[pp b22 0]] (sw (zS #[.slice zW xZ zH, .func (.func 147) #[] #[pp b22 0]] rfl rfl Tryz.call116 (en Tryz.func116 Tryz.ntmps116 ?_))))))
  refine zcr (sp (.int .i64 0) (zjcc (sp (.slice zW xZ zH) (oN rfl (sp (.int .i64 0) (zjn (qM ?_)))))))
  refine xQ (fun m' ρ w26 => ∃ (junk : Env) (i : Nat), ρ = upd (upd (upd (upd junk 0 (.slice zW xZ zH)) 1 (.func (.func 147) #[] #[pp b22 0])) 7 (.int .i64 xZ)) 8 (.int .i64 i) ∧ ((i : Int) ≤ xZ) ∧ (NotIn (jw s t cs k) (xR s t (cs[k]!)).1 i) ∧ m' = (xZ - (i : Int)).toNat ∧ Fresh w.heap.size [rF14aBags, yK] ∧ St w w26 [.box b22 [.slice ra14aAlive ((((xR s t (cs[k]!)).1).qh).length) rc14aAlive, .slice ra14aBags ((((xR s t (cs[k]!)).1).ql).length) rc14aBags, .slice ra14aAround ((((xR s t (cs[k]!)).1).qj).length) rc14aAround] 38, rr ra14aAlive ((((xR s t (cs[k]!)).1).qh).length) rc14aAlive 4 1 ((((xR s t (cs[k]!)).1).qh).map (Value.bool)), rr ra14aBags ((((xR s t (cs[k]!)).1).ql).length) rc14aBags 22 1 rx14aBags, rr ra14aAround ((((xR s t (cs[k]!)).1).qj).length) rc14aAround 2 1 ((((xR s t (cs[k]!)).1).qj).map (Value.int .i64)), rr zW xZ zH 38 3 QC, .box b3 [.slice qN t.qh.length qL, .slice xh t.ql.length qZ, .slice qG t.qj.length qF] 38, .box b1 [.int .i64 s.qJ, .slice qo s.qf.length qm, .slice qC s.qg.length qA] 36] [xN true rF14aBags rx14aBags (((xR s t (cs[k]!)).1).ql), sF false Fe13 ae13 ce13 (cs[k]!), atF b10 (o11 + (k : Int).toNat * 1) [.slice ae13 ((cs[k]!).length) ce13], xN true yK QC (jw s t cs k), sF false qP qo qm s.qf, sF false xu qC qA s.qg, sF false xE qN qL t.qh, sF false zf xh qZ t.ql, sF false xw qG qF t.qj, sF false Fcs (aa b10 o11) ccs cs]) ((xZ - (0 : Int)).toNat) ⟨_, 0, uE4, (by omega), (by exact fun j hj => by omega), rfl, N, H⟩ ?_
  clear H N
  rintro m' ρ w27 ⟨junk, i, rfl, i0, i2, rfl, N, H⟩
  refine zcr (sp (.bool (decide ((i : Int) < xZ))) (zjn (xC (cD rfl (fun h28 => ?_) (fun h28 => ?_)))))
  ·skip
   refine qK (t_n (xC (qM (zcr (sps [.int .i64 i, .int .i64 i] (zjc (sps [.func (.func 147) #[] #[pp b22 0], .slice zW xZ zH, .int .i64 i] ?_)))))))
   obtain ⟨b29, rfl⟩ := H.Qn 4 rfl (by omega)
   obtain ⟨ae30Alive, ce30Alive, Fe30Alive, ae30Bags, ce30Bags, Fe30Bags, ae30Around, ce30Around, Fe30Around, hx31, H⟩ := H.rowel_StateD 4 rfl 3 rfl (iv := i) i (by omega) (by omega)
   refine oI rfl rfl (sw (xU [.slice ae30Alive ((((jw s t cs k)[i]!).qh).length) ce30Alive, .slice ae30Bags ((((jw s t cs k)[i]!).ql).length) ce30Bags, .slice ae30Around ((((jw s t cs k)[i]!).qj).length) ce30Around] Tryz.isAgg38 Tryz.sizeOf38 rfl (qw (fun j v hj => H.rowGet 4 rfl (hx31 j v hj)) 0 3) (sw (zS #[.agg #[.slice ae30Alive ((((jw s t cs k)[i]!).qh).length) ce30Alive, .slice ae30Bags ((((jw s t cs k)[i]!).ql).length) ce30Bags, .slice ae30Around ((((jw s t cs k)[i]!).qj).length) ce30Around], pp b22 0] rfl rfl Tryz.call147 (en Tryz.func147 Tryz.ntmps147 ?_)))))
   refine zcr (sw (zY H [.slice ae30Alive ((((jw s t cs k)[i]!).qh).length) ce30Alive, .slice ae30Bags ((((jw s t cs k)[i]!).ql).length) ce30Bags, .slice ae30Around ((((jw s t cs k)[i]!).qj).length) ce30Around] fun b32 w33 H => sp (.bool false) (zjc (sw (xU [.slice ae30Alive ((((jw s t cs k)[i]!).qh).length) ce30Alive, .slice ae30Bags ((((jw s t cs k)[i]!).ql).length) ce30Bags, .slice ae30Around ((((jw s t cs k)[i]!).qj).length) ce30Around] Tryz.isAgg38 Tryz.sizeOf38 rfl (qw (H.cells 0 rfl) 0 3) ?_)))))
   refine sw (xU [.slice ra14aAlive ((((xR s t (cs[k]!)).1).qh).length) rc14aAlive, .slice ra14aBags ((((xR s t (cs[k]!)).1).ql).length) rc14aBags, .slice ra14aAround ((((xR s t (cs[k]!)).1).qj).length) rc14aAround] Tryz.isAgg38 Tryz.sizeOf38 rfl (qw (H.cells 1 rfl) 0 3) ?_)
   obtain ⟨G34, hn35, h36⟩ := H.rowIsB 2 rfl
   obtain ⟨G37, hn38, h39⟩ := H.rowIsR (α := List Int) 3 rfl 3 rfl (by decide)
   obtain ⟨G40, hn41, h42⟩ := H.rowIsI 4 rfl
   refine sw (oq (sameState_ok _ ((jw s t cs k)[i]!) ((xR s t (cs[k]!)).1) (H.get 0 rfl).1 (H.get 1 rfl).1 (H.get 2 rfl).1 h36 h39 h42) H fun w44 H => sp (.bool (decide (((jw s t cs k)[i]!) = ((xR s t (cs[k]!)).1)))) (zjr (ret1 (.bool (decide (((jw s t cs k)[i]!) = ((xR s t (cs[k]!)).1)))) rfl rfl ⟨_, rfl, ?_⟩)))
   replace H := H.erases [0]
   dsimp only [jf, List.eraseIdx] at H
   refine zjn (cD rfl (fun h46 => ?_) (fun h46 => ?_))
   ·skip
    refine zcr (sps [.int .i64 i, .int .i64 i] (zjr (zr5 (ret1 (.int .i64 i) rfl rfl ⟨_, rfl, (sw (o_pure (.bool true) (by show some (Value.bool (decide ((i : Int) ≥ 0))) = some (Value.bool true); rw [decide_eq_true (by omega)]) (sp (.bool true) (zjr (ret1 (.bool true) rfl rfl ⟨_, rfl, (sp (.bool false) (zjn (xn false rfl (fun h => absurd h (by decide)) (fun _ => qK (b_n (t_n (xH (sw (xX k 1 rfl rfl (by omega) (sp (.int .i64 (k + 1)) (xG ?_)))))))))))⟩)))))⟩))))
    refine qR (m' := (cs.length - ((k + 1) : Int)).toNat) (by omega) ⟨_, (aa b29 0), xZ, zH, (jw s t cs k), QC, yK, k + 1, uE6, ?_, ?_, ?_, rfl, (N.pick [1]), H.pick [4, 5, 6] [6, 7, 8, 9, 10, 11, 12]⟩
    · first | exact nextTo_new (NotIn.out (fun j hj => i2 j (by omega))) | exact nextTo_in (mem_at (k := i) (by omega) (by assumption))
    · omega
    · exact i1.succ ‹_›
   refine qK (b_n (t_n (xH (sw (xX i 1 rfl rfl (by omega) (sp (.int .i64 (i + 1)) (xG (qR (m' := (xZ - ((i + 1) : Int)).toNat) (by omega) ⟨_, i + 1, uE4, ?_, ?_, rfl, N, H.pick [0, 1, 2, 3, 4, 5, 6] [3, 4, 5, 6, 7, 8, 9, 10, 11, 12]⟩))))))))
   · omega
   · exact i2.succ ‹_›
  refine zx4 (zcr (sp (.int .i64 (-1)) (zjr (ret1 (.int .i64 (-1)) rfl rfl ⟨_, rfl, (sps [.bool false, .bool false] (zjr (ret1 (.bool false) rfl rfl ⟨_, rfl, (sp (.bool true) (zjn (xn true rfl (fun _ => xH (sp (.slice zW xZ zH) (sw (xU [.slice ra14aAlive ((((xR s t (cs[k]!)).1).qh).length) rc14aAlive, .slice ra14aBags ((((xR s t (cs[k]!)).1).ql).length) rc14aBags, .slice ra14aAround ((((xR s t (cs[k]!)).1).qj).length) rc14aAround] Tryz.isAgg38 Tryz.sizeOf38 rfl (qw (H.cells 0 rfl) 0 3) ?_)))) (fun h => absurd h (by decide)))))⟩)))⟩))))
  refine sw (zM H Tryz.underlying47 ti38 [.slice ra14aAlive ((((xR s t (cs[k]!)).1).qh).length) rc14aAlive, .slice ra14aBags ((((xR s t (cs[k]!)).1).ql).length) rc14aBags, .slice ra14aAround ((((xR s t (cs[k]!)).1).qj).length) rc14aAround] fun b47 w48 H => ?_)
  obtain ⟨G52, N, hn53, H⟩ := H.freezeB 2 rfl N (H.yT [0, 3])
  have H0 := H
  obtain ⟨G54, hg56, hn55, H⟩ := H.VU (α := List Int) 3 rfl 1 rfl (by decide)
  replace N : Fresh w.heap.size [G54, G52, yK] := Fresh.ice (N.pick [1, 0, 2]) H0 3 hg56.1 hg56.2 (H0.yT [0, 4])
  clear H0
  obtain ⟨G57, N, hn58, H⟩ := H.vG 4 rfl N (H.yT [0, 1, 5])
  refine sw (zV H 5 rfl 0 rfl Tryz.underlying47 ti38 rfl (by decide) rfl rfl rfl (by simp [Value.oneCell', Value.cells]) (by unfold maxLen; omega) (by omega) fun a49 c50 w51 H => ?_)
  replace H := H.snoc_StateD 6 rfl 2 rfl 1 rfl 0 rfl
  replace N : Fresh w.heap.size [(yK ++ (G52 ++ G54 ++ G57))] := (N.pick [2, 1, 0, 3]).join.join.swap.join
  refine sp (.slice a49 (xZ + 1) c50) (xG (b_n (t_n (xH (sw (xX k 1 rfl rfl (by omega) (sp (.int .i64 (k + 1)) (xG ?_))))))))
  refine qR (m' := (cs.length - ((k + 1) : Int)).toNat) (by omega) ⟨_, a49, xZ + 1, c50, ((jw s t cs k) ++ [⟨((xR s t (cs[k]!)).1).qh, ((xR s t (cs[k]!)).1).ql, ((xR s t (cs[k]!)).1).qj⟩]), QC ++ [.slice ra14aAlive ((((xR s t (cs[k]!)).1).qh).length) rc14aAlive, .slice ra14aBags ((((xR s t (cs[k]!)).1).ql).length) rc14aBags, .slice ra14aAround ((((xR s t (cs[k]!)).1).qj).length) rc14aAround], (yK ++ (G52 ++ G54 ++ G57)), k + 1, uE6, ?_, ?_, ?_, rfl, N, H.pick [5, 6, 7] [0, 8, 9, 10, 11, 12, 13]⟩
  · first | exact nextTo_new (NotIn.out (fun j hj => i2 j (by omega))) | exact nextTo_in (mem_at (k := i) (by omega) (by assumption))
  · omega
  · exact i1.succ ‹_›
 refine zx4 (zcr (sps [.slice zW xZ zH, .slice zW xZ zH, .int .i64 0] (zjr (ret2 (.slice zW xZ zH) (.int .i64 0) rfl rfl rfl ⟨_, rfl, ?_, H.base⟩))))
 rw [next_ok (fun j hj => i1 j (by omega)), show cs.length = k by omega]
 exact ⟨zW, xZ, zH, QC, yK, rfl, N, H.pick [0] [0]⟩
theorem l01Full_ok (w : World) (rest : List Int) (parts : List (List Int)) {arest : Option Addr} {crest : Nat} {Frest : List Nat} {aparts : Option Addr} {cparts : Nat} {Fparts : List Nat} (hrest : qB.rep w Frest [.slice arest rest.length crest] rest) (hparts : qB.rep w Fparts [.slice aparts parts.length cparts] parts) (p0 : VC parts rest) : Calls Tryz.prog 198 #[.slice arest rest.length crest, .slice aparts parts.length cparts] w (Ret (fun v w' => v = .bool (dec (FullOk parts rest))) w) := by
 refine en Tryz.func198 Tryz.ntmps198 ?_
 have H := ((St.start w).arg hparts).arg hrest
 have nhrest := qx hrest
 have nhparts := qx hparts
 clear hrest hparts
 have N := Fresh.nil w.heap.size
 refine zcr (sp (.bool false) (zjcc (sp (.int .i64 0) (zjn (qM ?_)))))
 refine xQ (fun m' ρ w1 => ∃ (junk : Env) (i : Nat), ρ = upd (upd (upd junk 0 (.slice arest rest.length crest)) 1 (.slice aparts parts.length cparts)) 5 (.int .i64 i) ∧ ((i : Int) ≤ parts.length) ∧ (FullTo parts rest i) ∧ m' = (parts.length - (i : Int)).toNat ∧ Fresh w.heap.size [] ∧ St w w1 [] [sF false Frest arest crest rest, sF false Fparts aparts cparts parts]) ((parts.length - (0 : Int)).toNat) ⟨_, 0, uE3, (by omega), (by exact fun j hj => by omega), rfl, N, H⟩ ?_
 clear H N
 rintro m' ρ w2 ⟨junk, i, rfl, i0, i1, rfl, N, H⟩
 refine zcc (sps [.int .i64 i, .slice aparts parts.length cparts] (oN rfl (sp (.bool (decide ((i : Int) < parts.length))) (zjn (cD rfl (fun h3 => ?_) (fun h3 => ?_))))))
 ·skip
  refine qK (t_n (xC (qM (zcr (sps [.slice aparts parts.length cparts, .int .i64 i] ?_)))))
  obtain ⟨b4, o5, rfl⟩ := H.addr 1 rfl (by omega)
  obtain ⟨ae7, ce7, Fe7, H⟩ := H.zU 1 rfl i i (by omega) (by omega) (by omega)
  refine oI rfl rfl (oL rfl (H.xB 1 rfl 0 rfl) (sp (.slice arest rest.length crest) ?_))
  obtain ⟨t1, t2⟩ := p0.times (k := i) (by omega)
  refine sw (oq (l01Within_ok _ (parts[i]!) rest (H.get 0 rfl).1 (H.get 2 rfl).1 (by first | assumption | omega)) H fun w9 H => zjn (xn (within (parts[i]!) rest) rfl (fun h11 => ?_) (fun h11 => ?_)))
  ·skip
   refine zcr (sp (.bool false) (zjr (zr5 (ret1 (.bool false) rfl rfl ⟨_, rfl, ?_, H.base⟩))))
   rw [qY (fun h => by have := h i (by omega); simp_all)]
  refine qK (b_n (t_n (xH (sp (.int .i64 i) (sw (xX i 1 rfl rfl (by omega) (sp (.int .i64 (i + 1)) (xG (qR (m' := (parts.length - ((i + 1) : Int)).toNat) (by omega) ⟨_, i + 1, uE3, ?_, ?_, rfl, N, H.pick [] [2, 3]⟩)))))))))
  · omega
  · exact i1.succ ‹_›
 refine zx4 (zcr (sp (.bool true) (zjr (ret1 (.bool true) rfl rfl ⟨_, rfl, ?_, H.base⟩))))
 rw [jF (show FullOk parts rest from fun j hj => i1 j (by omega))]

def l01Pack_ok_S (f : Nat) : Prop := ∀ {W0 w : World} {ps : List Prv} {Γ : List Fact} {Ns : List (List Nat)} (rest : List Int) (parts : List (List Int)) (begin : List Int) (out : List (List Int)) (arest : Option Addr) (crest : Nat) (Frest : List Nat) (aparts : Option Addr) (cparts : Nat) (Fparts : List Nat) (abegin : Option Addr) (cbegin : Nat) (Fbegin : List Nat) (bout : Nat) (raout : Option Addr) (rnout : Nat) (rcout : Nat) (rxout : List Value) (rFout : List Nat) (H : St W0 w ((.box bout [.slice raout rnout rcout] 27) :: (rr raout rnout rcout 22 1 rxout) :: ps) ((sF false Frest arest crest rest) :: (sF false Fparts aparts cparts parts) :: (sF false Fbegin abegin cbegin begin) :: (xN true rFout rxout out) :: Γ)) (N : Fresh W0.heap.size (rFout :: Ns)) (K0 : Kept Ns Γ) (p0 : begin.length + f = parts.length) (p1 : VC parts rest) (p2 : out.length ≤ 2000), Calls Tryz.prog 171 #[.slice arest rest.length crest, .slice aparts parts.length cparts, .slice abegin begin.length cbegin, pp bout 0] w (fun e w' => ∃ v, e = .returned v ∧ ∃ (raout_ : Option Addr) (rnout_ : Nat) (rcout_ : Nat) (rxout_ : List Value) (rFout_ : List Nat), v = .tuple #[] ∧ Fresh W0.heap.size (rFout_ :: Ns) ∧ St W0 w' ((.box bout [.slice raout_ rnout_ rcout_] 27) :: (rr raout_ rnout_ rcout_ 22 1 rxout_) :: ps) ((sF false Frest arest crest rest) :: (sF false Fparts aparts cparts parts) :: (sF false Fbegin abegin cbegin begin) :: (xN true rFout_ rxout_ (gath out (begins begin (packs parts (parts.length - begin.length) begin.length rest)))) :: Γ))
theorem l01Pack_ok_step (f : Nat) (IH : ∀ k, k < f → l01Pack_ok_S k) {W0 w : World} {ps : List Prv} {Γ : List Fact} {Ns : List (List Nat)} (rest : List Int) (parts : List (List Int)) (begin : List Int) (out : List (List Int)) (arest : Option Addr) (crest : Nat) (Frest : List Nat) (aparts : Option Addr) (cparts : Nat) (Fparts : List Nat) (abegin : Option Addr) (cbegin : Nat) (Fbegin : List Nat) (bout : Nat) (raout : Option Addr) (rnout : Nat) (rcout : Nat) (rxout : List Value) (rFout : List Nat) (H : St W0 w ((.box bout [.slice raout rnout rcout] 27) :: (rr raout rnout rcout 22 1 rxout) :: ps) ((sF false Frest arest crest rest) :: (sF false Fparts aparts cparts parts) :: (sF false Fbegin abegin cbegin begin) :: (xN true rFout rxout out) :: Γ)) (N : Fresh W0.heap.size (rFout :: Ns)) (K0 : Kept Ns Γ) (p0 : begin.length + f = parts.length) (p1 : VC parts rest) (p2 : out.length ≤ 2000) : Calls Tryz.prog 171 #[.slice arest rest.length crest, .slice aparts parts.length cparts, .slice abegin begin.length cbegin, pp bout 0] w (fun e w' => ∃ v, e = .returned v ∧ ∃ (raout_ : Option Addr) (rnout_ : Nat) (rcout_ : Nat) (rxout_ : List Value) (rFout_ : List Nat), v = .tuple #[] ∧ Fresh W0.heap.size (rFout_ :: Ns) ∧ St W0 w' ((.box bout [.slice raout_ rnout_ rcout_] 27) :: (rr raout_ rnout_ rcout_ 22 1 rxout_) :: ps) ((sF false Frest arest crest rest) :: (sF false Fparts aparts cparts parts) :: (sF false Fbegin abegin cbegin begin) :: (xN true rFout_ rxout_ (gath out (begins begin (packs parts (parts.length - begin.length) begin.length rest)))) :: Γ)) := by
 refine en Tryz.func171 Tryz.ntmps171 ?_
 have nhrest := qx (H.get 0 rfl).1
 have nhparts := qx (H.get 1 rfl).1
 have nhbegin := qx (H.get 2 rfl).1
 obtain rfl := H.xP (α := List Int) 1 rfl 3 rfl (by decide)
 have p3 := p1.small
 refine zcr (sp (.slice abegin begin.length cbegin) (oN rfl (sp (.int .i64 begin.length) (zjcc (sps [.int .i64 begin.length, .slice aparts parts.length cparts] (oN rfl (sp (.bool ((begin.length : Int) == parts.length)) (zjn (cE rfl (fun h1 => ?_) (fun h1 => ?_))))))))))
 ·skip
  refine zcc (sps [.slice arest rest.length crest, .slice aparts parts.length cparts] (sw (oq (l01Full_ok _ rest parts (H.get 0 rfl).1 (H.get 1 rfl).1 (by first | assumption | omega)) H fun w3 H => zjn (cP rfl (fun h5 => ?_) (fun h5 => ?_)))))
  ·skip
   refine c_cut (fun ρ w11 => ∃ (junk : Env) (a6 : Option Addr) (c7 : Nat) (a8 : Option Addr) (c9 : Nat) (G10 : List Nat), ρ = junk ∧ Fresh W0.heap.size ((rFout ++ G10) :: Ns) ∧ St W0 w11 ((.box bout [.slice a6 (out.length + 1) c7] 27) :: (rr a6 (out.length + 1) c7 22 1 (rxout ++ [.slice a8 begin.length c9])) :: ps) ((xN true (rFout ++ G10) (rxout ++ [.slice a8 begin.length c9]) (out ++ [begin])) :: (sF true G10 a8 c9 begin) :: (sF false Frest arest crest rest) :: (sF false Fparts aparts cparts parts) :: (sF false Fbegin abegin cbegin begin) :: Γ)) ?_ ?_
   ·skip
    refine c_drawK2 rfl H [] [0, 1, 2, 3] fun H => ?_
    have S := H.jZ [] [0, 1, 2, 3]
    refine rtp 0 (pp bout 0) S ?_
    refine rtp 1 (pp bout 0) S ?_
    refine rtp 2 (pp bout 0) S ?_
    refine rtp 4 (.slice abegin begin.length cbegin) S ?_
    refine vT [3, 5] (by kernel_rfl) (by simp) (yx rfl ?_ (yx rfl ?_ vU))
    ·skip
     refine zl (.slice raout out.length rcout) Tryz.isAgg27 rfl (H.cell 0 rfl rfl) (⟨H.pick [] [0, 1, 2, 3], (ro 5 rfl ?_)⟩)
     have sz13 := H.base.size
     have lt14 := all_two (H.ltN (L := [rFout]) [3]) (H.ltK (K0.behind 4 rfl))
     refine oc (Xm _ begin (H.get 2 rfl).1 (by first | assumption | omega)) ?_
     rintro v18 w16 r18 x17
     replace H := H.xW x17 r18
     obtain ⟨a19, c20, rfl, hc21, hm22⟩ := H.vN 0 rfl
     refine ⟨H.pick [] [0, 1, 2, 3], (ro 6 rfl (zM H Tryz.underlying27 ti22 [.slice a19 begin.length c20] fun b23 w24 H => ⟨H.pick [] [0, 1, 2, 3], (ro 7 rfl ?_)⟩))⟩
     obtain ⟨G28, N, hn29, H⟩ := H.vG 1 rfl N (fun F hF b hb => (List.mem_append.1 (show F ∈ [rFout] ++ Ns from hF)).elim (fun h => (H.yT (L := [rFout]) [3]) F h b hb) fun h => H.awayK (K0.behind 4 rfl) F h b hb)
     try dsimp only [List.set] at H
     refine zV H 3 rfl 0 rfl Tryz.underlying27 ti22 rfl (by decide) rfl rfl rfl (by simp [Value.oneCell', Value.cells]) (by unfold maxLen; omega) (by omega) fun a25 c26 w27 H => ?_
     try dsimp only [List.set] at H
     replace H := H.yl 4 rfl 0 rfl
     replace N : Fresh W0.heap.size ((rFout ++ G28) :: Ns) := (N.V8 2 [1, 0] (by simp only [List.length_cons]; omega)).join
     refine ⟨H.pick [] [2, 3, 4, 5], (rtp 8 (pp bout 0) (H.pick [] [2, 3, 4, 5]) ?_)⟩
     refine ro 9 rfl (zk H 2 [.slice a25 (out.length + 1) c26] Tryz.sizeOf27 fun w30 H => ?_)
     try dsimp only [List.set] at H
     refine ⟨H.pick [] [2, 3, 4, 5], (xy (by kernel_rfl) ((meet ⟨_, a25, c26, a19, c20, G28, (by exact rfl), N, H.V8 4 6 [2, 3] [0, 1, 2, 3, 4] (by simp only [List.length_cons]; omega) (by simp only [List.length_cons]; omega)⟩)))⟩
    have sz31 := H.base.size
    have lt32 := all_two (H.ltN (L := [rFout]) [3]) (H.ltK (K0.behind 4 rfl))
    refine oc (Xm _ begin (H.get 2 rfl).1 (by first | assumption | omega)) ?_
    rintro v36 w34 r36 x35
    replace H := H.xW x35 r36
    obtain ⟨a37, c38, rfl, hc39, hm40⟩ := H.vN 0 rfl
    refine ⟨H.pick [] [0, 1, 2, 3], (vT [3, 6] (by kernel_rfl) (by simp) (yx rfl ?_ (yx rfl ?_ vU)))⟩
    ·skip
     refine zl (.slice raout out.length rcout) Tryz.isAgg27 rfl (H.cell 1 rfl rfl) (⟨H.pick [] [0, 1, 2, 3], (ro 6 rfl (zM H Tryz.underlying27 ti22 [.slice a37 begin.length c38] fun b41 w42 H => ⟨H.pick [] [0, 1, 2, 3], (ro 7 rfl ?_)⟩))⟩)
     obtain ⟨G46, N, hn47, H⟩ := H.vG 1 rfl N (fun F hF b hb => (List.mem_append.1 (show F ∈ [rFout] ++ Ns from hF)).elim (fun h => (H.yT (L := [rFout]) [3]) F h b hb) fun h => H.awayK (K0.behind 4 rfl) F h b hb)
     try dsimp only [List.set] at H
     refine zV H 3 rfl 0 rfl Tryz.underlying27 ti22 rfl (by decide) rfl rfl rfl (by simp [Value.oneCell', Value.cells]) (by unfold maxLen; omega) (by omega) fun a43 c44 w45 H => ?_
     try dsimp only [List.set] at H
     replace H := H.yl 4 rfl 0 rfl
     replace N : Fresh W0.heap.size ((rFout ++ G46) :: Ns) := (N.V8 2 [1, 0] (by simp only [List.length_cons]; omega)).join
     refine ⟨H.pick [] [2, 3, 4, 5], (rtp 8 (pp bout 0) (H.pick [] [2, 3, 4, 5]) ?_)⟩
     refine ro 9 rfl (zk H 2 [.slice a43 (out.length + 1) c44] Tryz.sizeOf27 fun w48 H => ?_)
     try dsimp only [List.set] at H
     refine ⟨H.pick [] [2, 3, 4, 5], (xy (by kernel_rfl) ((meet ⟨_, a43, c44, a37, c38, G46, (by exact rfl), N, H.V8 4 6 [2, 3] [0, 1, 2, 3, 4] (by simp only [List.length_cons]; omega) (by simp only [List.length_cons]; omega)⟩)))⟩
    refine zM H Tryz.underlying27 ti22 [.slice a37 begin.length c38] fun b49 w50 H => ⟨H.pick [] [0, 1, 2, 3], (ro 3 rfl (zl (.slice raout out.length rcout) Tryz.isAgg27 rfl (H.cell 2 rfl rfl) (⟨H.pick [] [0, 1, 2, 3], (ro 7 rfl ?_)⟩)))⟩
    obtain ⟨G54, N, hn55, H⟩ := H.vG 1 rfl N (fun F hF b hb => (List.mem_append.1 (show F ∈ [rFout] ++ Ns from hF)).elim (fun h => (H.yT (L := [rFout]) [3]) F h b hb) fun h => H.awayK (K0.behind 4 rfl) F h b hb)
    try dsimp only [List.set] at H
    refine zV H 3 rfl 0 rfl Tryz.underlying27 ti22 rfl (by decide) rfl rfl rfl (by simp [Value.oneCell', Value.cells]) (by unfold maxLen; omega) (by omega) fun a51 c52 w53 H => ?_
    try dsimp only [List.set] at H
    replace H := H.yl 4 rfl 0 rfl
    replace N : Fresh W0.heap.size ((rFout ++ G54) :: Ns) := (N.V8 2 [1, 0] (by simp only [List.length_cons]; omega)).join
    refine ⟨H.pick [] [2, 3, 4, 5], (rtp 8 (pp bout 0) (H.pick [] [2, 3, 4, 5]) ?_)⟩
    refine ro 9 rfl (zk H 2 [.slice a51 (out.length + 1) c52] Tryz.sizeOf27 fun w56 H => ?_)
    try dsimp only [List.set] at H
    refine ⟨H.pick [] [2, 3, 4, 5], (xy (by kernel_rfl) ((meet ⟨_, a51, c52, a37, c38, G54, (by exact rfl), N, H.V8 4 6 [2, 3] [0, 1, 2, 3, 4] (by simp only [List.length_cons]; omega) (by simp only [List.length_cons]; omega)⟩)))⟩
   clear H N
   rintro ρ w57 ⟨junk, a6, c7, a8, c9, G10, rfl, N, H⟩
   refine t_n (c_ret (t_r (ret0' rfl ⟨_, rfl, ?_⟩)))
   rw [pack_full (by omega) ‹_› p2]
   exact ⟨a6, out.length + 1, c7, rxout ++ [Value.slice a8 begin.length c9], (rFout ++ G10), rfl, N, H.V8 2 5 [0, 1] [2, 3, 4, 0] (by simp only [List.length_cons]; omega) (by simp only [List.length_cons]; omega)⟩
  refine qK (t_n (c_ret (t_r (ret0' rfl ⟨_, rfl, ?_⟩))))
  rw [pack_none (by omega) ‹_› p2]
  exact ⟨raout, out.length, rcout, rxout, rFout, rfl, N, H.V8 2 4 [0, 1] [0, 1, 2, 3] (by simp only [List.length_cons]; omega) (by simp only [List.length_cons]; omega)⟩
 refine qK (t_n (zcr (sp (.int .i64 0) (zjn (qM ?_)))))
 obtain ⟨t1, t2, t3, t4, t5, t6⟩ := p1.times (k := begin.length) (by omega)
 refine xQ (fun m' ρ w58 => ∃ (junk : Env) (n : Nat) (zW : Option Addr) (xZ : Nat) (zH : Nat) (out_1 : List (List Int)) (QC : List Value) (yK : List Nat), ρ = upd (upd (upd (upd (upd (upd junk 0 (.slice arest rest.length crest)) 1 (.slice aparts parts.length cparts)) 2 (.slice abegin begin.length cbegin)) 3 (pp bout 0)) 8 (.int .i64 begin.length)) 9 (.int .i64 n) ∧ out_1 = gath out (begins begin (vV parts (f - 1) begin.length rest n)) ∧ ((n : Int) ≤ vM (parts[begin.length]!) rest + 1) ∧ m' = (vM (parts[begin.length]!) rest + 1 - (n : Int)).toNat ∧ Fresh W0.heap.size (yK :: Ns) ∧ St W0 w58 ((.box bout [.slice zW xZ zH] 27) :: (rr zW xZ zH 22 1 QC) :: ps) ((sF false Frest arest crest rest) :: (sF false Fparts aparts cparts parts) :: (sF false Fbegin abegin cbegin begin) :: (xN true yK QC out_1) :: Γ)) ((vM (parts[begin.length]!) rest + 1 - (0 : Int)).toNat) ⟨_, 0, raout, out.length, rcout, out, rxout, rFout, uE6, (by exact pack_start p2), (by omega), rfl, N, H⟩ ?_
 clear H N
 rintro m' ρ w59 ⟨junk, n, zW, xZ, zH, out_1, QC, yK, rfl, rfl, i0, rfl, N, H⟩
 have hn_out := H.xP (α := List Int) 1 rfl 3 rfl (by decide)
 have gl := gath_len out (begins begin (vV parts (f - 1) begin.length rest n))
 refine zcc (sps [.int .i64 n, .slice aparts parts.length cparts, .int .i64 begin.length] ?_)
 obtain ⟨b60, o61, rfl⟩ := H.addr 1 rfl (by omega)
 obtain ⟨ae63, ce63, Fe63, H⟩ := H.zU 1 rfl begin.length begin.length (by omega) (by omega) (by omega)
 refine oI rfl rfl (oL rfl (H.xB 1 rfl 0 rfl) (sp (.slice arest rest.length crest) ?_))
 obtain ⟨t1, t2, t3, t4, t5, t6⟩ := p1.times (k := begin.length) (by omega)
 refine sw (oq (l01Times_ok _ (parts[begin.length]!) rest (H.get 0 rfl).1 (H.get 2 rfl).1 (by first | assumption | omega) (by first | assumption | omega) (by first | assumption | omega)) H fun w65 H => sps [.bool (decide ((n : Int) ≤ (vM (parts[begin.length]!) rest))), .bool (decide ((n : Int) ≤ (vM (parts[begin.length]!) rest)))] ?_)
 cases h67 : (decide ((n : Int) ≤ (vM (parts[begin.length]!) rest)))
 ·skip
  replace h67 := of_decide_eq_false h67
  refine xJ [37, 38, 39, 40, 41] (sp (.bool false) (zjn (xn false rfl (fun h => absurd h (by decide)) (fun _ => c_exit (t_x (t_x (b_x (ret0 rfl ⟨_, rfl, ?_⟩))))))))
  rw [pack_end p0 (by omega) (by omega) (by omega) (by first | (left; omega) | (right; omega))]
  exact ⟨zW, xZ, zH, QC, yK, rfl, N, H.V8 2 6 [0, 1] [2, 3, 4, 5] (by simp only [List.length_cons]; omega) (by simp only [List.length_cons]; omega)⟩
 replace h67 := of_decide_eq_true h67
 refine qH 36 rfl rfl (sp (pp bout 0) (qH 36 rfl rfl (sp (pp bout 0) (qH 36 rfl rfl (oL rfl (H.cell 0 rfl rfl) (qH 36 rfl rfl (oN rfl (qH 36 rfl rfl (sps [.bool (decide ((xZ : Int) ≤ 2000)), .bool (decide ((xZ : Int) ≤ 2000))] (zjn (cD rfl (fun h68 => ?_) (fun h68 => ?_))))))))))))
 ·skip
  refine qK (t_n (xC (qM (xH (sps [.slice arest rest.length crest, .slice (aa b60 o61) parts.length cparts, .int .i64 begin.length] (oI rfl rfl (oL rfl (H.xB 1 rfl 0 rfl) (sp (.int .i64 n) (sw (o_neg n rfl (by omega) ?_))))))))))
  obtain ⟨u1, u2, u3, u4⟩ := p1.plus (k := begin.length) (by omega) (n := (n : Int)) (by omega) (by omega)
  have sz69 := H.base.size
  have lt70 := all_two (H.ltN (L := [yK]) [5]) (H.ltK (K0.behind 6 rfl))
  refine sw (oc (Xo _ rest (parts[begin.length]!) (-n) (H.get 2 rfl).1 (H.get 0 rfl).1 (by first | assumption | omega) (by first | assumption | omega) (by first | assumption | omega)) ?_)
  rintro v74 w72 r74 x73
  replace H := H.xW x73 r74
  obtain ⟨a75, c76, rfl, hc77, hm78⟩ := H.vN 0 rfl
  refine sps [.slice (aa b60 o61) parts.length cparts, .slice abegin begin.length cbegin] ?_
  have sz79 := H.base.size
  have lt80 := all_two (H.ltN (L := [yK]) [5]) (H.ltK (K0.behind 6 rfl))
  refine sw (oc (Xm _ begin (H.get 4 rfl).1 (by first | assumption | omega)) ?_)
  rintro v84 w82 r84 x83
  replace H := H.xW x83 r84
  obtain ⟨a85, c86, rfl, hc87, hm88⟩ := H.vN 0 rfl
  refine sp (.int .i64 n) (sw (zM H Tryz.underlying22 ti2 [.int .i64 n] fun b89 w90 H => sw (zV H 1 rfl 0 rfl Tryz.underlying22 ti2 rfl (by decide) rfl rfl rfl (by simp [Value.oneCell', Value.cells]) (by unfold maxLen; omega) (by omega) fun a91 c92 w93 H => ?_)))
  rw [snocI] at H
  try dsimp only [List.set] at H
  refine sp (pp bout 0) ?_
  obtain ⟨G94, N, hn95, H⟩ := H.vG 2 rfl N (fun F hF b hb => (List.mem_append.1 (show F ∈ [yK] ++ Ns from hF)).elim (fun h => (H.yT (L := [yK]) [5]) F h b hb) fun h => H.awayK (K0.behind 6 rfl) F h b hb)
  try dsimp only [List.set] at H
  replace H := H.unfreeI 0 rfl
  obtain ⟨G96, N, hn97, H⟩ := H.vG 1 rfl N (fun F hF b hb => (List.mem_append.1 (show F ∈ [G94, yK] ++ Ns from hF)).elim (fun h => (H.yT (L := [G94, yK]) [0, 7]) F h b hb) fun h => H.awayK (K0.behind 8 rfl) F h b hb)
  try dsimp only [List.set] at H
  replace H := H.unfreeI 0 rfl
  have hn98 := H.isLen 0 rfl
  have H1 : St W0 w93 ((.box bout [.slice zW xZ zH] 27) :: (.row (.slice zW xZ zH) 22 1 xZ QC) :: (.box b89 [.int .i64 n] 2) :: (.row (.slice none 0 0) 0 1 0 []) :: (.row (.slice none 0 0) 0 1 0 []) :: ps) ((isF false G94 (.slice a75 ((vk rest (parts[begin.length]!) (-n)).length) c76) (vk rest (parts[begin.length]!) (-n))) :: (isF false Fparts (.slice (aa b60 o61) parts.length cparts) parts) :: (isF false G96 (.slice a91 ((begin ++ [(n : Int)]).length) c92) (begin ++ [(n : Int)])) :: (xN true yK QC (gath out (begins begin (vV parts (f - 1) begin.length rest n)))) :: (isF false G96 (.slice a91 (begin.length + 1) c92) (begin ++ [(n : Int)])) :: (isF true G96 (.slice a91 (begin.length + 1) c92) (begin ++ [(n : Int)])) :: (isF false G94 (.slice a75 ((vk rest (parts[begin.length]!) (-n)).length) c76) (vk rest (parts[begin.length]!) (-n))) :: (isF true G94 (.slice a75 ((vk rest (parts[begin.length]!) (-n)).length) c76) (vk rest (parts[begin.length]!) (-n))) :: (isF false Fe63 (.slice ae63 ((parts[begin.length]!).length) ce63) (parts[begin.length]!)) :: (atF b60 (o61 + (begin.length : Int).toNat * 1) [.slice ae63 ((parts[begin.length]!).length) ce63]) :: (isF false Frest (.slice arest rest.length crest) rest) :: (isF false Fparts (.slice (aa b60 o61) parts.length cparts) parts) :: (isF false Fbegin (.slice abegin begin.length cbegin) begin) :: Γ) := by (try rw [← hn98]); exact H.V8 5 10 [3, 4, 0, 1, 2] [2, 7, 0, 9, 0, 1, 2, 3, 4, 5, 6, 7, 8] (by simp only [List.length_cons]; omega) (by simp only [List.length_cons]; omega)
  have N1 : Fresh _ (yK :: G96 :: G94 :: Ns) := (N.V8 3 [2, 0, 1] (by simp only [List.length_cons]; omega))
  have K1 : Kept (Ns) ((isF false G96 (.slice a91 (begin.length + 1) c92) (begin ++ [(n : Int)])) :: (isF true G96 (.slice a91 (begin.length + 1) c92) (begin ++ [(n : Int)])) :: (sF false G94 a75 c76 (vk rest (parts[begin.length]!) (-n))) :: (sF true G94 a75 c76 (vk rest (parts[begin.length]!) (-n))) :: (sF false Fe63 ae63 ce63 (parts[begin.length]!)) :: (atF b60 (o61 + (begin.length : Int).toNat * 1) [.slice ae63 ((parts[begin.length]!).length) ce63]) :: (sF false Frest arest crest rest) :: (sF false Fparts (aa b60 o61) cparts parts) :: (sF false Fbegin abegin cbegin begin) :: Γ) := K0.behind 9 rfl
  replace K1 := K1.cons (F := G94) 2 rfl rfl
  replace K1 := K1.cons (F := G96) 0 rfl rfl
  refine sw (o_callF #[.slice a75 ((vk rest (parts[begin.length]!) (-n)).length) c76, .slice (aa b60 o61) parts.length cparts, .slice a91 (begin.length + 1) c92, pp bout 0] rfl rfl Tryz.call171 (args_eq (by first | rfl | rw [hn98]) (IH (f - 1) (by omega) (vk rest (parts[begin.length]!) (-n)) parts (begin ++ [(n : Int)]) (gath out (begins begin (vV parts (f - 1) begin.length rest n))) a75 c76 G94 (aa b60 o61) cparts Fparts a91 c92 G96 bout zW xZ zH QC yK H1 N1 K1 (by simp only [List.length_append, List.length_cons, List.length_nil]; omega) (by first | assumption | exact u4) (by first | assumption | (simp only [List.length_nil]; omega) | omega))) ?_)
  clear H H1 N1 K1
  rintro _ w99 ⟨ra100, rn100, rc100, rx100, rF100, rfl, N, H⟩
  obtain rfl := H.xP (α := List Int) 1 rfl 3 rfl (by decide)
  refine xG (b_n (t_n (xH (sp (.int .i64 n) (sw (xX n 1 rfl rfl (by omega) (sp (.int .i64 (n + 1)) (xG ?_))))))))
  refine qR (m' := (vM (parts[begin.length]!) rest + 1 - ((n + 1) : Int)).toNat) (by omega) ⟨_, n + 1, ra100, (gath (gath out (begins begin (vV parts (f - 1) begin.length rest n))) (begins (begin ++ [(n : Int)]) (packs parts (parts.length - (begin ++ [(n : Int)]).length) (begin ++ [(n : Int)]).length (vk rest (parts[begin.length]!) (-n))))).length, rc100, (gath (gath out (begins begin (vV parts (f - 1) begin.length rest n))) (begins (begin ++ [(n : Int)]) (packs parts (parts.length - (begin ++ [(n : Int)]).length) (begin ++ [(n : Int)]).length (vk rest (parts[begin.length]!) (-n))))), rx100, rF100, uE6, ?_, ?_, rfl, (N.V8 3 [0] (by simp only [List.length_cons]; omega)), H.V8 5 13 [0, 1] [10, 11, 12, 3] (by simp only [List.length_cons]; omega) (by simp only [List.length_cons]; omega)⟩
  · exact pack_step p0 (by omega) (by omega)
  · omega
 refine c_exit (t_x (t_x (b_x (ret0 rfl ⟨_, rfl, ?_⟩))))
 rw [pack_end p0 (by omega) (by omega) (by omega) (by first | (left; omega) | (right; omega))]
 exact ⟨zW, xZ, zH, QC, yK, rfl, N, H.V8 2 6 [0, 1] [2, 3, 4, 5] (by simp only [List.length_cons]; omega) (by simp only [List.length_cons]; omega)⟩

theorem l01Pack_ok (f : Nat) : l01Pack_ok_S f := Nat.strongRecOn (motive := l01Pack_ok_S) f fun f IH => by unfold l01Pack_ok_S; intros; apply l01Pack_ok_step f IH <;> assumption

theorem l01All_ok (w : World) (b : List Int) (parts : List (List Int)) {aparts : Option Addr} {cparts : Nat} {Fparts : List Nat} (hb : qB.rep w Fb [.slice ab b.length cb] b) (hparts : qB.rep w Fparts [.slice aparts parts.length cparts] parts) (p0 : VC parts b) : Calls Tryz.prog 136 #[.slice ab b.length cb, .slice aparts parts.length cparts] w (Ret (fun v w' => ∃ (ra0 : Option Addr) (rn0 : Nat) (rc0 : Nat) (rx0 : List Value) (rF0 : List Nat), v = .tuple #[.slice ra0 rn0 rc0, .int .i64 ((zu b parts).2)] ∧ Fresh w.heap.size [rF0] ∧ St w w' [rr ra0 rn0 rc0 22 1 rx0] [xN true rF0 rx0 ((zu b parts).1)]) w) := by
 refine en Tryz.func136 Tryz.ntmps136 ?_
 have H := ((St.start w).arg hparts).arg hb
 have nhb := qx hb
 have nhparts := qx hparts
 clear hb hparts
 have N := Fresh.nil w.heap.size
 have p3 := p0.small
 have p4 := p0.smallB
 refine zcr (sps [.slice none 0 0, .int .i64 0] (zjcc (sp (.slice ab b.length cb) (sw (oq (V3 _ b (H.get 0 rfl).1 (by first | assumption | exact zL (by assumption) | exact yD (by assumption))) H fun w1 H => sp (.bool (decide ((X4 b : Int) > 16))) (zjn (cD rfl (fun h3 => ?_) (fun h3 => ?_))))))))
 ·skip
  refine zcr (sw (vI H Tryz.underlying27 ti22 fun b4 w5 H => sps [.slice (aa b4 0) 0 0, .int .i64 3] (zjr (t_r ?_))))
  replace H := H.boxRow 0 rfl 1 0 rfl (by decide)
  replace H := H.vw (α := List Int)
  refine ret2 (.slice (aa b4 0) 0 0) (.int .i64 3) rfl rfl rfl ⟨_, rfl, ?_, H.base⟩
  first | rw [all_a (by assumption)] | rw [all_b (by assumption) (by assumption)]
  exact ⟨(aa b4 0), 0, 0, [], [], rfl, N.emp, H.pick [0] [0]⟩
 refine qK (t_n (zcr (sw (vI H Tryz.underlying27 ti22 fun b6 w7 H => sw (xM H ti27 [.slice none 0 0] fun b8 w9 H => sw (zk H 0 [.slice (aa b6 0) 0 0] Tryz.sizeOf27 fun w10 H => zjc (sps [.slice ab b.length cb, .slice aparts parts.length cparts] (sw (vI H Tryz.underlying22 ti2 fun b11 w12 H => ?_)))))))))
 replace H := H.boxRowI 0 [] 0
 obtain ⟨G13, N, hn14, H⟩ := H.vG 0 rfl N (H.yT [])
 replace H := H.unfreeI 0 rfl
 have hn15 := H.isLen 0 rfl
 replace H := H.boxRow 2 rfl 1 0 rfl (by decide)
 replace H := H.vw (α := List Int)
 have H1 : St w w12 [.box b8 [.slice (aa b6 0) 0 0] 27, .row (.slice (aa b6 0) 0 0) 22 1 0 [], .row (.slice none 0 0) 0 1 0 []] [isF false Fb (.slice ab b.length cb) b, isF false Fparts (.slice aparts parts.length cparts) parts, isF false G13 (.slice (aa b11 0) (([] : List Int).length) 0) ([] : List Int), xN true [] [] ([] : List (List Int)), isF false G13 (.slice (aa b11 0) 0 0) ([] : List Int), isF true G13 (.slice (aa b11 0) 0 0) ([] : List Int), isF false Fb (.slice ab b.length cb) b, isF false Fparts (.slice aparts parts.length cparts) parts] := by (try rw [← hn15]); exact H.pick [1, 2, 0] [3, 4, 1, 0, 1, 2, 3, 4]
 have N1 : Fresh _ [[], G13] := N.emp
 have K1 : Kept [] [isF false G13 (.slice (aa b11 0) 0 0) ([] : List Int), isF true G13 (.slice (aa b11 0) 0 0) ([] : List Int), sF false Fb ab cb b, sF false Fparts aparts cparts parts] := Kept.nil _
 replace K1 := K1.cons (F := G13) 0 rfl rfl
 refine sw (o_callF #[.slice ab b.length cb, .slice aparts parts.length cparts, .slice (aa b11 0) 0 0, pp b8 0] rfl rfl Tryz.call171 (args_eq (by first | rfl | rw [hn15]) (l01Pack_ok (parts.length - ([] : List Int).length) b parts ([] : List Int) ([] : List (List Int)) ab cb Fb aparts cparts Fparts (aa b11 0) 0 G13 b8 (aa b6 0) 0 0 [] [] H1 N1 K1 (by simp only [List.length_append, List.length_cons, List.length_nil]; omega) (by first | assumption | exact u4) (by first | assumption | (simp only [List.length_nil]; omega) | omega))) ?_)
 clear H H1 N1 K1
 rintro _ w16 ⟨ra17, rn17, rc17, rx17, rF17, rfl, N, H⟩
 obtain rfl := H.xP (α := List Int) 1 rfl 3 rfl (by decide)
 refine zjcc (oL rfl (H.cell 0 rfl rfl) (oN rfl (sp (.bool (decide (((gath ([] : List (List Int)) (begins ([] : List Int) (packs parts (parts.length - ([] : List Int).length) ([] : List Int).length b))).length : Int) > 2000))) (zjn (cD rfl (fun h18 => ?_) (fun h18 => ?_))))))
 ·skip
  refine zcr (sw (vI H Tryz.underlying27 ti22 fun b19 w20 H => sps [.slice (aa b19 0) 0 0, .int .i64 3] (zjr (t_r ?_))))
  replace H := H.boxRow 0 rfl 1 0 rfl (by decide)
  replace H := H.vw (α := List Int)
  refine ret2 (.slice (aa b19 0) 0 0) (.int .i64 3) rfl rfl rfl ⟨_, rfl, ?_, H.base⟩
  first | rw [all_a (by assumption)] | rw [all_b (by assumption) (by assumption)]
  exact ⟨(aa b19 0), 0, 0, [], [], rfl, (N.emp.pick [0]), H.pick [0] [0]⟩
 refine qK (t_n (zcr (oL rfl (H.cell 0 rfl rfl) (sps [.slice ra17 ((gath ([] : List (List Int)) (begins ([] : List Int) (packs parts (parts.length - ([] : List Int).length) ([] : List Int).length b))).length) rc17, .int .i64 0] (zjr (ret2 (.slice ra17 ((gath ([] : List (List Int)) (begins ([] : List Int) (packs parts (parts.length - ([] : List Int).length) ([] : List Int).length b))).length) rc17) (.int .i64 0) rfl rfl rfl ⟨_, rfl, ?_, H.base⟩))))))
 rw [all_0 (by assumption) (by assumption)]
 exact ⟨ra17, (gath ([] : List (List Int)) (begins ([] : List Int) (packs parts (parts.length - ([] : List Int).length) ([] : List Int).length b))).length, rc17, rx17, rF17, rfl, (N.pick [0]), H.pick [1] [3]⟩
theorem l03Before_ok (w : World) (a : List Int) (b : List Int) (ha : qB.rep w Fa [.slice aa a.length ca] a) (hb : qB.rep w Fb [.slice ab b.length cb] b) (p0 : a.length = b.length) : Calls Tryz.prog 102 #[.slice aa a.length ca, .slice ab b.length cb] w (Ret (fun v w' => v = .bool (dec (ahead a b))) w) := by
 refine en Tryz.func102 Tryz.ntmps102 ?_
 have H := ((St.start w).arg hb).arg ha
 have nha := qx ha
 have nhb := qx hb
 clear ha hb
 have N := Fresh.nil w.heap.size
 refine zcr (sp (.bool false) (zjcc (sp (.int .i64 0) (zjn (qM ?_)))))
 refine xQ (fun m' ρ w1 => ∃ (junk : Env) (i : Nat), ρ = upd (upd (upd junk 0 (.slice aa a.length ca)) 1 (.slice ab b.length cb)) 5 (.int .i64 i) ∧ ((i : Int) ≤ a.length) ∧ (SameTo a b i) ∧ m' = (a.length - (i : Int)).toNat ∧ Fresh w.heap.size [] ∧ St w w1 [] [sF false Fa aa ca a, sF false Fb ab cb b]) ((a.length - (0 : Int)).toNat) ⟨_, 0, uE3, (by omega), (by exact fun j hj => by omega), rfl, N, H⟩ ?_
 clear H N
 rintro m' ρ w2 ⟨junk, i, rfl, i0, i1, rfl, N, H⟩
 refine zcc (sps [.int .i64 i, .slice aa a.length ca] (oN rfl (sp (.bool (decide ((i : Int) < a.length))) (zjn (cD rfl (fun h3 => ?_) (fun h3 => ?_))))))
 ·skip
  refine qK (t_n (xC (qM (xC ?_))))
  refine vH rfl H fun H => rtp 0 (.slice aa a.length ca) H ?_
  refine rtp 1 (.int .i64 i) H ?_
  obtain ⟨b5, o6, rfl⟩ := H.addr 0 rfl (by omega)
  refine tI 2 rfl rfl rfl H ?_
  refine tL 3 rfl rfl (fun _ h => h.jA 0 rfl i (by omega)) H ?_
  refine rtp 4 (.slice ab b.length cb) H ?_
  refine rtp 5 (.int .i64 i) H ?_
  obtain ⟨b8, o9, rfl⟩ := H.addr 1 rfl (by omega)
  refine tI 6 rfl rfl rfl H ?_
  refine tL 7 rfl rfl (fun _ h => h.jA 1 rfl i (by omega)) H ?_
  refine rtp 8 (.bool ((a[i]! : Int) != (b[i]!))) H ?_
  refine xy (by kernel_rfl) (t_n (xn ((a[i]! : Int) != (b[i]!)) rfl (fun h11 => ?_) (fun h11 => ?_)))
  ·skip
   replace h11 := bne_iff_ne.1 h11
   refine xC ?_
   refine vH rfl H fun H => rtp 0 (.slice (aa b5 o6) a.length ca) H ?_
   refine rtp 1 (.int .i64 i) H ?_
   refine tI 2 rfl rfl rfl H ?_
   refine tL 3 rfl rfl (fun _ h => h.jA 0 rfl i (by omega)) H ?_
   refine rtp 4 (.slice (aa b8 o9) b.length cb) H ?_
   refine rtp 5 (.int .i64 i) H ?_
   refine tI 6 rfl rfl rfl H ?_
   refine tL 7 rfl rfl (fun _ h => h.jA 1 rfl i (by omega)) H ?_
   refine rtp 8 (.bool (decide ((a[i]! : Int) < (b[i]!)))) H ?_
   refine rtp 9 (.bool (decide ((a[i]! : Int) < (b[i]!)))) H ?_
   refine xy (by kernel_rfl) (t_n (c_ret (zr5 (ret1 (.bool (decide ((a[i]! : Int) < (b[i]!)))) rfl rfl ⟨_, rfl, ?_, H.base⟩))))
   first | rw [qY (ahead_same (show SameTo a b a.length from fun j hj => i1 j (by omega)))] | rw [show decide (a[i]! < b[i]!) = dec (ahead a b) from dec_eq ⟨fun h => ahead_yes i1 (by omega) (of_decide_eq_true h), fun h => decide_eq_true (Classical.byContradiction fun h1 => ahead_no i1 h1 ‹_› h)⟩]
  replace h11 := xf h11
  refine qK (b_n (t_n (xH (sp (.int .i64 i) (sw (xX i 1 rfl rfl (by omega) (sp (.int .i64 (i + 1)) (xG (qR (m' := (a.length - ((i + 1) : Int)).toNat) (by omega) ⟨_, i + 1, uE3, ?_, ?_, rfl, N, H⟩)))))))))
  · omega
  · exact i1.succ (by first | assumption | omega)
 refine zx4 (zcr (sp (.bool false) (zjr (ret1 (.bool false) rfl rfl ⟨_, rfl, ?_, H.base⟩))))
 first | rw [qY (ahead_same (show SameTo a b a.length from fun j hj => i1 j (by omega)))] | rw [show decide (a[i]! < b[i]!) = dec (ahead a b) from dec_eq ⟨fun h => ahead_yes i1 (by omega) (of_decide_eq_true h), fun h => decide_eq_true (Classical.byContradiction fun h1 => ahead_no i1 h1 ‹_› h)⟩]

theorem l03Count_ok (w : World) (all : List (List (List Int))) {aall : Option Addr} {call : Nat} {Fall : List Nat} (hall : qB.rep w Fall [.slice aall all.length call] all) (p0 : ∀ j, j ≤ all.length → ((QO all j : Nat) : Int) ≤ 2862423051509815793) : Calls Tryz.prog 100 #[.slice aall all.length call] w (Ret (fun v w' => v = .int .i64 ((QO all all.length : Nat) : Int)) w) := by
 refine en Tryz.func100 Tryz.ntmps100 ?_
 have H := (St.start w).arg hall
 have nhall := qx hall
 clear hall
 have N := Fresh.nil w.heap.size
 refine zcr (sp (.int .i64 0) (zjc (sp (.int .i64 1) (zjcc (sp (.int .i64 0) (zjn (qM ?_)))))))
 refine xQ (fun m' ρ w1 => ∃ (junk : Env) (n : Int) (i : Nat), ρ = upd (upd (upd junk 0 (.slice aall all.length call)) 3 (.int .i64 n)) 4 (.int .i64 i) ∧ n = ((QO all i : Nat) : Int) ∧ ((i : Int) ≤ all.length) ∧ m' = (all.length - (i : Int)).toNat ∧ Fresh w.heap.size [] ∧ St w w1 [] [sF false Fall aall call all]) ((all.length - (0 : Int)).toNat) ⟨_, 1, 0, uE3, (by rfl), (by omega), rfl, N, H⟩ ?_
 clear H N
 rintro m' ρ w2 ⟨junk, n, i, rfl, rfl, i0, rfl, N, H⟩
 have pm := prod_mul all i
 have pb := fun h => p0 (i + 1) h
 have pn := Int.natCast_nonneg (QO all (i + 1))
 refine zcc (sps [.int .i64 i, .slice aall all.length call] (oN rfl (sp (.bool (decide ((i : Int) < all.length))) (zjn (cD rfl (fun h3 => ?_) (fun h3 => ?_))))))
 ·skip
  refine qK (t_n (xC (qM (xH (sps [.int .i64 ((QO all i : Nat) : Int), .slice aall all.length call, .int .i64 i] ?_)))))
  obtain ⟨b4, o5, rfl⟩ := H.addr 0 rfl (by omega)
  obtain ⟨ae7, ce7, Fe7, H⟩ := H.zU 0 rfl i i (by omega) (by omega) (by omega)
  refine oI rfl rfl (oL rfl (H.xB 1 rfl 0 rfl) (oN rfl (sw (o_mul ((QO all i : Nat) : Int) ((all[i]!).length) rfl rfl (by omega) (sp (.int .i64 (((QO all i : Nat) : Int) * ((all[i]!).length))) (xG (b_n (t_n (xH (sp (.int .i64 i) (sw (xX i 1 rfl rfl (by omega) (sp (.int .i64 (i + 1)) (xG (qR (m' := (all.length - ((i + 1) : Int)).toNat) (by omega) ⟨_, ((QO all i : Nat) : Int) * ((all[i]!).length), i + 1, uE3, ?_, ?_, rfl, N, H.pick [] [2]⟩)))))))))))))))
  · exact prod_mul all i
  · omega
 refine zx4 (zcr (sps [.int .i64 ((QO all i : Nat) : Int), .int .i64 ((QO all i : Nat) : Int)] (zjr (ret1 (.int .i64 ((QO all i : Nat) : Int)) rfl rfl ⟨_, rfl, ?_, H.base⟩))))
 rw [show i = all.length by omega]

theorem l03Choices_ok (w : World) (s : qy) (t : qE) (hs : zK w bs os [.int .i64 s.qJ, .slice qo s.qf.length qm, .slice qC s.qg.length qA]) (qU : qB.rep w qP [.slice qo s.qf.length qm] s.qf) (xx : qB.rep w xu [.slice qC s.qg.length qA] s.qg) (ht : zK w bt ot [.slice qN t.qh.length qL, .slice xh t.ql.length qZ, .slice qG t.qj.length qF]) (xK : qB.rep w xE [.slice qN t.qh.length qL] t.qh) (zn : qB.rep w zf [.slice xh t.ql.length qZ] t.ql) (xA : qB.rep w xw [.slice qG t.qj.length qF] t.qj) (p0 : jG s) (p1 : zt s t) : Calls Tryz.prog 58 #[pp bs os, pp bt ot] w (Ret (fun v w' => ∃ (ra0 : Option Addr) (rn0 : Nat) (rc0 : Nat) (rx0 : List Value) (rF0 : List Nat), v = .tuple #[.slice ra0 rn0 rc0, .int .i64 ((zG s t).2)] ∧ Fresh w.heap.size [rF0] ∧ St w w' [rr ra0 rn0 rc0 22 1 rx0] [xN true rF0 rx0 ((zG s t).1)]) w) := by
 refine en Tryz.func58 Tryz.ntmps58 ?_
 have H := (((((((St.start w).arg xA).arg zn).arg xK).XX ht).arg xx).arg qU).XX hs
 have zJ := qx qU
 have vW := qx xx
 have yJ := qx xK
 have QD := qx zn
 have jB := qx xA
 clear hs qU xx ht xK zn xA
 have N := Fresh.nil w.heap.size
 have p2 := p0.2.1
 have p3 := p0.1.2.1
 have p4 := p1.1
 have p5 := p1.2.1
 refine zcr (sps [.slice none 0 0, .int .i64 0] (zjc (sps [pp bs os, pp bt ot] (sw (zS #[pp bs os, pp bt ot] rfl rfl Tryz.call99 (en Tryz.func99 Tryz.ntmps99 ?_))))))
 refine zcr (sps [.slice none 0 0, .slice none 0 0, .int .i64 0] (zjc (sps [pp bs os, pp bt ot] ?_)))
 have sz4 := H.base.size
 refine sw (oc (l03Applicable_ok _ s t (qw (H.get 0 rfl) 0 3) (H.get 1 rfl).1 (H.get 2 rfl).1 (qw (H.get 3 rfl) 0 3) (H.get 4 rfl).1 (H.get 5 rfl).1 (H.get 6 rfl).1 (by first | assumption | omega) (by first | assumption | omega)) ?_)
 rintro _ w2 ⟨ra1, rn1, rc1, rfl, M, K⟩ _
 replace H := H.merge K M
 obtain rfl := H.rowNB 0 rfl
 have al := appl_len s t
 refine sp (.slice ra1 ((appl s t).length) rc1) (zjc (sw (vI H Tryz.underlying113 ti118 fun b7 w8 H => sp (.slice (aa b7 0) 0 0) (zjc (sw (vI H Tryz.underlying114 ti27 fun b9 w10 H => sp (.slice (aa b9 0) 0 0) (zjcc (sp (.int .i64 0) (zjn (qM ?_))))))))))
 refine xQ (fun m' ρ w11 => ∃ (junk : Env) (c : Nat), ρ = upd (upd (upd (upd (upd (upd junk 0 (pp bs os)) 1 (pp bt ot)) 7 (.slice ra1 ((appl s t).length) rc1)) 8 (.slice (aa b7 0) 0 0)) 9 (.slice (aa b9 0) 0 0)) 10 (.int .i64 c) ∧ ((c : Int) ≤ s.qf.length) ∧ m' = (s.qf.length - (c : Int)).toNat ∧ Fresh w.heap.size [] ∧ St w w11 [.box b9 [] 27, .box b7 [] 118, rr ra1 ((appl s t).length) rc1 4 1 ((appl s t).map (Value.bool))] [atF bs os [.int .i64 s.qJ, .slice qo s.qf.length qm, .slice qC s.qg.length qA], sF false qP qo qm s.qf, sF false xu qC qA s.qg, atF bt ot [.slice qN t.qh.length qL, .slice xh t.ql.length qZ, .slice qG t.qj.length qF], sF false xE qN qL t.qh, sF false zf xh qZ t.ql, sF false xw qG qF t.qj]) ((s.qf.length - (0 : Int)).toNat) ⟨_, 0, uE6, (by omega), rfl, N, H⟩ ?_
 clear H N
 rintro m' ρ w12 ⟨junk, c, rfl, i0, rfl, N, H⟩
 refine zcc (sps [.int .i64 c, pp bs os, pp bs os] (oF rfl (oL rfl (H.xB 0 rfl 1 rfl) (oN rfl (sp (.bool (decide ((c : Int) < s.qf.length))) (zjn (cD rfl (fun h13 => ?_) (fun h13 => ?_))))))))
 ·skip
  refine qK (t_n (xC (qM (zcr (sps [pp bs os, .slice ra1 ((appl s t).length) rc1, .int .i64 c] (sw (zS #[pp bs os, .slice ra1 ((appl s t).length) rc1, .int .i64 c] rfl rfl Tryz.call135 (en Tryz.func135 Tryz.ntmps135 ?_))))))))
  refine zcr (sps [.slice none 0 0, .slice none 0 0] (zjc (sw (vI H Tryz.underlying118 ti3 fun b14 w15 H => sp (.slice (aa b14 0) 0 0) (zjc (sw (vI H Tryz.underlying27 ti22 fun b16 w17 H => sp (.slice (aa b16 0) 0 0) (zjcc (sp (.int .i64 0) (zjn (qM ?_)))))))))))
  replace H := H.boxRowI 1 [] 0
  replace H := H.boxRow 0 rfl 1 0 rfl (by decide)
  replace H := H.vw (α := List Int)
  replace H := H.unfree 0 rfl
  refine xQ (fun m' ρ w18 => ∃ (junk : Env) (vP : Option Addr) (zT : Nat) (vK : Nat) (rules : List Int) (jS : Option Addr) (ja : Nat) (jM : Nat) (needs : List (List Int)) (Xp : List Value) (VY : List Nat) (i : Nat), ρ = upd (upd (upd (upd (upd (upd junk 0 (pp bs os)) 1 (.slice ra1 ((appl s t).length) rc1)) 2 (.int .i64 c)) 8 (.slice vP zT vK)) 9 (.slice jS ja jM)) 10 (.int .i64 i) ∧ rules = (cellT s t i c) ∧ needs = (xI s (cellT s t i c)) ∧ ((i : Int) ≤ ((appl s t).length)) ∧ m' = (((appl s t).length) - (i : Int)).toNat ∧ Fresh w.heap.size [] ∧ St w w18 [rr jS ja jM 22 1 Xp, rr vP zT vK 3 1 (rules.map (Value.int .i64)), .box b9 [] 27, .box b7 [] 118, rr ra1 ((appl s t).length) rc1 4 1 ((appl s t).map (Value.bool))] [xN false VY Xp needs, atF bs os [.int .i64 s.qJ, .slice qo s.qf.length qm, .slice qC s.qg.length qA], sF false qP qo qm s.qf, sF false xu qC qA s.qg, atF bt ot [.slice qN t.qh.length qL, .slice xh t.ql.length qZ, .slice qG t.qj.length qF], sF false xE qN qL t.qh, sF false zf xh qZ t.ql, sF false xw qG qF t.qj]) ((((appl s t).length) - (0 : Int)).toNat) ⟨_, (aa b14 0), 0, 0, ([] : List Int), (aa b16 0), 0, 0, ([] : List (List Int)), [], [], 0, uE6, (by rfl), (by rfl), (by omega), rfl, N, H.pick [0, 1, 2, 3, 4] [0, 2, 3, 4, 5, 6, 7, 8]⟩ ?_
  clear H N
  rintro m' ρ w19 ⟨junk, vP, zT, vK, rules, jS, ja, jM, needs, Xp, VY, i, rfl, rfl, rfl, i0, rfl, N, H⟩
  have hn_rules := H.rowNI 1 rfl
  have hn_needs := H.xP (α := List Int) 0 rfl 0 rfl (by decide)
  have tl := cellT_le s t i c
  have nl := XG s (cellT s t i c)
  refine zcc (sps [.int .i64 i, .slice ra1 ((appl s t).length) rc1] (oN rfl (sp (.bool (decide ((i : Int) < ((appl s t).length)))) (zjn (cD rfl (fun h20 => ?_) (fun h20 => ?_))))))
  ·skip
   refine qK (t_n (xC (qM (zcr (sps [.slice ra1 ((appl s t).length) rc1, .int .i64 i] ?_)))))
   obtain ⟨b21, rfl⟩ := H.Qn 4 rfl (by omega)
   refine oI rfl rfl (oL rfl (H.rowBool 4 rfl (iv := i) (i := i) (by omega) (by omega)) (sp (.bool ((appl s t)[i]!)) ?_))
   cases h22 : ((appl s t)[i]!)
   ·skip
    refine xJ [24, 25, 26, 27, 28, 29, 30, 31, 32, 33] (sp (.bool false) (zjn (xn false rfl (fun h => absurd h (by decide)) (fun _ => qK (b_n (t_n (xH (sp (.int .i64 i) (sw (xX i 1 rfl rfl (by omega) (sp (.int .i64 (i + 1)) (xG (qR (m' := (((appl s t).length) - ((i + 1) : Int)).toNat) (by omega) ⟨_, vP, zT, vK, (cellT s t i c), jS, ja, jM, (xI s (cellT s t i c)), Xp, VY, i + 1, uE6, ?_, ?_, ?_, rfl, N, H⟩)))))))))))))
    · first | exact cellT_yes (Qz (by omega) ‹_›) ‹_› | exact Xd (yP (by omega) ‹_›) | exact QG ‹_›
    · first | exact needs_yes (Qz (by omega) ‹_›) ‹_› | exact congrArg (xI s) (Xd (yP (by omega) ‹_›)) | exact congrArg (xI s) (QG ‹_›)
    · omega
   refine qH 23 rfl rfl (sp (pp bs os) (qH 23 rfl rfl (sp (pp bs os) (qH 23 rfl rfl (oF rfl (qH 23 rfl rfl (oL rfl (H.xB 1 rfl 2 rfl) (qH 23 rfl rfl (sp (.int .i64 i) (qH 23 rfl rfl ?_))))))))))
   obtain ⟨b23, o24, rfl⟩ := H.addr 3 rfl (by omega)
   obtain ⟨ae26Need, ce26Need, Fe26Need, ae26Have, ce26Have, Fe26Have, ae26Lack, ce26Lack, Fe26Lack, ae26Here, ce26Here, Fe26Here, ae26Out, ce26Out, Fe26Out, ae26Into, ce26Into, Fe26Into, H⟩ := H.jy 3 rfl i i (by omega) (by omega) (by omega)
   refine oI rfl rfl (qH 23 rfl rfl (oF rfl (qH 23 rfl rfl (oL rfl (H.xB 6 rfl 0 rfl) (qH 23 rfl rfl (sp (.int .i64 c) (qH 23 rfl rfl (sps [.bool (((s.qg[i]!).qp : Int) == c), .bool (((s.qg[i]!).qp : Int) == c)] (zjn (cE rfl (fun h27 => ?_) (fun h27 => ?_)))))))))))
   ·skip
    refine zcr (sps [.slice vP zT vK, .int .i64 i] (sw (zM H Tryz.underlying118 ti3 [.int .i64 i] fun b28 w29 H => sw (zV H 2 rfl 0 rfl Tryz.underlying118 ti3 rfl (by decide) rfl rfl rfl (by simp [Value.oneCell', Value.cells]) (by unfold maxLen; omega) (by omega) fun a30 c31 w32 H => ?_))))
    rw [snocI] at H
    refine sp (.slice a30 (zT + 1) c31) (zjn (xH (sps [.slice jS ja jM, pp bs os, pp bs os] (oF rfl (oL rfl (H.xB 8 rfl 2 rfl) (sp (.int .i64 i) (oI rfl rfl (oF rfl (oL rfl (H.xB 6 rfl 2 rfl) (sw (zM H Tryz.underlying27 ti22 [.slice ae26Need (((s.qg[i]!).qV).length) ce26Need] fun b33 w34 H => sw (zV H 2 rfl 0 rfl Tryz.underlying27 ti22 rfl (by decide) rfl rfl rfl (by simp [Value.oneCell', Value.cells]) (by unfold maxLen; omega) (by omega) fun a35 c36 w37 H => ?_))))))))))))
    replace H := H.yl 7 rfl 0 rfl
    refine sp (.slice a35 (ja + 1) c36) (xG (b_n (t_n (xH (sp (.int .i64 i) (sw (xX i 1 rfl rfl (by omega) (sp (.int .i64 (i + 1)) (xG (qR (m' := (((appl s t).length) - ((i + 1) : Int)).toNat) (by omega) ⟨_, a30, zT + 1, c31, ((cellT s t i c) ++ [(i : Int)]), a35, ja + 1, c36, ((xI s (cellT s t i c)) ++ [(s.qg[i]!).qV]), Xp ++ [.slice ae26Need (((s.qg[i]!).qV).length) ce26Need], (VY ++ Fe26Need), i + 1, uE6, ?_, ?_, ?_, rfl, N, H.pick [2, 3, 4, 5, 6] [0, 9, 10, 11, 12, 13, 14, 15]⟩))))))))))
    · first | exact cellT_yes (Qz (by omega) ‹_›) ‹_› | exact Xd (yP (by omega) ‹_›) | exact QG ‹_›
    · first | exact needs_yes (Qz (by omega) ‹_›) ‹_› | exact congrArg (xI s) (Xd (yP (by omega) ‹_›)) | exact congrArg (xI s) (QG ‹_›)
    · omega
   refine qK (b_n (t_n (xH (sp (.int .i64 i) (sw (xX i 1 rfl rfl (by omega) (sp (.int .i64 (i + 1)) (xG (qR (m' := (((appl s t).length) - ((i + 1) : Int)).toNat) (by omega) ⟨_, vP, zT, vK, (cellT s t i c), jS, ja, jM, (xI s (cellT s t i c)), Xp, VY, i + 1, uE6, ?_, ?_, ?_, rfl, N, H.pick [0, 1, 2, 3, 4] [7, 8, 9, 10, 11, 12, 13, 14]⟩)))))))))
   · first | exact cellT_yes (Qz (by omega) ‹_›) ‹_› | exact Xd (yP (by omega) ‹_›) | exact QG ‹_›
   · first | exact needs_yes (Qz (by omega) ‹_›) ‹_› | exact congrArg (xI s) (Xd (yP (by omega) ‹_›)) | exact congrArg (xI s) (QG ‹_›)
   · omega
  refine zx4 (zcr (sps [.slice vP zT vK, .slice jS ja jM, .slice vP zT vK, .slice jS ja jM] (zjr (ret2 (.slice vP zT vK) (.slice jS ja jM) rfl rfl rfl ⟨_, rfl, ?_⟩))))
  obtain rfl : i = s.qg.length := by omega
  rw [show cellT s t s.qg.length c = xY s t c from rfl] at H hn_rules hn_needs
  refine sps [.tuple #[.slice vP zT vK, .slice jS ja jM], .slice vP zT vK, .slice jS ja jM, .slice vP zT vK, .slice jS ja jM] (zjc (sp (.slice vP zT vK) (oN rfl (sps [.bool (decide ((zT : Int) > 0)), .bool (decide ((zT : Int) > 0))] ?_))))
  cases h38 : (decide ((zT : Int) > 0))
  ·skip
   replace h38 := of_decide_eq_false h38
   refine xJ [43, 44, 45, 46, 47, 48, 49, 50, 51] (sp (.bool false) (zjn (xn false rfl (fun h => absurd h (by decide)) (fun _ => qK (b_n (t_n (xH (sp (.int .i64 c) (sw (xX c 1 rfl rfl (by omega) (sp (.int .i64 (c + 1)) (xG (qR (m' := (s.qf.length - ((c + 1) : Int)).toNat) (by omega) ⟨_, c + 1, uE6, ?_, rfl, N, H.pick [2, 3, 4] [1, 2, 3, 4, 5, 6, 7]⟩)))))))))))))
   · omega
  replace h38 := of_decide_eq_true h38
  refine qH 42 rfl rfl (sp (pp bt ot) (qH 42 rfl rfl (sp (pp bt ot) (qH 42 rfl rfl (oF rfl (qH 42 rfl rfl (oL rfl (H.xB 4 rfl 1 rfl) (qH 42 rfl rfl (sp (.int .i64 c) (qH 42 rfl rfl ?_))))))))))
  obtain ⟨b39, o40, rfl⟩ := H.addr 6 rfl (by omega)
  obtain ⟨ae42, ce42, Fe42, H⟩ := H.zU 6 rfl c c (by omega) (by omega) (by omega)
  refine oI rfl rfl (qH 42 rfl rfl (oL rfl (H.xB 1 rfl 0 rfl) (qH 42 rfl rfl ?_)))
  have sm := zL (p1.2.2.2.2 c (by omega)).1
  refine sw (oq (V3 _ (t.ql[c]!) (H.get 0 rfl).1 (by first | assumption | exact zL (by assumption) | exact yD (by assumption))) H fun w43 H => qH 42 rfl rfl (sps [.bool (decide ((X4 (t.ql[c]!) : Int) > 16)), .bool (decide ((X4 (t.ql[c]!) : Int) > 16))] (zjn (cD rfl (fun h45 => ?_) (fun h45 => ?_)))))
  ·skip
   refine zcr (sps [.slice (aa b7 0) 0 0, .slice (aa b9 0) 0 0, .slice (aa b7 0) 0 0, .slice (aa b9 0) 0 0, .int .i64 3] (zjr (zr5 (ret3 (.slice (aa b7 0) 0 0) (.slice (aa b9 0) 0 0) (.int .i64 3) rfl rfl rfl rfl ⟨_, rfl, ?_⟩))))
   replace H := H.erases [4, 1, 0]
   dsimp only [jf, List.eraseIdx] at H
   refine sps [.tuple #[.slice (aa b7 0) 0 0, .slice (aa b9 0) 0 0, .int .i64 3], .slice (aa b7 0) 0 0, .slice (aa b9 0) 0 0, .int .i64 3, .slice (aa b7 0) 0 0, .slice (aa b9 0) 0 0, .int .i64 3] (zjcc (sps [.int .i64 3, .bool true] (zjn (xn true rfl (fun _ => zcr (sw (vI H Tryz.underlying27 ti22 fun b46 w47 H => sps [.int .i64 3, .slice (aa b46 0) 0 0, .int .i64 3] (zjr (t_r ?_))))) (fun h => absurd h (by decide))))))
   replace H := H.boxRow 0 rfl 1 0 rfl (by decide)
   replace H := H.vw (α := List Int)
   refine ret2 (.slice (aa b46 0) 0 0) (.int .i64 3) rfl rfl rfl ⟨_, rfl, ?_, H.base⟩
   first | rw [cho_3 (.inl (bad_sum (c := c) (by omega) (by omega) (by omega)))] | rw [cho_3 (.inr (by omega))]
   exact ⟨(aa b46 0), 0, 0, [], [], rfl, N.emp, H.pick [0] [0]⟩
  refine qK (b_n (t_n (xH (sp (.int .i64 c) (sw (xX c 1 rfl rfl (by omega) (sp (.int .i64 (c + 1)) (xG (qR (m' := (s.qf.length - ((c + 1) : Int)).toNat) (by omega) ⟨_, c + 1, uE6, ?_, rfl, N, H.pick [2, 3, 4] [3, 4, 5, 6, 7, 8, 9]⟩)))))))))
  · omega
 refine zx4 (zcc (sp (.int .i64 0) (zjn (qM ?_))))
 replace H := H.boxRow 1 rfl 1 0 rfl (by decide)
 replace H := H.vw (α := List Int)
 replace H := H.boxRow 0 rfl 1 0 rfl (by decide)
 replace H := H.vw (α := List (List Int))
 refine xQ (fun m' ρ w48 => ∃ (junk : Env) (vP : Option Addr) (zT : Nat) (vK : Nat) (rules : List (List Int)) (x_rules : List Value) (F_rules : List Nat) (a_all : Option Addr) (Xq : Nat) (V9 : Nat) (all : List (List (List Int))) (x_all : List Value) (F_all : List Nat) (c_1 : Nat), ρ = upd (upd (upd (upd (upd (upd junk 0 (pp bs os)) 1 (pp bt ot)) 7 (.slice ra1 ((appl s t).length) rc1)) 8 (.slice vP zT vK)) 9 (.slice a_all Xq V9)) 13 (.int .i64 c_1) ∧ rules = (qO s t c_1) ∧ all = (xk s t c_1) ∧ ((c_1 : Int) ≤ s.qf.length) ∧ (GoodP s t c_1) ∧ m' = (s.qf.length - (c_1 : Int)).toNat ∧ Fresh w.heap.size [F_rules, F_all] ∧ St w w48 [rr a_all Xq V9 27 1 x_all, rr vP zT vK 118 1 x_rules, rr ra1 ((appl s t).length) rc1 4 1 ((appl s t).map (Value.bool))] [xN true F_rules x_rules rules, xN true F_all x_all all, atF bs os [.int .i64 s.qJ, .slice qo s.qf.length qm, .slice qC s.qg.length qA], sF false qP qo qm s.qf, sF false xu qC qA s.qg, atF bt ot [.slice qN t.qh.length qL, .slice xh t.ql.length qZ, .slice qG t.qj.length qF], sF false xE qN qL t.qh, sF false zf xh qZ t.ql, sF false xw qG qF t.qj]) ((s.qf.length - (0 : Int)).toNat) ⟨_, (aa b7 0), 0, 0, ([] : List (List Int)), [], [], (aa b9 0), 0, 0, ([] : List (List (List Int))), [], [], 0, uE6, (by rfl), (by rfl), (by omega), (by exact fun j hj => by omega), rfl, N.emp.emp, H⟩ ?_
 clear H N
 rintro m' ρ w49 ⟨junk, vP, zT, vK, rules, x_rules, F_rules, a_all, Xq, V9, all, x_all, F_all, c_1, rfl, rfl, rfl, i0, gp, rfl, N, H⟩
 have hn_rules := H.xP (α := List Int) 1 rfl 0 rfl (by decide)
 have hn_all := H.xP (α := List (List Int)) 0 rfl 1 rfl (by decide)
 have rl := rules_le s t c_1
 have pl := packsL_le s t c_1
 refine zcc (sps [.int .i64 c_1, pp bs os, pp bs os] (oF rfl (oL rfl (H.xB 2 rfl 1 rfl) (oN rfl (sp (.bool (decide ((c_1 : Int) < s.qf.length))) (zjn (cD rfl (fun h50 => ?_) (fun h50 => ?_))))))))
 ·skip
  refine qK (t_n (xC (qM (zcr (sps [pp bs os, .slice ra1 ((appl s t).length) rc1, .int .i64 c_1] (sw (zS #[pp bs os, .slice ra1 ((appl s t).length) rc1, .int .i64 c_1] rfl rfl Tryz.call135 (en Tryz.func135 Tryz.ntmps135 ?_))))))))
  refine zcr (sps [.slice none 0 0, .slice none 0 0] (zjc (sw (vI H Tryz.underlying118 ti3 fun b51 w52 H => sp (.slice (aa b51 0) 0 0) (zjc (sw (vI H Tryz.underlying27 ti22 fun b53 w54 H => sp (.slice (aa b53 0) 0 0) (zjcc (sp (.int .i64 0) (zjn (qM ?_)))))))))))
  replace H := H.boxRowI 1 [] 0
  replace H := H.boxRow 0 rfl 1 0 rfl (by decide)
  replace H := H.vw (α := List Int)
  replace H := H.unfree 0 rfl
  refine xQ (fun m' ρ w55 => ∃ (junk : Env) (Ql : Option Addr) (yB : Nat) (Qk : Nat) (rules_1 : List Int) (jS : Option Addr) (ja : Nat) (jM : Nat) (needs : List (List Int)) (Xp : List Value) (VY : List Nat) (i : Nat), ρ = upd (upd (upd (upd (upd (upd junk 0 (pp bs os)) 1 (.slice ra1 ((appl s t).length) rc1)) 2 (.int .i64 c_1)) 8 (.slice Ql yB Qk)) 9 (.slice jS ja jM)) 10 (.int .i64 i) ∧ rules_1 = (cellT s t i c_1) ∧ needs = (xI s (cellT s t i c_1)) ∧ ((i : Int) ≤ ((appl s t).length)) ∧ m' = (((appl s t).length) - (i : Int)).toNat ∧ Fresh w.heap.size [F_rules, F_all] ∧ St w w55 [rr jS ja jM 22 1 Xp, rr Ql yB Qk 3 1 (rules_1.map (Value.int .i64)), rr a_all Xq V9 27 1 x_all, rr vP zT vK 118 1 x_rules, rr ra1 ((appl s t).length) rc1 4 1 ((appl s t).map (Value.bool))] [xN false VY Xp needs, xN true F_rules x_rules (qO s t c_1), xN true F_all x_all (xk s t c_1), atF bs os [.int .i64 s.qJ, .slice qo s.qf.length qm, .slice qC s.qg.length qA], sF false qP qo qm s.qf, sF false xu qC qA s.qg, atF bt ot [.slice qN t.qh.length qL, .slice xh t.ql.length qZ, .slice qG t.qj.length qF], sF false xE qN qL t.qh, sF false zf xh qZ t.ql, sF false xw qG qF t.qj]) ((((appl s t).length) - (0 : Int)).toNat) ⟨_, (aa b51 0), 0, 0, ([] : List Int), (aa b53 0), 0, 0, ([] : List (List Int)), [], [], 0, uE6, (by rfl), (by rfl), (by omega), rfl, N, H.pick [0, 1, 2, 3, 4] [0, 2, 3, 4, 5, 6, 7, 8, 9, 10]⟩ ?_
  clear H N
  rintro m' ρ w56 ⟨junk, Ql, yB, Qk, rules_1, jS, ja, jM, needs, Xp, VY, i, rfl, rfl, rfl, i0, rfl, N, H⟩
  have hn_rules := H.rowNI 1 rfl
  have hn_needs := H.xP (α := List Int) 0 rfl 0 rfl (by decide)
  have tl := cellT_le s t i c_1
  have nl := XG s (cellT s t i c_1)
  refine zcc (sps [.int .i64 i, .slice ra1 ((appl s t).length) rc1] (oN rfl (sp (.bool (decide ((i : Int) < ((appl s t).length)))) (zjn (cD rfl (fun h57 => ?_) (fun h57 => ?_))))))
  ·skip
   refine qK (t_n (xC (qM (zcr (sps [.slice ra1 ((appl s t).length) rc1, .int .i64 i] ?_)))))
   obtain ⟨b58, rfl⟩ := H.Qn 4 rfl (by omega)
   refine oI rfl rfl (oL rfl (H.rowBool 4 rfl (iv := i) (i := i) (by omega) (by omega)) (sp (.bool ((appl s t)[i]!)) ?_))
   cases h59 : ((appl s t)[i]!)
   ·skip
    refine xJ [24, 25, 26, 27, 28, 29, 30, 31, 32, 33] (sp (.bool false) (zjn (xn false rfl (fun h => absurd h (by decide)) (fun _ => qK (b_n (t_n (xH (sp (.int .i64 i) (sw (xX i 1 rfl rfl (by omega) (sp (.int .i64 (i + 1)) (xG (qR (m' := (((appl s t).length) - ((i + 1) : Int)).toNat) (by omega) ⟨_, Ql, yB, Qk, (cellT s t i c_1), jS, ja, jM, (xI s (cellT s t i c_1)), Xp, VY, i + 1, uE6, ?_, ?_, ?_, rfl, N, H⟩)))))))))))))
    · first | exact cellT_yes (Qz (by omega) ‹_›) ‹_› | exact Xd (yP (by omega) ‹_›) | exact QG ‹_›
    · first | exact needs_yes (Qz (by omega) ‹_›) ‹_› | exact congrArg (xI s) (Xd (yP (by omega) ‹_›)) | exact congrArg (xI s) (QG ‹_›)
    · omega
   refine qH 23 rfl rfl (sp (pp bs os) (qH 23 rfl rfl (sp (pp bs os) (qH 23 rfl rfl (oF rfl (qH 23 rfl rfl (oL rfl (H.xB 3 rfl 2 rfl) (qH 23 rfl rfl (sp (.int .i64 i) (qH 23 rfl rfl ?_))))))))))
   obtain ⟨b60, o61, rfl⟩ := H.addr 5 rfl (by omega)
   obtain ⟨ae63Need, ce63Need, Fe63Need, ae63Have, ce63Have, Fe63Have, ae63Lack, ce63Lack, Fe63Lack, ae63Here, ce63Here, Fe63Here, ae63Out, ce63Out, Fe63Out, ae63Into, ce63Into, Fe63Into, H⟩ := H.jy 5 rfl i i (by omega) (by omega) (by omega)
   refine oI rfl rfl (qH 23 rfl rfl (oF rfl (qH 23 rfl rfl (oL rfl (H.xB 6 rfl 0 rfl) (qH 23 rfl rfl (sp (.int .i64 c_1) (qH 23 rfl rfl (sps [.bool (((s.qg[i]!).qp : Int) == c_1), .bool (((s.qg[i]!).qp : Int) == c_1)] (zjn (cE rfl (fun h64 => ?_) (fun h64 => ?_)))))))))))
   ·skip
    refine zcr (sps [.slice Ql yB Qk, .int .i64 i] (sw (zM H Tryz.underlying118 ti3 [.int .i64 i] fun b65 w66 H => sw (zV H 2 rfl 0 rfl Tryz.underlying118 ti3 rfl (by decide) rfl rfl rfl (by simp [Value.oneCell', Value.cells]) (by unfold maxLen; omega) (by omega) fun a67 c68 w69 H => ?_))))
    rw [snocI] at H
    refine sp (.slice a67 (yB + 1) c68) (zjn (xH (sps [.slice jS ja jM, pp bs os, pp bs os] (oF rfl (oL rfl (H.xB 10 rfl 2 rfl) (sp (.int .i64 i) (oI rfl rfl (oF rfl (oL rfl (H.xB 6 rfl 2 rfl) (sw (zM H Tryz.underlying27 ti22 [.slice ae63Need (((s.qg[i]!).qV).length) ce63Need] fun b70 w71 H => sw (zV H 2 rfl 0 rfl Tryz.underlying27 ti22 rfl (by decide) rfl rfl rfl (by simp [Value.oneCell', Value.cells]) (by unfold maxLen; omega) (by omega) fun a72 c73 w74 H => ?_))))))))))))
    replace H := H.yl 7 rfl 0 rfl
    refine sp (.slice a72 (ja + 1) c73) (xG (b_n (t_n (xH (sp (.int .i64 i) (sw (xX i 1 rfl rfl (by omega) (sp (.int .i64 (i + 1)) (xG (qR (m' := (((appl s t).length) - ((i + 1) : Int)).toNat) (by omega) ⟨_, a67, yB + 1, c68, ((cellT s t i c_1) ++ [(i : Int)]), a72, ja + 1, c73, ((xI s (cellT s t i c_1)) ++ [(s.qg[i]!).qV]), Xp ++ [.slice ae63Need (((s.qg[i]!).qV).length) ce63Need], (VY ++ Fe63Need), i + 1, uE6, ?_, ?_, ?_, rfl, N, H.pick [2, 3, 4, 5, 6] [0, 9, 10, 11, 12, 13, 14, 15, 16, 17]⟩))))))))))
    · first | exact cellT_yes (Qz (by omega) ‹_›) ‹_› | exact Xd (yP (by omega) ‹_›) | exact QG ‹_›
    · first | exact needs_yes (Qz (by omega) ‹_›) ‹_› | exact congrArg (xI s) (Xd (yP (by omega) ‹_›)) | exact congrArg (xI s) (QG ‹_›)
    · omega
   refine qK (b_n (t_n (xH (sp (.int .i64 i) (sw (xX i 1 rfl rfl (by omega) (sp (.int .i64 (i + 1)) (xG (qR (m' := (((appl s t).length) - ((i + 1) : Int)).toNat) (by omega) ⟨_, Ql, yB, Qk, (cellT s t i c_1), jS, ja, jM, (xI s (cellT s t i c_1)), Xp, VY, i + 1, uE6, ?_, ?_, ?_, rfl, N, H.pick [0, 1, 2, 3, 4] [7, 8, 9, 10, 11, 12, 13, 14, 15, 16]⟩)))))))))
   · first | exact cellT_yes (Qz (by omega) ‹_›) ‹_› | exact Xd (yP (by omega) ‹_›) | exact QG ‹_›
   · first | exact needs_yes (Qz (by omega) ‹_›) ‹_› | exact congrArg (xI s) (Xd (yP (by omega) ‹_›)) | exact congrArg (xI s) (QG ‹_›)
   · omega
  refine zx4 (zcr (sps [.slice Ql yB Qk, .slice jS ja jM, .slice Ql yB Qk, .slice jS ja jM] (zjr (ret2 (.slice Ql yB Qk) (.slice jS ja jM) rfl rfl rfl ⟨_, rfl, ?_⟩))))
  obtain rfl : i = s.qg.length := by omega
  rw [show cellT s t s.qg.length c_1 = xY s t c_1 from rfl] at H hn_rules hn_needs
  refine sps [.tuple #[.slice Ql yB Qk, .slice jS ja jM], .slice Ql yB Qk, .slice jS ja jM, .slice Ql yB Qk, .slice jS ja jM] (zjcc (sp (.slice Ql yB Qk) (oN rfl (sp (.bool ((yB : Int) == 0)) (zjn (cE rfl (fun h75 => ?_) (fun h75 => ?_)))))))
  ·skip
   refine c_exit (t_x (b_x (t_n (xH (sp (.int .i64 c_1) (sw (xX c_1 1 rfl rfl (by omega) (sp (.int .i64 (c_1 + 1)) (xG (qR (m' := (s.qf.length - ((c_1 + 1) : Int)).toNat) (by omega) ⟨_, vP, zT, vK, (qO s t c_1), x_rules, F_rules, a_all, Xq, V9, (xk s t c_1), x_all, F_all, c_1 + 1, uE6, ?_, ?_, ?_, ?_, rfl, N, H.pick [2, 3, 4] [1, 2, 3, 4, 5, 6, 7, 8, 9]⟩))))))))))
   · first | exact rules_yes (by omega) | exact rules_no (by omega)
   · first | exact packsL_yes (by omega) | exact packsL_no (by omega)
   · omega
   · exact gp.succ (by first | exact .inl (by omega) | exact .inr (show (zu _ _).2 = 0 from ‹_›))
  refine qK (t_n (zcr (sps [pp bt ot, pp bt ot] (oF rfl (oL rfl (H.xB 6 rfl 1 rfl) (sp (.int .i64 c_1) ?_))))))
  obtain ⟨b76, o77, rfl⟩ := H.addr 8 rfl (by omega)
  obtain ⟨ae79, ce79, Fe79, H⟩ := H.zU 8 rfl c_1 c_1 (by omega) (by omega) (by omega)
  refine oI rfl rfl (oL rfl (H.xB 1 rfl 0 rfl) (sp (.slice jS ja jM) ?_))
  obtain ⟨G80, hn81, h82⟩ := H.rowIsR (α := List Int) 0 rfl 2 rfl (by decide)
  have cp := cell_pack p0 p1 (c := c_1) (by omega)
  have sz86 := H.base.size
  have lt87 := H.ltN (L := [F_rules, F_all]) [3, 4]
  refine sw (oc (args_eq (by rw [← hn81]) (l01All_ok _ (t.ql[c_1]!) (xI s (xY s t c_1)) (H.get 0 rfl).1 (hn81 ▸ h82) (by first | assumption | omega))) ?_)
  rintro _ w84 ⟨ra83a, rn83a, rc83a, rx83a, rF83a, rfl, M, K⟩ _
  replace N := N.merge sz86 lt87 M
  replace H := H.merge K M
  obtain rfl := H.xP (α := List Int) 0 rfl 0 rfl (by decide)
  refine sps [.tuple #[.slice ra83a (((zu (t.ql[c_1]!) (xI s (xY s t c_1))).1).length) rc83a, .int .i64 ((zu (t.ql[c_1]!) (xI s (xY s t c_1))).2)], .slice ra83a (((zu (t.ql[c_1]!) (xI s (xY s t c_1))).1).length) rc83a, .int .i64 ((zu (t.ql[c_1]!) (xI s (xY s t c_1))).2), .slice ra83a (((zu (t.ql[c_1]!) (xI s (xY s t c_1))).1).length) rc83a, .int .i64 ((zu (t.ql[c_1]!) (xI s (xY s t c_1))).2)] (zjcc (sps [.int .i64 ((zu (t.ql[c_1]!) (xI s (xY s t c_1))).2), .bool (((zu (t.ql[c_1]!) (xI s (xY s t c_1))).2 : Int) != 0)] (zjn ?_)))
  refine xn (((zu (t.ql[c_1]!) (xI s (xY s t c_1))).2 : Int) != 0) rfl (fun h89 => ?_) (fun h89 => ?_)
  ·skip
   replace h89 := bne_iff_ne.1 h89
   refine zcr (sps [.slice vP zT vK, .slice a_all Xq V9, .int .i64 ((zu (t.ql[c_1]!) (xI s (xY s t c_1))).2), .slice vP zT vK, .slice a_all Xq V9, .int .i64 ((zu (t.ql[c_1]!) (xI s (xY s t c_1))).2)] (zjr (t_r (zr5 (ret3 (.slice vP zT vK) (.slice a_all Xq V9) (.int .i64 ((zu (t.ql[c_1]!) (xI s (xY s t c_1))).2)) rfl rfl rfl rfl ⟨_, rfl, ?_⟩)))))
   replace H := H.erases [5, 2, 1, 0]
   dsimp only [jf, List.eraseIdx] at H
   refine sps [.tuple #[.slice vP zT vK, .slice a_all Xq V9, .int .i64 ((zu (t.ql[c_1]!) (xI s (xY s t c_1))).2)], .slice vP zT vK, .slice a_all Xq V9, .int .i64 ((zu (t.ql[c_1]!) (xI s (xY s t c_1))).2), .slice vP zT vK, .slice a_all Xq V9, .int .i64 ((zu (t.ql[c_1]!) (xI s (xY s t c_1))).2)] (zjcc (sps [.int .i64 ((zu (t.ql[c_1]!) (xI s (xY s t c_1))).2), .bool (((zu (t.ql[c_1]!) (xI s (xY s t c_1))).2 : Int) != 0)] (zjn ?_)))
   refine xn (((zu (t.ql[c_1]!) (xI s (xY s t c_1))).2 : Int) != 0) rfl (fun h90 => ?_) (fun h => absurd (xf h) h89)
   replace h90 := bne_iff_ne.1 h90
   refine zcr (sw (vI H Tryz.underlying27 ti22 fun b91 w92 H => sps [.int .i64 ((zu (t.ql[c_1]!) (xI s (xY s t c_1))).2), .slice (aa b91 0) 0 0, .int .i64 ((zu (t.ql[c_1]!) (xI s (xY s t c_1))).2)] (zjr (t_r ?_))))
   replace H := H.boxRow 0 rfl 1 0 rfl (by decide)
   replace H := H.vw (α := List Int)
   refine ret2 (.slice (aa b91 0) 0 0) (.int .i64 ((zu (t.ql[c_1]!) (xI s (xY s t c_1))).2)) rfl rfl rfl ⟨_, rfl, ?_, H.base⟩
   rw [cho_code (bad_code (c := c_1) (by omega) (by omega) ‹_›) ‹_›]
   exact ⟨(aa b91 0), 0, 0, [], [], rfl, (N.emp.pick [0]), H.pick [0] [0]⟩
  replace h89 := xf h89
  refine qK (t_n (zcr (sps [.slice vP zT vK, .slice Ql yB Qk] (sw (zM H Tryz.underlying113 ti118 [.slice Ql yB Qk] fun b93 w94 H => ?_)))))
  obtain ⟨G98, N, hn99, H⟩ := H.vG 3 rfl N (H.yT [0, 4, 5])
  refine sw (zV H 5 rfl 0 rfl Tryz.underlying113 ti118 rfl (by decide) rfl rfl rfl (by simp [Value.oneCell', Value.cells]) (by unfold maxLen; omega) (by omega) fun a95 c96 w97 H => ?_)
  replace H := H.yl 5 rfl 0 rfl
  replace N : Fresh w.heap.size [(F_rules ++ G98), rF83a, F_all] := (N.pick [2, 0, 1, 3]).join
  refine sp (.slice a95 (zT + 1) c96) (zjn (xH (sps [.slice a_all Xq V9, .slice ra83a (((zu (t.ql[c_1]!) (xI s (xY s t c_1))).1).length) rc83a] (sw (zM H Tryz.underlying114 ti27 [.slice ra83a (((zu (t.ql[c_1]!) (xI s (xY s t c_1))).1).length) rc83a] fun b100 w101 H => ?_)))))
  have H0 := H
  obtain ⟨G105, hg107, hn106, H⟩ := H.VU (α := List Int) 2 rfl 2 rfl (by decide)
  replace N : Fresh w.heap.size [G105, (F_rules ++ G98), F_all] := Fresh.ice (N.pick [1, 0, 2]) H0 2 hg107.1 hg107.2 (H0.yT [0, 7])
  clear H0
  refine sw (zV H 5 rfl 0 rfl Tryz.underlying114 ti27 rfl (by decide) rfl rfl rfl (by simp [Value.oneCell', Value.cells]) (by unfold maxLen; omega) (by omega) fun a102 c103 w104 H => ?_)
  replace H := H.yl 8 rfl 0 rfl
  replace N : Fresh w.heap.size [(F_all ++ G105), (F_rules ++ G98)] := (N.pick [2, 0, 1]).join
  refine sp (.slice a102 (Xq + 1) c103) (xG (b_n (t_n (xH (sp (.int .i64 c_1) (sw (xX c_1 1 rfl rfl (by omega) (sp (.int .i64 (c_1 + 1)) (xG ?_)))))))))
  refine qR (m' := (s.qf.length - ((c_1 + 1) : Int)).toNat) (by omega) ⟨_, a95, zT + 1, c96, ((qO s t c_1) ++ [(xY s t c_1)]), x_rules ++ [.slice Ql yB Qk], (F_rules ++ G98), a102, Xq + 1, c103, ((xk s t c_1) ++ [(zu (t.ql[c_1]!) (xI s (xY s t c_1))).1]), x_all ++ [.slice ra83a (((zu (t.ql[c_1]!) (xI s (xY s t c_1))).1).length) rc83a], (F_all ++ G105), c_1 + 1, uE6, ?_, ?_, ?_, ?_, rfl, (N.pick [1, 0]), H.pick [5, 6, 7] [2, 0, 10, 11, 12, 13, 14, 15, 16]⟩
  · first | exact rules_yes (by omega) | exact rules_no (by omega)
  · first | exact packsL_yes (by omega) | exact packsL_no (by omega)
  · omega
  · exact gp.succ (by first | exact .inl (by omega) | exact .inr (show (zu _ _).2 = 0 from ‹_›))
 refine zx4 (zcr (sps [.slice vP zT vK, .slice a_all Xq V9, .slice vP zT vK, .slice a_all Xq V9, .int .i64 0] (zjr (ret3 (.slice vP zT vK) (.slice a_all Xq V9) (.int .i64 0) rfl rfl rfl rfl ⟨_, rfl, ?_⟩))))
 replace H := H.erases [2]
 dsimp only [jf, List.eraseIdx] at H
 obtain rfl : c_1 = s.qf.length := by omega
 have kb := prod_bd p0 p1 (k := s.qf.length) (by omega) gp
 have kn := packsL_ne p0 p1 (k := s.qf.length) (by omega) gp
 have kr := rules_le s t s.qf.length
 have kl := packsL_le s t s.qf.length
 refine sps [.tuple #[.slice vP zT vK, .slice a_all Xq V9, .int .i64 0], .slice vP zT vK, .slice a_all Xq V9, .int .i64 0, .slice vP zT vK, .slice a_all Xq V9, .int .i64 0] (zjcc (sps [.int .i64 0, .bool false] (zjn (xn false rfl (fun h => absurd h (by decide)) (fun _ => qK (t_n (zcc (sp (.slice a_all Xq V9) ?_))))))))
 obtain ⟨G108, hn109, h110⟩ := H.rowIsR (α := List (List Int)) 0 rfl 1 rfl (by decide)
 refine sw (oq (args_eq (by rw [← hn109]) (l03Count_ok _ (xk s t s.qf.length) (hn109 ▸ h110) (by first | assumption | omega))) H fun w112 H => sp (.bool (decide ((((QO (xk s t s.qf.length) (xk s t s.qf.length).length : Nat) : Int) : Int) > 300))) (zjn (cD rfl (fun h114 => ?_) (fun h114 => ?_))))
 ·skip
  refine zcr (sw (vI H Tryz.underlying27 ti22 fun b115 w116 H => sps [.slice (aa b115 0) 0 0, .int .i64 3] (zjr (t_r ?_))))
  replace H := H.boxRow 0 rfl 1 0 rfl (by decide)
  replace H := H.vw (α := List Int)
  refine ret2 (.slice (aa b115 0) 0 0) (.int .i64 3) rfl rfl rfl ⟨_, rfl, ?_, H.base⟩
  first | rw [cho_3 (.inl (bad_sum (c := c) (by omega) (by omega) (by omega)))] | rw [cho_3 (.inr (by omega))]
  exact ⟨(aa b115 0), 0, 0, [], [], rfl, (N.emp.pick [0]), H.pick [0] [0]⟩
 have kc : ¬ QO (xk s t s.qf.length) (xk s t s.qf.length).length > 300 := by omega
 refine qK (t_n (zcr (sps [pp bs os, pp bs os] (oF rfl (oL rfl (H.xB 2 rfl 2 rfl) (oN rfl (sw (Xa H Tryz.underlying22 ti2 s.qg.length rfl rfl (by omega) (by omega) (by omega) fun b117 w118 H => sw (zM H Tryz.underlying27 ti22 [.slice (aa b117 0) s.qg.length s.qg.length] fun b119 w120 H => sp (.slice (aa b119 0) 1 1) (zjcc (sp (.int .i64 0) (zjn (qM ?_)))))))))))))
 have H0 := H
 obtain ⟨G121, hg123, hn122, H⟩ := H.VU (α := List Int) 3 rfl 0 rfl (by decide)
 replace N : Fresh w.heap.size [G121, F_all] := Fresh.ice N H0 3 hg123.1 hg123.2 (H0.yT [1])
 clear H0
 have H0 := H
 obtain ⟨G124, hg126, hn125, H⟩ := H.VU (α := List (List Int)) 2 rfl 2 rfl (by decide)
 replace N : Fresh w.heap.size [G124, G121] := Fresh.ice (N.pick [1, 0]) H0 2 hg126.1 hg126.2 (H0.yT [0])
 clear H0
 replace H := H.boxRow 0 rfl 1 1 rfl (by decide)
 replace H := H.vw (α := List Int)
 obtain ⟨G127, N, hn128, H⟩ := H.vG 1 rfl N (H.yT [1, 2])
 replace H := H.VK true 0 rfl 1 rfl (by simp)
 replace N : Fresh w.heap.size [(G127 ++ []), G124, G121] := (N.emp.pick [1, 0, 2, 3]).join
 refine xQ (fun m' ρ w129 => ∃ (junk : Env) (zW : Option Addr) (xZ : Nat) (zH : Nat) (out : List (List Int)) (QC : List Value) (yK : List Nat) (i : Nat), ρ = upd (upd (upd (upd junk 6 (.slice vP zT vK)) 7 (.slice a_all Xq V9)) 9 (.slice zW xZ zH)) 10 (.int .i64 i) ∧ out = (vF s.qg.length (qO s t s.qf.length) (xk s t s.qf.length) i) ∧ ((i : Int) ≤ Xq) ∧ m' = (Xq - (i : Int)).toNat ∧ Fresh w.heap.size [G124, G121, yK] ∧ St w w129 [rr zW xZ zH 22 1 QC] [xN true yK QC out, isF true G124 (.slice a_all Xq V9) (xk s t s.qf.length), isF true G121 (.slice vP zT vK) (qO s t s.qf.length)]) ((Xq - (0 : Int)).toNat) ⟨_, (aa b119 0), 1, 1, [(List.replicate s.qg.length (0 : Int))], [.slice (aa b117 0) s.qg.length s.qg.length], (G127 ++ []), 0, uE4, (by rfl), (by omega), rfl, (N.pick [1, 2, 0]), H.pick [0] [0, 3, 4]⟩ ?_
 clear H N
 rintro m' ρ w130 ⟨junk, zW, xZ, zH, out, QC, yK, i, rfl, rfl, i0, rfl, N, H⟩
 have hn_out := H.xP (α := List Int) 0 rfl 0 rfl (by decide)
 refine zcc (sps [.int .i64 i, .slice a_all Xq V9] (oN rfl (sp (.bool (decide ((i : Int) < Xq))) (zjn (cD rfl (fun h131 => ?_) (fun h131 => ?_))))))
 ·skip
  have ga := G_le (n := s.qg.length) (rs := (qO s t s.qf.length)) (i := i) kn kc (by omega)
  obtain ⟨gb, gc⟩ := cell_few (s := s) (t := t) (n := s.qf.length) (i := i) p0 (by omega)
  refine qK (t_n (xC (qM (zcr (sw (vI H Tryz.underlying27 ti22 fun b132 w133 H => sp (.slice (aa b132 0) 0 0) (zjcc (sp (.int .i64 0) (zjn (qM ?_))))))))))
  replace H := H.boxRow 0 rfl 1 0 rfl (by decide)
  replace H := H.vw (α := List Int)
  refine xQ (fun m' ρ w134 => ∃ (junk : Env) (a_next : Option Addr) (n_next : Nat) (c_next : Nat) (next : List (List Int)) (x_next : List Value) (F_next : List Nat) (k : Nat), ρ = upd (upd (upd (upd (upd (upd junk 6 (.slice vP zT vK)) 7 (.slice a_all Xq V9)) 9 (.slice zW xZ zH)) 10 (.int .i64 i)) 11 (.slice a_next n_next c_next)) 12 (.int .i64 k) ∧ next = (nextK (vF s.qg.length (qO s t s.qf.length) (xk s t s.qf.length) i) ((qO s t s.qf.length)[i]!) ((xk s t s.qf.length)[i]!) k) ∧ ((k : Int) ≤ xZ) ∧ m' = (xZ - (k : Int)).toNat ∧ Fresh w.heap.size [G124, G121, yK, F_next] ∧ St w w134 [rr a_next n_next c_next 22 1 x_next, rr zW xZ zH 22 1 QC] [xN true F_next x_next next, xN true yK QC (vF s.qg.length (qO s t s.qf.length) (xk s t s.qf.length) i), isF true G124 (.slice a_all Xq V9) (xk s t s.qf.length), isF true G121 (.slice vP zT vK) (qO s t s.qf.length)]) ((xZ - (0 : Int)).toNat) ⟨_, (aa b132 0), 0, 0, ([] : List (List Int)), [], [], 0, uE6, (by rfl), (by omega), rfl, (N.emp.pick [1, 2, 3, 0]), H⟩ ?_
  clear H N
  rintro m' ρ w135 ⟨junk, a_next, n_next, c_next, next, x_next, F_next, k, rfl, rfl, i0, rfl, N, H⟩
  have hn_next := H.xP (α := List Int) 0 rfl 0 rfl (by decide)
  refine zcc (sps [.int .i64 k, .slice zW xZ zH] (oN rfl (sp (.bool (decide ((k : Int) < xZ))) (zjn (cD rfl (fun h136 => ?_) (fun h136 => ?_))))))
  ·skip
   refine qK (t_n (xC (qM (zcr (sp (.int .i64 0) (zjn (qM ?_)))))))
   refine xQ (fun m' ρ w137 => ∃ (junk : Env) (QV : Option Addr) (yR : Nat) (QU : Nat) (next_1 : List (List Int)) (Q7 : List Value) (Qs : List Nat) (x : Nat), ρ = upd (upd (upd (upd (upd (upd (upd junk 6 (.slice vP zT vK)) 7 (.slice a_all Xq V9)) 9 (.slice zW xZ zH)) 10 (.int .i64 i)) 11 (.slice QV yR QU)) 12 (.int .i64 k)) 13 (.int .i64 x) ∧ next_1 = (nextX (vF s.qg.length (qO s t s.qf.length) (xk s t s.qf.length) i) ((qO s t s.qf.length)[i]!) ((xk s t s.qf.length)[i]!) k x) ∧ ((x : Int) ≤ (((xk s t s.qf.length)[i]!).length)) ∧ m' = ((((xk s t s.qf.length)[i]!).length) - (x : Int)).toNat ∧ Fresh w.heap.size [G124, G121, yK, Qs] ∧ St w w137 [rr QV yR QU 22 1 Q7, rr zW xZ zH 22 1 QC] [xN true Qs Q7 next_1, xN true yK QC (vF s.qg.length (qO s t s.qf.length) (xk s t s.qf.length) i), isF true G124 (.slice a_all Xq V9) (xk s t s.qf.length), isF true G121 (.slice vP zT vK) (qO s t s.qf.length)]) (((((xk s t s.qf.length)[i]!).length) - (0 : Int)).toNat) ⟨_, a_next, n_next, c_next, (nextK (vF s.qg.length (qO s t s.qf.length) (xk s t s.qf.length) i) ((qO s t s.qf.length)[i]!) ((xk s t s.qf.length)[i]!) k), x_next, F_next, 0, uE7, (by exact nextX_zero _ _ _ _), (by omega), rfl, N, H⟩ ?_
   clear H N
   rintro m' ρ w138 ⟨junk, QV, yR, QU, next_1, Q7, Qs, x, rfl, rfl, i0, rfl, N, H⟩
   have hn_next := H.xP (α := List Int) 0 rfl 0 rfl (by decide)
   refine zcc (sps [.int .i64 x, .slice a_all Xq V9, .int .i64 i] ?_)
   have hl141 := H.isLen 2 rfl
   obtain ⟨b139, o140, rfl⟩ := H.addr 2 rfl (by omega)
   obtain ⟨ae142, ce142, Fe142, H⟩ := H.zU 2 rfl i i (by omega) (by omega) (by omega)
   refine oI rfl rfl (oL rfl (H.xB 1 rfl 0 rfl) (oN rfl (sp (.bool (decide ((x : Int) < (((xk s t s.qf.length)[i]!).length)))) (zjn (cD rfl (fun h143 => ?_) (fun h143 => ?_))))))
   ·skip
    have nx := next_le (n := s.qg.length) (rs := (qO s t s.qf.length)) (i := i) (k := k) (x := x) kn kc (by omega) (by omega) (by omega)
    have g1 := prodG_at (n := s.qg.length) (rs := (qO s t s.qf.length)) (all := (xk s t s.qf.length)) (i := i) (k := k) (by omega)
    have g2 := pack_at (s := s) (t := t) (n := s.qf.length) (i := i) (x := x) (by omega) (by omega)
    refine qK (t_n (xC (qM (zcr (sps [.slice zW xZ zH, .int .i64 k] ?_)))))
    obtain ⟨b144, rfl⟩ := H.Qn 1 rfl (by omega)
    refine oI rfl rfl ?_
    obtain ⟨a145, c146, G147, s148, h149, hx150, hy151, H⟩ := H.rowElemX 1 rfl 3 rfl (iv := k) k (by omega) (by omega)
    refine oL rfl (H.rowGet 1 rfl hx150) ?_
    have sz152 := H.base.size
    have lt153 := H.ltN (L := [G124, G121, yK, Qs]) [5, 6, 4, 3]
    refine sw (oc (Xm _ ((vF s.qg.length (qO s t s.qf.length) (xk s t s.qf.length) i)[k]!) (H.get 0 rfl).1 (by first | assumption | omega)) ?_)
    rintro v157 w155 r157 x156
    replace H := H.xW x156 r157
    obtain ⟨a158, c159, rfl, hc160, hm161⟩ := H.vN 0 rfl
    refine sp (.slice a158 (((vF s.qg.length (qO s t s.qf.length) (xk s t s.qf.length) i)[k]!).length) c159) (zjcc (sp (.int .i64 0) (zjn (qM ?_))))
    refine xQ (fun m' ρ w162 => ∃ (junk : Env) (r : Nat) (own : List Int), ρ = upd (upd (upd (upd (upd (upd (upd (upd (upd junk 6 (.slice vP zT vK)) 7 (.slice (aa b139 o140) Xq V9)) 9 (.slice (aa b144 0) xZ zH)) 10 (.int .i64 i)) 11 (.slice QV yR QU)) 12 (.int .i64 k)) 13 (.int .i64 x)) 14 (.slice a158 (((vF s.qg.length (qO s t s.qf.length) (xk s t s.qf.length) i)[k]!).length) c159)) 15 (.int .i64 r) ∧ own = (setTo ((vF s.qg.length (qO s t s.qf.length) (xk s t s.qf.length) i)[k]!) ((qO s t s.qf.length)[i]!) (((xk s t s.qf.length)[i]!)[x]!) r) ∧ ((r : Int) ≤ (((qO s t s.qf.length)[i]!).length)) ∧ m' = ((((qO s t s.qf.length)[i]!).length) - (r : Int)).toNat ∧ Fresh w.heap.size [G124, G121, yK, Qs] ∧ St w w162 [rr a158 (((vF s.qg.length (qO s t s.qf.length) (xk s t s.qf.length) i)[k]!).length) c159 2 1 (own.map (Value.int .i64)), rr QV yR QU 22 1 Q7, rr (aa b144 0) xZ zH 22 1 QC] [sF true Fe142 ae142 ce142 ((xk s t s.qf.length)[i]!), atF b139 (o140 + (i : Int).toNat * 1) [.slice ae142 (((xk s t s.qf.length)[i]!).length) ce142], xN true Qs Q7 (nextX (vF s.qg.length (qO s t s.qf.length) (xk s t s.qf.length) i) ((qO s t s.qf.length)[i]!) ((xk s t s.qf.length)[i]!) k x), xN true yK QC (vF s.qg.length (qO s t s.qf.length) (xk s t s.qf.length) i), isF true G124 (.slice (aa b139 o140) Xq V9) (xk s t s.qf.length), isF true G121 (.slice vP zT vK) (qO s t s.qf.length)]) (((((qO s t s.qf.length)[i]!).length) - (0 : Int)).toNat) ⟨_, 0, ((vF s.qg.length (qO s t s.qf.length) (xk s t s.qf.length) i)[k]!), uE9, (by rfl), (by omega), rfl, N, H.pick [0, 1, 2] [1, 2, 3, 4, 5, 6]⟩ ?_
    clear H N
    rintro m' ρ w163 ⟨junk, r, own, rfl, rfl, i0, rfl, N, H⟩
    have hn_own := H.rowNI 0 rfl
    have sl := setTo_len ((vF s.qg.length (qO s t s.qf.length) (xk s t s.qf.length) i)[k]!) ((qO s t s.qf.length)[i]!) (((xk s t s.qf.length)[i]!)[x]!) r
    refine zcc (sps [.int .i64 r, .slice vP zT vK, .int .i64 i] ?_)
    have hl166 := H.isLen 5 rfl
    obtain ⟨b164, o165, rfl⟩ := H.addr 5 rfl (by omega)
    obtain ⟨ae167, ce167, Fe167, H⟩ := H.zU 5 rfl i i (by omega) (by omega) (by omega)
    refine oI rfl rfl (oL rfl (H.xB 1 rfl 0 rfl) (oN rfl (sp (.bool (decide ((r : Int) < (((qO s t s.qf.length)[i]!).length)))) (zjn (cD rfl (fun h168 => ?_) (fun h168 => ?_))))))
    ·skip
     obtain ⟨g3, g4⟩ := choice_at (s := s) (t := t) (n := s.qf.length) (i := i) (r := r) (by omega) (by omega)
     refine qK (t_n (xC (qM ?_)))
     refine yO rfl H [1, 2] fun H => ?_
     have S := H.jZ [1, 2] [0, 1, 2, 3, 4, 5, 6, 7]
     refine rtp 0 (.slice a158 (((vF s.qg.length (qO s t s.qf.length) (xk s t s.qf.length) i)[k]!).length) c159) S ?_
     refine rtp 1 (.slice (aa b164 o165) zT vK) S ?_
     refine rtp 2 (.int .i64 i) S ?_
     refine tI 3 rfl rfl rfl S ?_
     refine tL 4 rfl rfl (fun _ h => h.xB 1 rfl 0 rfl) S ?_
     refine rtp 5 (.int .i64 r) S ?_
     obtain ⟨b170, o171, rfl⟩ := H.addr 0 rfl (by omega)
     have S := H.jZ [1, 2] [0, 1, 2, 3, 4, 5, 6, 7]
     refine tI 6 rfl rfl rfl S ?_
     refine tL 7 rfl rfl (fun _ h => h.jA 0 rfl r (by omega)) S ?_
     refine rtp 8 (.slice (aa b139 o140) Xq V9) S ?_
     refine rtp 9 (.int .i64 i) S ?_
     refine tI 10 rfl rfl rfl S ?_
     refine tL 11 rfl rfl (fun _ h => h.xB 3 rfl 0 rfl) S ?_
     refine rtp 12 (.int .i64 x) S ?_
     obtain ⟨b173, o174, rfl⟩ := H.addr 2 rfl (by omega)
     obtain ⟨ae176, ce176, Fe176, H⟩ := H.zU 2 rfl x x (by omega) (by omega) (by omega)
     have S := H.jZ [1, 2] [2, 3, 4, 5, 6, 7, 8, 9]
     refine tI 13 rfl rfl rfl S ?_
     refine rtp 15 (.int .i64 r) S ?_
     refine ro 14 rfl (zl (.slice ae176 ((((xk s t s.qf.length)[i]!)[x]!).length) ce176) Tryz.isAgg22 rfl (H.xB 1 rfl 0 rfl) (⟨H.pick [1, 2] [2, 3, 4, 5, 6, 7, 8, 9], ?_⟩))
     obtain ⟨b177, o178, rfl⟩ := H.addr 0 rfl (by omega)
     refine tI 16 rfl rfl rfl (H.pick [1, 2] [2, 3, 4, 5, 6, 7, 8, 9]) ?_
     refine ro 17 rfl (zl (.int .i64 ((((xk s t s.qf.length)[i]!)[x]!)[r]!)) Tryz.isAgg2 rfl (H.jd 0 rfl r (by omega) (by omega)) (⟨H.pick [1, 2] [2, 3, 4, 5, 6, 7, 8, 9], ?_⟩))
     obtain ⟨b180, rfl⟩ := H.Qn 0 rfl (by omega)
     refine tI 18 rfl rfl rfl (H.pick [1, 2] [2, 3, 4, 5, 6, 7, 8, 9]) ?_
     refine ro 19 rfl (o_storeInt H 0 rfl ((((xk s t s.qf.length)[i]!)[x]!)[r]!) Tryz.sizeOf2 rfl rfl (i := ((((qO s t s.qf.length)[i]!)[r]!).toNat)) (by omega) (by omega) fun w181 H => ⟨H.pick [1, 2] [2, 3, 4, 5, 6, 7, 8, 9], (xy (by kernel_rfl) (b_n (t_n (xH (sp (.int .i64 r) (sw (xX r 1 rfl rfl (by omega) (sp (.int .i64 (r + 1)) (xG ?_)))))))))⟩)
     refine qR (m' := ((((qO s t s.qf.length)[i]!).length) - ((r + 1) : Int)).toNat) (by omega) ⟨_, r + 1, ((setTo ((vF s.qg.length (qO s t s.qf.length) (xk s t s.qf.length) i)[k]!) ((qO s t s.qf.length)[i]!) (((xk s t s.qf.length)[i]!)[x]!) r).set ((((qO s t s.qf.length)[i]!)[r]!).toNat) ((((xk s t s.qf.length)[i]!)[x]!)[r]!)), uE9, ?_, ?_, rfl, N, H.pick [0, 1, 2] [4, 5, 6, 7, 8, 9]⟩
     · rfl
     · omega
    refine zx4 (xH (sps [.slice QV yR QU, .slice a158 (((vF s.qg.length (qO s t s.qf.length) (xk s t s.qf.length) i)[k]!).length) c159] (sw (zM H Tryz.underlying27 ti22 [.slice a158 (((vF s.qg.length (qO s t s.qf.length) (xk s t s.qf.length) i)[k]!).length) c159] fun b182 w183 H => ?_))))
    obtain ⟨G187, N, hn188, H⟩ := H.vG 1 rfl N (H.yT [6, 7, 5, 4])
    refine sw (zV H 2 rfl 0 rfl Tryz.underlying27 ti22 rfl (by decide) rfl rfl rfl (by simp [Value.oneCell', Value.cells]) (by unfold maxLen; omega) (by omega) fun a184 c185 w186 H => ?_)
    replace H := H.yl 5 rfl 0 rfl
    replace N : Fresh w.heap.size [(Qs ++ G187), G124, G121, yK] := (N.pick [4, 0, 1, 2, 3]).join
    refine sp (.slice a184 (yR + 1) c185) (xG (b_n (t_n (xH (sp (.int .i64 x) (sw (xX x 1 rfl rfl (by omega) (sp (.int .i64 (x + 1)) (xG ?_)))))))))
    refine qR (m' := ((((xk s t s.qf.length)[i]!).length) - ((x + 1) : Int)).toNat) (by omega) ⟨_, a184, yR + 1, c185, ((nextX (vF s.qg.length (qO s t s.qf.length) (xk s t s.qf.length) i) ((qO s t s.qf.length)[i]!) ((xk s t s.qf.length)[i]!) k x) ++ [(setTo ((vF s.qg.length (qO s t s.qf.length) (xk s t s.qf.length) i)[k]!) ((qO s t s.qf.length)[i]!) (((xk s t s.qf.length)[i]!)[x]!) r)]), Q7 ++ [.slice a158 (((vF s.qg.length (qO s t s.qf.length) (xk s t s.qf.length) i)[k]!).length) c159], (Qs ++ G187), x + 1, uE7, ?_, ?_, rfl, (N.pick [1, 2, 3, 0]), H.pick [2, 3] [0, 7, 8, 9]⟩
    · exact nextX_succ (by omega) (by rw [show r = ((qO s t s.qf.length)[i]!).length by omega]; rfl)
    · omega
   refine c_exit (t_x (t_x (b_x (b_n (t_n (xH (sp (.int .i64 k) (sw (xX k 1 rfl rfl (by omega) (sp (.int .i64 (k + 1)) (xG (qR (m' := (xZ - ((k + 1) : Int)).toNat) (by omega) ⟨_, QV, yR, QU, (nextX (vF s.qg.length (qO s t s.qf.length) (xk s t s.qf.length) i) ((qO s t s.qf.length)[i]!) ((xk s t s.qf.length)[i]!) k x), Q7, Qs, k + 1, uE6, ?_, ?_, rfl, N, H.pick [0, 1] [2, 3, 4, 5]⟩))))))))))))
   · exact nextX_end (by omega) (by omega)
   · omega
  refine zx4 (xH (sps [.slice a_next n_next c_next, .slice a_next n_next c_next] (xG (b_n (t_n (xH (sp (.int .i64 i) (sw (xX i 1 rfl rfl (by omega) (sp (.int .i64 (i + 1)) (xG (qR (m' := (Xq - ((i + 1) : Int)).toNat) (by omega) ⟨_, a_next, n_next, c_next, (nextK (vF s.qg.length (qO s t s.qf.length) (xk s t s.qf.length) i) ((qO s t s.qf.length)[i]!) ((xk s t s.qf.length)[i]!) k), x_next, F_next, i + 1, uE4, ?_, ?_, rfl, (N.pick [0, 1, 3]), H.pick [0] [0, 2, 3]⟩))))))))))))
  · rw [show k = (vF s.qg.length (qO s t s.qf.length) (xk s t s.qf.length) i).length by omega]; rfl
  · omega
 refine zx4 (zcc (sp (.int .i64 1) (zjn (qM ?_))))
 have on : 0 < (vF s.qg.length (qO s t s.qf.length) (xk s t s.qf.length) i).length := by rw [XF, show i = (xk s t s.qf.length).length by omega]; exact prod_mono kn (Nat.zero_le _) (Nat.le_refl _)
 have on2 := G_le (n := s.qg.length) (rs := (qO s t s.qf.length)) (i := i) kn kc (by omega)
 refine xQ (fun m' ρ w189 => ∃ (junk : Env) (i_1 : Nat) (out_1 : List (List Int)) (VO : List Value) (XN : List Nat), ρ = upd (upd junk 9 (.slice zW xZ zH)) 16 (.int .i64 i_1) ∧ ((i_1 : Int) ≤ xZ) ∧ ((vF s.qg.length (qO s t s.qf.length) (xk s t s.qf.length) (xk s t s.qf.length).length).Perm out_1) ∧ (∀ a b, a < b → b < i_1 → ¬ ahead (out_1[b]!) (out_1[a]!)) ∧ m' = (xZ - (i_1 : Int)).toNat ∧ Fresh w.heap.size [XN] ∧ St w w189 [rr zW xZ zH 22 1 VO] [xN true XN VO out_1]) ((xZ - (1 : Int)).toNat) ⟨_, 1, (vF s.qg.length (qO s t s.qf.length) (xk s t s.qf.length) i), QC, yK, uE2, (by omega), (by rw [show i = (xk s t s.qf.length).length by omega]), (by exact fun a b h1 h2 => by omega), rfl, (N.pick [2]), H.pick [0] [0]⟩ ?_
 clear H N
 rintro m' ρ w190 ⟨junk, i_1, out_1, VO, XN, rfl, i0, o1, o2, rfl, N, H⟩
 have hn_out := H.xP (α := List Int) 0 rfl 0 rfl (by decide)
 refine zcc (sps [.int .i64 i_1, .slice zW xZ zH] (oN rfl (sp (.bool (decide ((i_1 : Int) < xZ))) (zjn (cD rfl (fun h191 => ?_) (fun h191 => ?_))))))
 ·skip
  refine qK (t_n (xC (qM (zcr (sps [.int .i64 i_1, .int .i64 i_1] (zjn (qM ?_)))))))
  refine xQ (fun m' ρ w192 => ∃ (junk : Env) (k : Int) (out_51 : List (List Int)) (x_out_51 : List Value) (F_out_51 : List Nat), ρ = upd (upd (upd junk 9 (.slice zW xZ zH)) 16 (.int .i64 i_1)) 17 (.int .i64 k) ∧ ((vF s.qg.length (qO s t s.qf.length) (xk s t s.qf.length) (xk s t s.qf.length).length).Perm out_51) ∧ (InsTo out_51 i_1 k.toNat) ∧ (0 ≤ k ∧ k ≤ i_1) ∧ m' = ((k : Int)).toNat ∧ Fresh w.heap.size [F_out_51] ∧ St w w192 [rr zW xZ zH 22 1 x_out_51] [xN true F_out_51 x_out_51 out_51]) (((i_1 : Int)).toNat) ⟨_, i_1, out_1, VO, XN, uE3, (by assumption), (by exact InsTo.start o2), (by omega), rfl, N, H⟩ ?_
  clear H N
  rintro m' ρ w193 ⟨junk, k, out_51, x_out_51, F_out_51, rfl, o3, o4, o5, rfl, N, H⟩
  have hn_out := H.xP (α := List Int) 0 rfl 0 rfl (by decide)
  refine xC (xC ?_)
  refine vH rfl H fun H => rtp 0 (.int .i64 k) H ?_
  refine rtp 1 (.bool (decide ((k : Int) > 0))) H ?_
  refine rtp 2 (.bool (decide ((k : Int) > 0))) H ?_
  cases h195 : (decide ((k : Int) > 0))
  ·skip
   replace h195 := of_decide_eq_false h195
   refine zo [3, 4, 5, 6, 7, 8, 9, 10, 11, 12] 10 (H) (rtp 13 (.bool false) H ?_)
   refine xy (by kernel_rfl) (t_n (xn false rfl (fun h => absurd h (by decide)) (fun _ => c_exit (t_x (t_x (b_x (b_n (t_n (xH (sp (.int .i64 i_1) (sw (xX i_1 1 rfl rfl (by omega) (sp (.int .i64 (i_1 + 1)) (xG (qR (m' := (xZ - ((i_1 + 1) : Int)).toNat) (by omega) ⟨_, i_1 + 1, out_51, x_out_51, F_out_51, uE2, ?_, ?_, ?_, rfl, N, H⟩)))))))))))))))
   · omega
   · assumption
   · exact o4.stop (perm_rows o3) (by omega) (by omega) (by first | exact .inl (by omega) | exact .inr (by rw [show k.toNat - 1 = (k - 1).toNat by omega]; assumption))
  replace h195 := of_decide_eq_true h195
  refine rgp 3 (.slice zW xZ zH) 110 H ?_
  refine rgp 4 (.int .i64 k) 110 H ?_
  obtain ⟨b196, rfl⟩ := H.Qn 0 rfl (by omega)
  refine gI 5 rfl rfl rfl H ?_
  obtain ⟨a197, c198, G199, s200, h201, hx202, hy203, H⟩ := H.rowElemX 0 rfl 0 rfl (iv := k) k.toNat (by omega) (by omega)
  have S := H.jZ [0] [1]
  refine gL 6 rfl rfl (fun _ h => h.rowGet 0 rfl hx202) S ?_
  refine rgp 7 (.slice (aa b196 0) xZ zH) 110 S ?_
  refine rgp 8 (.int .i64 k) 110 S ?_
  refine rg 9 (.int .i64 (k - 1)) 110 (y_sub k 1 rfl rfl (by omega)) S ?_
  refine gI 10 rfl rfl rfl S ?_
  obtain ⟨a204, c205, G206, s207, h208, hx209, hy210, H⟩ := H.rowElemX 0 rfl 1 rfl (iv := k - 1) ((k - 1).toNat) (by omega) (by omega)
  refine gL 11 rfl rfl (fun _ h => h.rowGet 0 rfl hx209) (H.pick [0] [2]) ?_
  refine vT [12] (by kernel_rfl) (by simp) (r_opG rfl (e := 110) rfl rfl ?_ vU)
  have g5 := perm_rows o3
  have g6 := g5 k.toNat (by omega)
  have g7 := g5 (k - 1).toNat (by omega)
  refine oq (l03Before_ok _ (out_51[k.toNat]!) (out_51[(k - 1).toNat]!) (H.get 1 rfl).1 (H.get 0 rfl).1 (by first | assumption | omega)) H fun w212 H => ⟨H.pick [0] [2], (rtp 13 (.bool (dec (ahead (out_51[k.toNat]!) (out_51[(k - 1).toNat]!)))) (H.pick [0] [2]) ?_)⟩
  refine xy (by kernel_rfl) (t_n (cP rfl (fun h214 => ?_) (fun h214 => ?_)))
  ·skip
   refine qK (t_n (xC (qM (zcr (sps [.slice (aa b196 0) xZ zH, .int .i64 k] (oI rfl rfl ?_))))))
   obtain ⟨a215, c216, G217, s218, h219, hx220, hy221, H⟩ := H.rowElemX 0 rfl 2 rfl (iv := k) k.toNat (by omega) (by omega)
   refine oL rfl (H.rowGet 0 rfl hx220) (sp (.slice a215 ((out_51[k.toNat]!).length) c216) (zjc (sps [.slice (aa b196 0) xZ zH, .int .i64 k, .slice (aa b196 0) xZ zH, .int .i64 k] (sw (o_sub k 1 rfl rfl (by omega) (oI rfl rfl ?_))))))
   obtain ⟨a222, c223, G224, s225, h226, hx227, hy228, H⟩ := H.rowElemX 0 rfl 3 rfl (iv := k - 1) ((k - 1).toNat) (by omega) (by omega)
   refine oL rfl (H.rowGet 0 rfl hx227) (oI rfl rfl (sw (o_storeRow1 H 0 rfl (.slice a222 ((out_51[(k - 1).toNat]!).length) c223) Tryz.sizeOf22 rfl rfl rfl (by omega) fun w229 H => zjn (xH (sps [.slice (aa b196 0) xZ zH, .int .i64 k] (sw (o_sub k 1 rfl rfl (by omega) (sp (.slice a215 ((out_51[k.toNat]!).length) c216) (oI rfl rfl (sw (o_storeRow1 H 0 rfl (.slice a215 ((out_51[k.toNat]!).length) c216) Tryz.sizeOf22 rfl rfl rfl (by omega) fun w230 H => ?_)))))))))))
   obtain ⟨F231, hF232, H⟩ := H.swapR 4 rfl (k := (k : Int).toNat) (i := (k - 1 : Int).toNat) (by omega) (by omega) (by omega) hy228 hy221
   replace N : Fresh w.heap.size [F231] := Fresh.perm N hF232
   refine xG (b_n (t_n (xH (sp (.int .i64 k) (sw (o_sub k 1 rfl rfl (by omega) (sp (.int .i64 (k - 1)) (xG (qR (m' := (((k - 1) : Int)).toNat) (by omega) ⟨_, k - 1, (swapAt out_51 k.toNat), ((x_out_51.set (k : Int).toNat (.slice a222 ((out_51[(k - 1).toNat]!).length) c223)).set (k - 1 : Int).toNat (.slice a215 ((out_51[k.toNat]!).length) c216)), F231, uE3, ?_, ?_, ?_, rfl, N, H.pick [0] [0]⟩)))))))))
   · exact perm_swap o3 (by omega) (by omega)
   · rw [show (k - 1).toNat = k.toNat - 1 by omega]; exact o4.down (perm_rows o3) (by omega) (by omega) (by omega) (by rw [show k.toNat - 1 = (k - 1).toNat by omega]; assumption)
   · omega
  refine c_exit (t_x (t_x (b_x (b_n (t_n (xH (sp (.int .i64 i_1) (sw (xX i_1 1 rfl rfl (by omega) (sp (.int .i64 (i_1 + 1)) (xG (qR (m' := (xZ - ((i_1 + 1) : Int)).toNat) (by omega) ⟨_, i_1 + 1, out_51, x_out_51, F_out_51, uE2, ?_, ?_, ?_, rfl, N, H.pick [0] [2]⟩))))))))))))
  · omega
  · assumption
  · exact o4.stop (perm_rows o3) (by omega) (by omega) (by first | exact .inl (by omega) | exact .inr (by rw [show k.toNat - 1 = (k - 1).toNat by omega]; assumption))
 refine zx4 (zcr (sps [.slice zW xZ zH, .slice zW xZ zH, .int .i64 0] (zjr (ret2 (.slice zW xZ zH) (.int .i64 0) rfl rfl rfl ⟨_, rfl, ?_, H.base⟩))))
 rw [cho_0 gp kc o1 (in_order (by omega) o2)]
 exact ⟨zW, xZ, zH, VO, XN, rfl, N, H.pick [0] [0]⟩
end
end Go.Proofs.YtgjnaocffdhnbaaGreat
