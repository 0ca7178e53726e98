/- Walks, printed by program (wip/tools/gv.py): what each function comes to, for all arguments. -/
import Derived.Test.YtkmlihdacnfhdaaGreatG10
namespace Go.Proofs.YtkmlihdacnfhdaaGreat
open Go.Proofs.YtkmlihdacnfhdaaGreat.Tot (tot)
open Go.Proofs.YtkmlihdacnfhdaaGreat.Mark (cnt mrk mkd mkd_mark cnt_mark)
open Go.RowKit
set_option linter.unusedVariables false
set_option linter.unusedSimpArgs false
set_option maxRecDepth 100000
set_option maxHeartbeats 4000000



theorem l03Step_ok (w : World) (s : qY) (t : qU) (counts : List Int) (bs os : Nat) (qw : Option Addr) (qp : Nat) (qP : List Nat) (qG : Option Addr) (qC : Nat) (xC : List Nat) (bt ot : Nat) (qO : Option Addr) (qJ : Nat) (xK : List Nat) (xG : Option Addr) (xA : Nat) (zy : List Nat) (qL : Option Addr) (qK : Nat) (xI : List Nat) (acounts : Option Addr) (ccounts : Nat) (Fcounts : List Nat) (hs : vY w bs os [.int .i64 s.qH, .slice qw s.qf.length qp, .slice qG s.qg.length qC]) (xx : qQ.rep w qP [.slice qw s.qf.length qp] s.qf) (xM : qQ.rep w xC [.slice qG s.qg.length qC] s.qg) (ht : vY w bt ot [.slice qO t.qh.length qJ, .slice xG t.qo.length xA, .slice qL t.ql.length qK]) (zo : qQ.rep w xK [.slice qO t.qh.length qJ] t.qh) (vk : qQ.rep w zy [.slice xG t.qo.length xA] t.qo) (xW : qQ.rep w xI [.slice qL t.ql.length qK] t.ql) (hcounts : qQ.rep w Fcounts [.slice acounts counts.length ccounts] counts) (p0 : Qz s) (p1 : ve s t) (p2 : CntOk s counts) : Calls Tryz.prog 61 #[pp bs os, pp bt ot, .slice acounts counts.length ccounts] w (Ret (fun v w' => ∃ (ra0Alive : Option Addr) (Xc : Nat) (rc0Alive : Nat) (ra0Bags : Option Addr) (XW : Nat) (rc0Bags : Nat) (rx0Bags : List Value) (rF0Bags : List Nat) (Xq : Option Addr) (QG : Nat) (Xp : Nat), v = .tuple #[.agg #[.slice ra0Alive Xc rc0Alive, .slice ra0Bags XW rc0Bags, .slice Xq QG Xp], .int .i64 ((yD s t counts).2)] ∧ Fresh w.heap.size [rF0Bags] ∧ St w w' [.row (.slice ra0Alive Xc rc0Alive) 4 1 Xc ((((yD s t counts).1).qh).map (Value.bool)), .row (.slice ra0Bags XW rc0Bags) 22 1 XW rx0Bags, .row (.slice Xq QG Xp) 2 1 QG ((((yD s t counts).1).ql).map (Value.int .i64))] [jk true rF0Bags rx0Bags (((yD s t counts).1).qo)]) w) := by
 refine enter (n := 209) Tryz.func61 rfl Tryz.ntmps61 (Nat.le_of_ble_eq_true rfl) ?_
 have H := ((((((((St.start w).arg hcounts).arg xW).arg vk).arg zo).argAt ht).arg xM).arg xx).argAt hs
 have vU := qM xx
 have jZ := qM xM
 have QN := qM zo
 have Xt := qM vk
 have Qn := qM xW
 have nhcounts := qM hcounts
 clear hs xx xM ht zo vk xW hcounts
 have N := Fresh.nil w.heap.size
 have p3 := p0.2.1
 have p6 := p2.1
 have p7 := p1.2.1
 have p8 := kinds_le p0
 have p9 := p0.1.2.1
 have p11 : ji s = s.qf.length := rfl
 have p12 := p1.1
 have p15 := p0.1
 have p16 := p0.1.1
 obtain ⟨q7, q8, q9, q10⟩ := p1.sizes p0.1
 have q13 := fun k hk => Nat.le_trans (q10 k hk) (by decide : 8 ≤ 1000000)
 have p14 := restR_len (s := s) (t := t) (counts := counts)
 refine qm (qA ?_)
 refine sw (zn H ti38 [.slice none 0 0, .slice none 0 0, .slice none 0 0] fun b1 w2 H => ?_)
 refine sp (.int .i64 0) ?_
 refine qx (t_n (qm (qA ?_)))
 refine sps [pp bs os, pp bt ot, .slice acounts counts.length ccounts] ?_
 have sz6 := H.base.size
 refine sw (xe #[pp bs os, pp bt ot, .slice acounts counts.length ccounts] rfl rfl Tryz.call106 (l03Rest_ok w2 s t counts bs os qw qp qP qG qC xC bt ot qO qJ xK xG xA zy qL qK xI acounts ccounts Fcounts (qI (H.get 0 rfl) 0 3) (H.get 1 rfl).1 (H.get 2 rfl).1 (qI (H.get 3 rfl) 0 3) (H.get 4 rfl).1 (H.get 5 rfl).1 (H.get 6 rfl).1 (H.get 7 rfl).1 (by first | assumption | omega) (by first | assumption | omega) (by first | assumption | omega)) ?_)
 rintro _ w4 ⟨ra3a, rn3a, rc3a, rx3a, rF3a, rfl, M, K⟩ _
 replace N := N.merge sz6 (by simp) M
 replace H := H.merge K M
 dsimp only [List.cons_append, List.nil_append] at H
 obtain rfl := H.zu (α := List Int) 0 rfl 0 rfl (by decide)
 refine sps [.tuple #[.slice ra3a ((zN s t counts (vN (yC s t counts) counts.length)).length) rc3a, .bool (dec (IsCh s t counts))], .slice ra3a ((zN s t counts (vN (yC s t counts) counts.length)).length) rc3a, .bool (dec (IsCh s t counts)), .slice ra3a ((zN s t counts (vN (yC s t counts) counts.length)).length) rc3a, .bool (dec (IsCh s t counts))] ?_
 refine qx (t_n (qm (qm (qA ?_))))
 refine sps [.bool (dec (IsCh s t counts)), .bool (!(dec (IsCh s t counts)))] ?_
 refine qx (t_n ?_)
 refine qW (!(dec (IsCh s t counts))) rfl (fun h9 => ?_) (fun h9 => ?_)
 ·skip
  replace h9 := xg h9
  replace h9 := zi h9
  refine qm (qA ?_)
  refine sw (jH [.slice none 0 0, .slice none 0 0, .slice none 0 0] [] ?_)
  refine sw (xU H 1 [.slice none 0 0, .slice none 0 0, .slice none 0 0] Tryz.sizeOf38 fun w10 H => ?_)
  try dsimp only [List.set] at H
  refine sp (.int .i64 4) ?_
  refine qx (t_n (xB (t_r ?_)))
  replace H := H.nilRowB 4
  replace H := H.nilRow 22 1
  replace H := H.Xo (α := List Int)
  replace H := H.nilRowI 2
  refine retC2 H 4 rfl (.int .i64 4) rfl Tryz.isAgg38 Tryz.sizeOf38 rfl rfl ⟨_, rfl, ?_, H.base⟩
  rw [stepBy_no ‹_›]
  exact ⟨none, 0, 0, none, 0, 0, [], [], none, 0, 0, rfl, (N.emp.pick [0]), H.pick [2, 1, 0] [0]⟩
 replace h9 := qX h9
 replace h9 := jI h9
 have st := stop_none (n := counts.length) (P := yC s t counts) (‹IsCh s t counts›).1
 have r1 := restR_len (s := s) (t := t) (counts := counts) (vN (yC s t counts) counts.length)
 refine xu (t_n (qm (qA ?_)))
 refine sp (pp bt ot) ?_
 have sz14 := H.base.size
 have lt15 := H.ltN (L := [rF3a]) [0]
 refine sw (xe #[pp bt ot] rfl rfl Tryz.call73 (l02Own_ok w4 t bt ot qO qJ xK xG xA zy qL qK xI (qI (H.get 4 rfl) 0 3) (H.get 5 rfl).1 (H.get 6 rfl).1 (H.get 7 rfl).1 (by first | assumption | omega) (by first | assumption | omega) (by first | assumption | omega) (by first | assumption | omega)) ?_)
 rintro _ w12 ⟨jO, rn11Alive, jM, ra11Bags, rn11Bags, rc11Bags, XU, jY, ra11Around, rn11Around, rc11Around, rfl, M, K⟩ _
 replace N := N.merge sz14 lt15 M
 replace H := H.merge K M
 dsimp only [List.cons_append, List.nil_append] at H
 obtain rfl := H.QQ 0 rfl
 obtain rfl := H.zu (α := List Int) 1 rfl 0 rfl (by decide)
 obtain rfl := H.Xb 2 rfl
 refine sw (zn H ti38 [.slice none 0 0, .slice none 0 0, .slice none 0 0] fun b19 w20 H => ?_)
 refine sw (xU H 0 [.slice jO t.qh.length jM, .slice ra11Bags t.qo.length rc11Bags, .slice ra11Around t.ql.length rc11Around] Tryz.sizeOf38 fun w21 H => ?_)
 try dsimp only [List.set] at H
 refine qx (t_n (qm (qA ?_)))
 refine sp (.slice ra3a ((zN s t counts (vN (yC s t counts) counts.length)).length) rc3a) ?_
 refine sw (qN b19 (0) 1 Tryz.underlying38 rfl rfl Tryz.sizeOf27 rfl ?_)
 refine sw (o_store1C H 0 [.slice jO t.qh.length jM, .slice ra3a ((zN s t counts (vN (yC s t counts) counts.length)).length) rc3a, .slice ra11Around t.ql.length rc11Around] Tryz.sizeOf27 fun w22 H => ?_)
 try dsimp only [List.set] at H
 refine qx (t_n (qm (qm (qA ?_))))
 refine sp (.int .i64 0) ?_
 refine qx (t_n (xE ?_))
 refine zX (fun m' ρ w23 => ∃ (junk : Env) (i : Nat) (zY : Option Addr) (zI : Nat) (zW : Nat) (out_Around : List Int) (rest : List (List Int)) (x_rest : List Value) (F_rest : List Nat), ρ = upd (upd (upd (upd (upd (upd junk 0 (pp bs os)) 1 (pp bt ot)) 2 (.slice acounts counts.length ccounts)) 6 (pp b1 0)) 10 (pp b19 0)) 11 (.int .i64 i) ∧ ((i : Int) ≤ counts.length) ∧ (Ent (s.qf.length + 1) (QD s) (fun p q => base0 s t p q + needS s counts s.qg.length p q + putS s t counts i p q) (20000000 + 6000000 * i) (rest ++ [out_Around])) ∧ (rest.length = s.qf.length) ∧ m' = (counts.length - (i : Int)).toNat ∧ Fresh w.heap.size [jY, F_rest] ∧ St w w23 [.box b19 [.slice jO t.qh.length jM, .slice ra3a ((zN s t counts (vN (yC s t counts) counts.length)).length) rc3a, .slice zY zI zW] 38, .row (.slice jO t.qh.length jM) 4 1 t.qh.length (t.qh.map (Value.bool)), .row (.slice ra11Bags t.qo.length rc11Bags) 22 1 t.qo.length XU, .row (.slice zY zI zW) 2 1 zI (out_Around.map (Value.int .i64)), .row (.slice ra3a ((zN s t counts (vN (yC s t counts) counts.length)).length) rc3a) 22 1 ((zN s t counts (vN (yC s t counts) counts.length)).length) x_rest, .box b1 [.slice none 0 0, .slice none 0 0, .slice none 0 0] 38] [jk true jY XU t.qo, jk true F_rest x_rest rest, atF bs os [.int .i64 s.qH, .slice qw s.qf.length qp, .slice qG s.qg.length qC], isF false qP (.slice qw s.qf.length qp) s.qf, isF false xC (.slice qG s.qg.length qC) s.qg, atF bt ot [.slice qO t.qh.length qJ, .slice xG t.qo.length xA, .slice qL t.ql.length qK], isF false xK (.slice qO t.qh.length qJ) t.qh, isF false zy (.slice xG t.qo.length xA) t.qo, isF false xI (.slice qL t.ql.length qK) t.ql, isF false Fcounts (.slice acounts counts.length ccounts) counts]) ((counts.length - (0 : Int)).toNat) ⟨_, 0, ra11Around, t.ql.length, rc11Around, t.ql, zN s t counts (vN (yC s t counts) counts.length), rx3a, rF3a, (by exact qj (qj (qj (qj (qj (qj (rfl) rfl) rfl) rfl) rfl) rfl) rfl), (by omega), (by rw [st, p6]; exact (rest_ent p0 p1 p2).to (fun _ _ => rfl) (by omega)), (by omega), rfl, N, H⟩ ?_
 clear H N
 rintro m' ρ w24 ⟨junk, i, zY, zI, zW, out_Around, rest, x_rest, F_rest, rfl, i0, E_rest, z_rest, rfl, N, H⟩
 have hn_out_Around := H.Xb 3 rfl
 have hn_rest := H.zu (α := List Int) 4 rfl 1 rfl (by decide)
 refine qm (qm (qA ?_))
 refine sps [.int .i64 i, .slice acounts counts.length ccounts] ?_
 refine sw (zZ Tryz.underlying22 acounts counts.length ccounts rfl ?_)
 refine sp (.bool (decide ((i : Int) < counts.length))) ?_
 refine qx (t_n ?_)
 refine qW (decide ((i : Int) < counts.length)) rfl (fun h25 => ?_) (fun h25 => ?_)
 ·skip
  replace h25 := of_decide_eq_true h25
  have q := p0.rule (i := i) (by omega)
  have qc := q.1
  have qk := q.cell
  have qr := q.2.1
  have bn1 := q.2.2.2.2.1
  have bn2 := q.2.2.2.2.2.2.2.1
  have bn3 := q.2.2.2.2.2.2.2.2.1
  have ln1 := bn1.len
  have ln2 := bn2.len
  have ln3 := bn3.len
  have p10 := p2.bd (i := i) (by omega)
  have qn := q.2.2.2.1
  refine xu (t_n (qm (xE (qm (qA ?_)))))
  refine sps [pp bs os, pp bs os] ?_
  refine sw (qN bs (os) 2 Tryz.underlying36 rfl rfl Tryz.sizeOf34 rfl ?_)
  refine sw (qE (.slice qG s.qg.length qC) Tryz.isAgg34 rfl (H.zh 2 rfl 2 rfl) ?_)
  refine sp (.int .i64 i) ?_
  obtain ⟨b26, o27, rfl⟩ := H.addr 4 rfl (by omega)
  obtain ⟨ae29Need, ce29Need, Fe29Need, ae29Have, ce29Have, Fe29Have, ae29Lack, ce29Lack, Fe29Lack, ae29Here, ce29Here, Fe29Here, ae29Out, ce29Out, Fe29Out, ae29Into, Xl, Fe29Into, H⟩ := H.yI 4 rfl i i (by omega) (by omega) (by omega)
  refine sw (xJ i Tryz.underlying34 ti110 rfl rfl (by omega) (by omega) ?_)
  refine sp (pp b26 (o27 + (i : Int).toNat * 9)) ?_
  refine qx (t_n (qm (qm (qA ?_))))
  refine sps [.slice acounts counts.length ccounts, .int .i64 i] ?_
  obtain ⟨b30, o31, rfl⟩ := H.addr 16 rfl (by omega)
  refine sw (xJ i Tryz.underlying22 ti2 rfl rfl (by omega) (by omega) ?_)
  refine sw (qE (.int .i64 (counts[i]!)) Tryz.isAgg2 rfl (H.ja 16 rfl i (by omega) (by omega)) ?_)
  refine sp (.bool ((counts[i]! : Int) == 0)) ?_
  refine qx (t_n ?_)
  refine qW ((counts[i]! : Int) == 0) rfl (fun h33 => ?_) (fun h33 => ?_)
  ·skip
   replace h33 := eq_of_beq h33
   refine zU (t_x (b_x (t_n (qA ?_))))
   refine sp (.int .i64 i) ?_
   refine sw (vg i 1 rfl rfl (by omega) ?_)
   refine sp (.int .i64 (i + 1)) ?_
   refine qx ?_
   refine xH (m' := (counts.length - ((i + 1) : Int)).toNat) (by omega) ⟨_, i + 1, zY, zI, zW, out_Around, rest, x_rest, F_rest, (by exact qj (qj (qj (qj (qj (qj (rfl) rfl) rfl) rfl) rfl) rfl) rfl), ?_, ?_, ?_, rfl, N, H.pick [0, 1, 2, 3, 4, 5] [7, 8, 9, 10, 11, 12, 13, 14, 15, 16]⟩
   · omega
   · first | exact E_rest.to (fun p q => by simp only [putS_skip (s := s) (t := t) (counts := counts) (i := i) ‹_›]) (by omega) | exact E_out_Bags.to (fun p q => by rw [show k = ((s.qg[i]!).qB).length by omega]; simp only [putS, putF]; omega) (by omega)
   · omega
  replace h33 := ne_of_beq_false h33
  refine xu (t_n (qm ?_))
  refine yS rfl H [0, 1, 2, 3, 5] fun H => ?_
  have S := H.yw [0, 1, 2, 3, 5] [0, 1, 2, 3, 4, 5, 6, 7, 8, 9, 10, 11, 12, 13, 14, 15, 16]
  refine rt 0 (pp b19 (0 + 1)) (xF b19 (0) 1 Tryz.underlying38 rfl rfl Tryz.sizeOf27 rfl) S ?_
  refine rt 1 (.slice ra3a ((zN s t counts (vN (yC s t counts) counts.length)).length) rc3a) (xw Tryz.isAgg27 rfl (fun _ h => h.cell 0 rfl rfl)) S ?_
  refine rtp 2 (pp b26 (o27 + (i : Int).toNat * 9)) S ?_
  refine rtp 3 (pp b26 (o27 + (i : Int).toNat * 9)) S ?_
  refine rt 4 (pp b26 (o27 + (i : Int).toNat * 9 + 0)) (xF b26 (o27 + (i : Int).toNat * 9) 0 Tryz.underlying110 rfl rfl Tryz.sizeOf2 rfl) S ?_
  refine rt 5 (.int .i64 ((s.qg[i]!).qy)) (xw Tryz.isAgg2 rfl (fun _ h => h.zh 6 rfl 0 rfl)) S ?_
  refine rt 6 (pp b19 (0 + 1)) (xF b19 (0) 1 Tryz.underlying38 rfl rfl Tryz.sizeOf27 rfl) S ?_
  refine rt 7 (.slice ra3a ((zN s t counts (vN (yC s t counts) counts.length)).length) rc3a) (xw Tryz.isAgg27 rfl (fun _ h => h.cell 0 rfl rfl)) S ?_
  refine rtp 8 (pp b26 (o27 + (i : Int).toNat * 9)) S ?_
  refine rtp 9 (pp b26 (o27 + (i : Int).toNat * 9)) S ?_
  refine rt 10 (pp b26 (o27 + (i : Int).toNat * 9 + 0)) (xF b26 (o27 + (i : Int).toNat * 9) 0 Tryz.underlying110 rfl rfl Tryz.sizeOf2 rfl) S ?_
  refine rt 11 (.int .i64 ((s.qg[i]!).qy)) (xw Tryz.isAgg2 rfl (fun _ h => h.zh 6 rfl 0 rfl)) S ?_
  obtain ⟨b35, rfl⟩ := H.rowAddr 4 rfl (by omega)
  have S := H.yw [0, 1, 2, 3, 5] [0, 1, 2, 3, 4, 5, 6, 7, 8, 9, 10, 11, 12, 13, 14, 15, 16]
  refine rt 12 (pp b35 (0 + ((s.qg[i]!).qy : Int).toNat * 1)) (xQ b35 (0) ((zN s t counts (vN (yC s t counts) counts.length)).length) rc3a ((s.qg[i]!).qy) Tryz.underlying27 ti22 rfl rfl (by omega) (by omega)) S ?_
  refine rtp 14 (pp b26 (o27 + (i : Int).toNat * 9)) S ?_
  refine rtp 15 (pp b26 (o27 + (i : Int).toNat * 9)) S ?_
  refine rt 16 (pp b26 (o27 + (i : Int).toNat * 9 + 5)) (xF b26 (o27 + (i : Int).toNat * 9) 5 Tryz.underlying110 rfl rfl Tryz.sizeOf22 rfl) S ?_
  refine rt 17 (.slice ae29Here (((s.qg[i]!).xm).length) ce29Here) (xw Tryz.isAgg22 rfl (fun _ h => h.zh 6 rfl 5 rfl)) S ?_
  refine rtp 18 (.slice (aa b30 o31) counts.length ccounts) S ?_
  refine rtp 19 (.int .i64 i) S ?_
  refine rt 20 (pp b30 (o31 + (i : Int).toNat * 1)) (xQ b30 (o31) counts.length ccounts i Tryz.underlying22 ti2 rfl rfl (by omega) (by omega)) S ?_
  refine rt 21 (.int .i64 (counts[i]!)) (xw Tryz.isAgg2 rfl (fun _ h => h.ja 16 rfl i (by omega) (by omega))) S ?_
  refine xn [13] (by kernel_rfl) (by simp) (xX rfl ?_ xq)
  obtain ⟨a36, c37, G38, s39, h40, H⟩ := H.jE 4 rfl 8 rfl (iv := (s.qg[i]!).qy) (((s.qg[i]!).qy).toNat) (by omega) (by omega)
  refine qE (.slice a36 ((rest[((s.qg[i]!).qy).toNat]!).length) c37) Tryz.isAgg22 rfl (h40) ?_
  refine ⟨H.pick [0, 1, 2, 3, 5] [1, 2, 3, 4, 5, 6, 7, 8, 9, 10, 11, 12, 13, 14, 15, 16, 17], ?_⟩
  refine xn [22] (by kernel_rfl) (by simp) (xX rfl ?_ xq)
  obtain ⟨u1, u2⟩ := Ent.rowL E_rest (c := ((s.qg[i]!).qy).toNat) (by omega) (by omega) (by omega) (by omega)
  have u4 := (by first | exact bn2.yj (by omega) | exact bn3.yj (by omega) | exact bn4.yj (by omega) : SmallT ((s.qg[i]!).xm) (counts[i]!))
  have sz41 := H.base.size
  have lt42 := H.ltN (L := [jY, F_rest]) [8, 9]
  refine xe #[.slice a36 ((rest[((s.qg[i]!).qy).toNat]!).length) c37, .slice ae29Here (((s.qg[i]!).xm).length) ce29Here, .int .i64 (counts[i]!)] rfl rfl Tryz.call88 (XB w24.drew (rest[((s.qg[i]!).qy).toNat]!) ((s.qg[i]!).xm) (counts[i]!) a36 c37 G38 ae29Here ce29Here Fe29Here (H.get 0 rfl).1 (H.get 4 rfl).1 (by first | assumption | omega) (by first | assumption | omega) (by first | assumption | omega)) ?_
  rintro v46 w44 r46 x45
  replace H := H.zf x45 r46
  obtain ⟨a47, c48, rfl, hc49, hm50⟩ := H.jd 0 rfl
  refine ⟨H.pick [1, 2, 3, 4, 6] [1, 2, 3, 4, 5, 6, 7, 8, 9, 10, 11, 12, 13, 14, 15, 16, 17], ?_⟩
  refine rt 23 (pp b35 (0 + ((s.qg[i]!).qy : Int).toNat * 1)) (xQ b35 (0) ((zN s t counts (vN (yC s t counts) counts.length)).length) rc3a ((s.qg[i]!).qy) Tryz.underlying27 ti22 rfl rfl (by omega) (by omega)) (H.pick [1, 2, 3, 4, 6] [1, 2, 3, 4, 5, 6, 7, 8, 9, 10, 11, 12, 13, 14, 15, 16, 17]) ?_
  refine xn [24] (by kernel_rfl) (by simp) (xX rfl ?_ xq)
  obtain ⟨G52, N, hn53, H⟩ := H.yH 0 rfl N (H.XR [8, 9])
  try dsimp only [List.set] at H
  refine jw true H 5 rfl 10 rfl (.slice a47 ((yl (rest[((s.qg[i]!).qy).toNat]!) ((s.qg[i]!).xm) (counts[i]!)).length) c48) 0 rfl rfl Tryz.sizeOf22 rfl rfl (i := (((s.qg[i]!).qy).toNat)) (by omega) (by omega) (by simp) fun w51 xs54 F55 hs56 H => ?_
  replace N : Fresh w.heap.size [F55, jY] := (N.pick [2, 0, 1]).repl hs56
  try dsimp only [List.set] at H
  refine ⟨H.pick [1, 2, 3, 4, 6] [3, 4, 5, 6, 7, 8, 9, 10, 11, 12, 13, 14, 15, 16, 17, 18, 19], ?_⟩
  refine xN (by kernel_rfl) (t_n ?_)
  refine qm (qm (qA ?_))
  refine sps [pp b26 (o27 + (i : Int).toNat * 9), pp b26 (o27 + (i : Int).toNat * 9)] ?_
  refine sw (qN b26 (o27 + (i : Int).toNat * 9) 0 Tryz.underlying110 rfl rfl Tryz.sizeOf2 rfl ?_)
  refine sw (qE (.int .i64 ((s.qg[i]!).qy)) Tryz.isAgg2 rfl (H.zh 9 rfl 0 rfl) ?_)
  refine sp (.bool (((s.qg[i]!).qy : Int) == 0)) ?_
  refine qx (t_n ?_)
  refine qW (((s.qg[i]!).qy : Int) == 0) rfl (fun h57 => ?_) (fun h57 => ?_)
  ·skip
   replace h57 := eq_of_beq h57
   obtain ⟨bg58, e_bg58⟩ : ∃ z, z = (rest.set (((s.qg[i]!).qy).toNat) (yl (rest[((s.qg[i]!).qy).toNat]!) ((s.qg[i]!).xm) (counts[i]!))) := ⟨_, rfl⟩
   rw [← e_bg58] at H
   have E_bg58 := Ent.addL (D := 1000000) E_rest e_bg58 (by omega) (by omega) (by first | exact bn2.mul (by omega) | exact bn3.mul (by omega) | exact bn4.mul (by omega)) (by omega)
   have z_bg58 : bg58.length = s.qf.length := by rw [e_bg58, List.length_set]; omega
   have E_cur := E_bg58
   refine yS rfl H [0, 2, 3, 4, 5, 6] fun H => ?_
   have S := H.yw [0, 2, 3, 4, 5, 6] [0, 1, 2, 3, 4, 5, 6, 7, 8, 9, 10, 11, 12, 13, 14, 15, 16, 17, 18, 19]
   refine rt 0 (pp b19 (0 + 2)) (xF b19 (0) 2 Tryz.underlying38 rfl rfl Tryz.sizeOf22 rfl) S ?_
   refine rtp 2 (pp b26 (o27 + (i : Int).toNat * 9)) S ?_
   refine rtp 3 (pp b26 (o27 + (i : Int).toNat * 9)) S ?_
   refine rt 4 (pp b26 (o27 + (i : Int).toNat * 9 + 6)) (xF b26 (o27 + (i : Int).toNat * 9) 6 Tryz.underlying110 rfl rfl Tryz.sizeOf22 rfl) S ?_
   refine rt 5 (.slice ae29Out (((s.qg[i]!).zg).length) ce29Out) (xw Tryz.isAgg22 rfl (fun _ h => h.zh 9 rfl 6 rfl)) S ?_
   refine rtp 6 (.slice (aa b30 o31) counts.length ccounts) S ?_
   refine rtp 7 (.int .i64 i) S ?_
   refine rt 8 (pp b30 (o31 + (i : Int).toNat * 1)) (xQ b30 (o31) counts.length ccounts i Tryz.underlying22 ti2 rfl rfl (by omega) (by omega)) S ?_
   refine rt 9 (.int .i64 (counts[i]!)) (xw Tryz.isAgg2 rfl (fun _ h => h.ja 19 rfl i (by omega) (by omega))) S ?_
   refine xn [1] (by kernel_rfl) (by simp) (xX rfl ?_ xq)
   refine qE (.slice zY zI zW) Tryz.isAgg22 rfl (H.cell 1 rfl rfl) ?_
   refine ⟨H.pick [0, 2, 3, 4, 5, 6] [0, 1, 2, 3, 4, 5, 6, 7, 8, 9, 10, 11, 12, 13, 14, 15, 16, 17, 18, 19], ?_⟩
   refine xn [10] (by kernel_rfl) (by simp) (xX rfl ?_ xq)
   obtain ⟨G60, hn61, h62⟩ := H.Xd 4 rfl
   obtain ⟨u1, u2⟩ := Ent.rowN E_bg58 (by omega) (by omega) (by omega)
   have u4 := (by first | exact bn2.yj (by omega) | exact bn3.yj (by omega) | exact bn4.yj (by omega) : SmallT ((s.qg[i]!).zg) (counts[i]!))
   have sz63 := H.base.size
   have lt64 := H.ltN (L := [F55, jY]) [0, 10]
   refine xe #[.slice zY zI zW, .slice ae29Out (((s.qg[i]!).zg).length) ce29Out, .int .i64 (counts[i]!)] rfl rfl Tryz.call88 (args_eq (by rw [← hn61]) (XB w51.drew out_Around ((s.qg[i]!).zg) (counts[i]!) zY zW G60 ae29Out ce29Out Fe29Out (hn61 ▸ h62) (H.get 7 rfl).1 (by first | assumption | omega) (by first | assumption | omega) (by first | assumption | omega))) ?_
   rintro v68 w66 r68 x67
   replace H := H.zf x67 r68
   obtain ⟨a69, c70, rfl, hc71, hm72⟩ := H.jd 0 rfl
   refine ⟨H.pick [1, 3, 4, 5, 6, 7] [0, 1, 2, 3, 4, 5, 6, 7, 8, 9, 10, 11, 12, 13, 14, 15, 16, 17, 18, 19], ?_⟩
   refine rt 11 (pp b19 (0 + 2)) (xF b19 (0) 2 Tryz.underlying38 rfl rfl Tryz.sizeOf22 rfl) (H.pick [1, 3, 4, 5, 6, 7] [0, 1, 2, 3, 4, 5, 6, 7, 8, 9, 10, 11, 12, 13, 14, 15, 16, 17, 18, 19]) ?_
   refine xn [12] (by kernel_rfl) (by simp) (xX rfl ?_ xq)
   refine o_store1C H 2 [.slice jO t.qh.length jM, .slice (aa b35 0) ((zN s t counts (vN (yC s t counts) counts.length)).length) rc3a, .slice a69 ((yl out_Around ((s.qg[i]!).zg) (counts[i]!)).length) c70] Tryz.sizeOf22 fun w73 H => ?_
   try dsimp only [List.set] at H
   refine ⟨H.pick [1, 3, 4, 5, 6, 7] [0, 1, 2, 3, 4, 5, 6, 7, 8, 9, 10, 11, 12, 13, 14, 15, 16, 17, 18, 19], ?_⟩
   refine xN (by kernel_rfl) (t_n ?_)
   refine qm (qA ?_)
   refine sp (.int .i64 0) ?_
   refine qx (t_n (xE ?_))
   replace E_bg58 := Ent.addN (D := 1000000) (a' := yl out_Around ((s.qg[i]!).zg) (counts[i]!)) E_bg58 rfl (by omega) (by first | exact bn2.mul (by omega) | exact bn3.mul (by omega) | exact bn4.mul (by omega)) (by omega)
   have E_cur := E_bg58
   refine zX (fun m' ρ w74 => ∃ (junk : Env) (k : Nat) (out_Bags : List (List Int)) (zt : List Value) (xP : List Nat), ρ = upd (upd (upd (upd (upd (upd (upd (upd junk 0 (pp bs os)) 1 (pp bt ot)) 2 (.slice (aa b30 o31) counts.length ccounts)) 6 (pp b1 0)) 10 (pp b19 0)) 11 (.int .i64 i)) 12 (pp b26 (o27 + (i : Int).toNat * 9))) 14 (.int .i64 k) ∧ ((k : Int) ≤ (((s.qg[i]!).qB).length)) ∧ (Ent (s.qf.length + 1) (QD s) (fun p q => base0 s t p q + needS s counts s.qg.length p q + putS s t counts i p q + at' p (s.qg[i]!).qy.toNat (counts[i]! * ((s.qg[i]!).xm)[q]!) + at' p (outPl s t (s.qg[i]!)) (counts[i]! * ((s.qg[i]!).zg)[q]!) + intoF (s.qg[i]!) (counts[i]!) k p q) (22000000 + 6000000 * i + 1000000 * k) (out_Bags ++ [yl out_Around ((s.qg[i]!).zg) (counts[i]!)])) ∧ (out_Bags.length = s.qf.length) ∧ m' = ((((s.qg[i]!).qB).length) - (k : Int)).toNat ∧ Fresh w.heap.size [jY, xP] ∧ St w w74 [.row (.slice a69 ((yl out_Around ((s.qg[i]!).zg) (counts[i]!)).length) c70) 2 1 ((yl out_Around ((s.qg[i]!).zg) (counts[i]!)).length) ((yl out_Around ((s.qg[i]!).zg) (counts[i]!)).map (Value.int .i64)), .box b19 [.slice jO t.qh.length jM, .slice (aa b35 0) ((zN s t counts (vN (yC s t counts) counts.length)).length) rc3a, .slice a69 ((yl out_Around ((s.qg[i]!).zg) (counts[i]!)).length) c70] 38, .row (.slice jO t.qh.length jM) 4 1 t.qh.length (t.qh.map (Value.bool)), .row (.slice ra11Bags t.qo.length rc11Bags) 22 1 t.qo.length XU, .row (.slice zY zI zW) 2 1 zI (out_Around.map (Value.int .i64)), .row (.slice (aa b35 0) ((zN s t counts (vN (yC s t counts) counts.length)).length) rc3a) 22 1 ((zN s t counts (vN (yC s t counts) counts.length)).length) zt, .box b1 [.slice none 0 0, .slice none 0 0, .slice none 0 0] 38] [jk true xP zt out_Bags, isF false Fe29Need (.slice ae29Need (((s.qg[i]!).qV).length) ce29Need) ((s.qg[i]!).qV), isF false Fe29Have (.slice ae29Have (((s.qg[i]!).xh).length) ce29Have) ((s.qg[i]!).xh), isF false Fe29Lack (.slice ae29Lack (((s.qg[i]!).xk).length) ce29Lack) ((s.qg[i]!).xk), isF false Fe29Here (.slice ae29Here (((s.qg[i]!).xm).length) ce29Here) ((s.qg[i]!).xm), isF false Fe29Out (.slice ae29Out (((s.qg[i]!).zg).length) ce29Out) ((s.qg[i]!).zg), isF false Fe29Into (.slice ae29Into (((s.qg[i]!).qB).length) Xl) ((s.qg[i]!).qB), atF b26 (o27 + (i : Int).toNat * 9) [.int .i64 ((s.qg[i]!).qy), .int .i64 ((s.qg[i]!).xZ), .slice ae29Need (((s.qg[i]!).qV).length) ce29Need, .slice ae29Have (((s.qg[i]!).xh).length) ce29Have, .slice ae29Lack (((s.qg[i]!).xk).length) ce29Lack, .slice ae29Here (((s.qg[i]!).xm).length) ce29Here, .slice ae29Out (((s.qg[i]!).zg).length) ce29Out, .slice ae29Into (((s.qg[i]!).qB).length) Xl, .bool ((s.qg[i]!).xO)], jk true jY XU t.qo, atF bs os [.int .i64 s.qH, .slice qw s.qf.length qp, .slice (aa b26 o27) s.qg.length qC], isF false qP (.slice qw s.qf.length qp) s.qf, isF false xC (.slice (aa b26 o27) s.qg.length qC) s.qg, atF bt ot [.slice qO t.qh.length qJ, .slice xG t.qo.length xA, .slice qL t.ql.length qK], isF false xK (.slice qO t.qh.length qJ) t.qh, isF false zy (.slice xG t.qo.length xA) t.qo, isF false xI (.slice qL t.ql.length qK) t.ql, isF false Fcounts (.slice (aa b30 o31) counts.length ccounts) counts]) (((((s.qg[i]!).qB).length) - (0 : Int)).toNat) ⟨_, 0, bg58, xs54, F55, (by exact qj (qj (qj (qj (qj (qj (qj (qj (rfl) rfl) rfl) rfl) rfl) rfl) rfl) rfl) rfl), (by omega), (by exact E_cur.to (fun p q => by first | (simp only [intoF, outPl_root (s := s) (t := t) (r := s.qg[i]!) ‹_›, ji]; omega) | (simp only [intoF, outPl_up (s := s) (t := t) (r := s.qg[i]!) ‹_›]; omega)) (by omega)), (by omega), rfl, (N.pick [1, 0]), H.pick [0, 2, 3, 4, 5, 6, 7] [0, 3, 4, 5, 6, 7, 8, 9, 10, 12, 13, 14, 15, 16, 17, 18, 19]⟩ ?_
   clear H N
   rintro m' ρ w75 ⟨junk, k, out_Bags, zt, xP, rfl, i0, E_out_Bags, z_out_Bags, rfl, N, H⟩
   have XX := H.zu (α := List Int) 5 rfl 0 rfl (by decide)
   refine qm (qm (qA ?_))
   refine sps [.int .i64 k, pp b26 (o27 + (i : Int).toNat * 9), pp b26 (o27 + (i : Int).toNat * 9)] ?_
   refine sw (qN b26 (o27 + (i : Int).toNat * 9) 7 Tryz.underlying110 rfl rfl Tryz.sizeOf108 rfl ?_)
   refine sw (qE (.slice ae29Into (((s.qg[i]!).qB).length) Xl) Tryz.isAgg108 rfl (H.zh 7 rfl 7 rfl) ?_)
   refine sw (zZ Tryz.underlying108 ae29Into (((s.qg[i]!).qB).length) Xl rfl ?_)
   refine sp (.bool (decide ((k : Int) < (((s.qg[i]!).qB).length)))) ?_
   refine qx (t_n ?_)
   refine qW (decide ((k : Int) < (((s.qg[i]!).qB).length))) rfl (fun h76 => ?_) (fun h76 => ?_)
   ·skip
    replace h76 := of_decide_eq_true h76
    have qi := q.2.2.2.2.2.2.2.2.2.2 k (by omega)
    have qi1 := qi.1
    have bn4 := qi.2.2.1
    have ln4 := bn4.len
    refine xu (t_n (qm (xE (qm (qA ?_)))))
    refine sps [pp b26 (o27 + (i : Int).toNat * 9), pp b26 (o27 + (i : Int).toNat * 9)] ?_
    refine sw (qN b26 (o27 + (i : Int).toNat * 9) 7 Tryz.underlying110 rfl rfl Tryz.sizeOf108 rfl ?_)
    refine sw (qE (.slice ae29Into (((s.qg[i]!).qB).length) Xl) Tryz.isAgg108 rfl (H.zh 7 rfl 7 rfl) ?_)
    refine sp (.int .i64 k) ?_
    obtain ⟨b77, o78, rfl⟩ := H.addr 6 rfl (by omega)
    obtain ⟨ae80Bag, ce80Bag, Fe80Bag, H⟩ := H.jJ 6 rfl k k (by omega) (by omega) (by omega)
    refine sw (xJ k Tryz.underlying108 ti115 rfl rfl (by omega) (by omega) ?_)
    refine sw (qN b77 (o78 + (k : Int).toNat * 2) 0 Tryz.underlying115 rfl rfl Tryz.sizeOf2 rfl ?_)
    refine sw (qE (.int .i64 ((((s.qg[i]!).qB)[k]!).qy)) Tryz.isAgg2 rfl (H.zh 1 rfl 0 rfl) ?_)
    refine sp (.int .i64 ((((s.qg[i]!).qB)[k]!).qy)) ?_
    refine qx (t_n ?_)
    refine yS rfl H [0, 1, 2, 3, 4, 6] fun H => ?_
    have S := H.yw [0, 1, 2, 3, 4, 6] [0, 1, 2, 3, 4, 5, 6, 7, 8, 9, 10, 11, 12, 13, 14, 15, 16, 17, 18]
    refine rt 0 (pp b19 (0 + 1)) (xF b19 (0) 1 Tryz.underlying38 rfl rfl Tryz.sizeOf27 rfl) S ?_
    refine rt 1 (.slice (aa b35 0) ((zN s t counts (vN (yC s t counts) counts.length)).length) rc3a) (xw Tryz.isAgg27 rfl (fun _ h => h.cell 1 rfl rfl)) S ?_
    refine rtp 2 (.int .i64 ((((s.qg[i]!).qB)[k]!).qy)) S ?_
    refine rt 3 (pp b19 (0 + 1)) (xF b19 (0) 1 Tryz.underlying38 rfl rfl Tryz.sizeOf27 rfl) S ?_
    refine rt 4 (.slice (aa b35 0) ((zN s t counts (vN (yC s t counts) counts.length)).length) rc3a) (xw Tryz.isAgg27 rfl (fun _ h => h.cell 1 rfl rfl)) S ?_
    refine rtp 5 (.int .i64 ((((s.qg[i]!).qB)[k]!).qy)) S ?_
    refine rt 6 (pp b35 (0 + ((((s.qg[i]!).qB)[k]!).qy : Int).toNat * 1)) (xQ b35 (0) ((zN s t counts (vN (yC s t counts) counts.length)).length) rc3a ((((s.qg[i]!).qB)[k]!).qy) Tryz.underlying27 ti22 rfl rfl (by omega) (by omega)) S ?_
    refine rtp 8 (pp b26 (o27 + (i : Int).toNat * 9)) S ?_
    refine rtp 9 (pp b26 (o27 + (i : Int).toNat * 9)) S ?_
    refine rt 10 (pp b26 (o27 + (i : Int).toNat * 9 + 7)) (xF b26 (o27 + (i : Int).toNat * 9) 7 Tryz.underlying110 rfl rfl Tryz.sizeOf108 rfl) S ?_
    refine rt 11 (.slice (aa b77 o78) (((s.qg[i]!).qB).length) Xl) (xw Tryz.isAgg108 rfl (fun _ h => h.zh 9 rfl 7 rfl)) S ?_
    refine rtp 12 (.int .i64 k) S ?_
    refine rt 13 (pp b77 (o78 + (k : Int).toNat * 2)) (xQ b77 (o78) (((s.qg[i]!).qB).length) Xl k Tryz.underlying108 ti115 rfl rfl (by omega) (by omega)) S ?_
    refine rt 14 (pp b77 (o78 + (k : Int).toNat * 2 + 1)) (xF b77 (o78 + (k : Int).toNat * 2) 1 Tryz.underlying115 rfl rfl Tryz.sizeOf22 rfl) S ?_
    refine rt 15 (.slice ae80Bag (((((s.qg[i]!).qB)[k]!).vz).length) ce80Bag) (xw Tryz.isAgg22 rfl (fun _ h => h.zh 1 rfl 1 rfl)) S ?_
    refine rtp 16 (.slice (aa b30 o31) counts.length ccounts) S ?_
    refine rtp 17 (.int .i64 i) S ?_
    refine rt 18 (pp b30 (o31 + (i : Int).toNat * 1)) (xQ b30 (o31) counts.length ccounts i Tryz.underlying22 ti2 rfl rfl (by omega) (by omega)) S ?_
    refine rt 19 (.int .i64 (counts[i]!)) (xw Tryz.isAgg2 rfl (fun _ h => h.ja 18 rfl i (by omega) (by omega))) S ?_
    refine xn [7] (by kernel_rfl) (by simp) (xX rfl ?_ xq)
    obtain ⟨a82, c83, G84, s85, h86, H⟩ := H.jE 5 rfl 2 rfl (iv := (((s.qg[i]!).qB)[k]!).qy) (((((s.qg[i]!).qB)[k]!).qy).toNat) (by omega) (by omega)
    refine qE (.slice a82 ((out_Bags[((((s.qg[i]!).qB)[k]!).qy).toNat]!).length) c83) Tryz.isAgg22 rfl (h86) ?_
    refine ⟨H.pick [0, 1, 2, 3, 4, 6] [1, 2, 3, 4, 5, 6, 7, 8, 9, 10, 11, 12, 13, 14, 15, 16, 17, 18, 19], ?_⟩
    refine xn [20] (by kernel_rfl) (by simp) (xX rfl ?_ xq)
    obtain ⟨u1, u2⟩ := Ent.rowL E_out_Bags (c := ((((s.qg[i]!).qB)[k]!).qy).toNat) (by omega) (by omega) (by omega) (by omega)
    have u4 := (by first | exact bn2.yj (by omega) | exact bn3.yj (by omega) | exact bn4.yj (by omega) : SmallT ((((s.qg[i]!).qB)[k]!).vz) (counts[i]!))
    have sz87 := H.base.size
    have lt88 := H.ltN (L := [jY, xP]) [11, 3]
    refine xe #[.slice a82 ((out_Bags[((((s.qg[i]!).qB)[k]!).qy).toNat]!).length) c83, .slice ae80Bag (((((s.qg[i]!).qB)[k]!).vz).length) ce80Bag, .int .i64 (counts[i]!)] rfl rfl Tryz.call88 (XB w75.drew (out_Bags[((((s.qg[i]!).qB)[k]!).qy).toNat]!) ((((s.qg[i]!).qB)[k]!).vz) (counts[i]!) a82 c83 G84 ae80Bag ce80Bag Fe80Bag (H.get 0 rfl).1 (H.get 1 rfl).1 (by first | assumption | omega) (by first | assumption | omega) (by first | assumption | omega)) ?_
    rintro v92 w90 r92 x91
    replace H := H.zf x91 r92
    obtain ⟨a93, c94, rfl, hc95, hm96⟩ := H.jd 0 rfl
    refine ⟨H.pick [1, 2, 3, 4, 5, 7] [1, 2, 3, 4, 5, 6, 7, 8, 9, 10, 11, 12, 13, 14, 15, 16, 17, 18, 19], ?_⟩
    refine rt 21 (pp b35 (0 + ((((s.qg[i]!).qB)[k]!).qy : Int).toNat * 1)) (xQ b35 (0) ((zN s t counts (vN (yC s t counts) counts.length)).length) rc3a ((((s.qg[i]!).qB)[k]!).qy) Tryz.underlying27 ti22 rfl rfl (by omega) (by omega)) (H.pick [1, 2, 3, 4, 5, 7] [1, 2, 3, 4, 5, 6, 7, 8, 9, 10, 11, 12, 13, 14, 15, 16, 17, 18, 19]) ?_
    refine xn [22] (by kernel_rfl) (by simp) (xX rfl ?_ xq)
    obtain ⟨G98, N, hn99, H⟩ := H.yH 0 rfl N (H.XR [11, 3])
    try dsimp only [List.set] at H
    refine jw true H 6 rfl 4 rfl (.slice a93 ((yl (out_Bags[((((s.qg[i]!).qB)[k]!).qy).toNat]!) ((((s.qg[i]!).qB)[k]!).vz) (counts[i]!)).length) c94) 0 rfl rfl Tryz.sizeOf22 rfl rfl (i := (((((s.qg[i]!).qB)[k]!).qy).toNat)) (by omega) (by omega) (by simp) fun w97 xs100 F101 hs102 H => ?_
    replace N : Fresh w.heap.size [F101, jY] := (N.pick [2, 0, 1]).repl hs102
    try dsimp only [List.set] at H
    refine ⟨H.pick [1, 2, 3, 4, 5, 7] [3, 4, 5, 6, 7, 8, 9, 10, 11, 12, 13, 14, 15, 16, 17, 18, 19, 20, 21], ?_⟩
    refine xN (by kernel_rfl) (b_n (t_n ?_))
    refine qA ?_
    refine sp (.int .i64 k) ?_
    refine sw (vg k 1 rfl rfl (by omega) ?_)
    refine sp (.int .i64 (k + 1)) ?_
    refine qx ?_
    obtain ⟨bg103, e_bg103⟩ : ∃ z, z = (out_Bags.set (((((s.qg[i]!).qB)[k]!).qy).toNat) (yl (out_Bags[((((s.qg[i]!).qB)[k]!).qy).toNat]!) ((((s.qg[i]!).qB)[k]!).vz) (counts[i]!))) := ⟨_, rfl⟩
    rw [← e_bg103] at H
    have E_bg103 := Ent.addL (D := 1000000) E_out_Bags e_bg103 (by omega) (by omega) (by first | exact bn2.mul (by omega) | exact bn3.mul (by omega) | exact bn4.mul (by omega)) (by omega)
    have z_bg103 : bg103.length = s.qf.length := by rw [e_bg103, List.length_set]; omega
    have E_cur := E_bg103
    refine xH (m' := ((((s.qg[i]!).qB).length) - ((k + 1) : Int)).toNat) (by omega) ⟨_, k + 1, bg103, xs100, F101, (by exact qj (qj (qj (qj (qj (qj (qj (qj (rfl) rfl) rfl) rfl) rfl) rfl) rfl) rfl) rfl), ?_, ?_, ?_, rfl, (N.pick [1, 0]), H.pick [1, 2, 3, 4, 5, 6, 7] [0, 6, 7, 8, 9, 10, 11, 12, 13, 14, 15, 16, 17, 18, 19, 20, 21]⟩
    · omega
    · exact E_cur.to (fun p q => by simp only [intoF]; omega) (by omega)
    · omega
   replace h76 := of_decide_eq_false h76
   refine zU (t_x (t_x (b_x (b_n (t_n (qA ?_))))))
   refine sp (.int .i64 i) ?_
   refine sw (vg i 1 rfl rfl (by omega) ?_)
   refine sp (.int .i64 (i + 1)) ?_
   refine qx ?_
   refine xH (m' := (counts.length - ((i + 1) : Int)).toNat) (by omega) ⟨_, i + 1, a69, (yl out_Around ((s.qg[i]!).zg) (counts[i]!)).length, c70, yl out_Around ((s.qg[i]!).zg) (counts[i]!), out_Bags, zt, xP, (by exact qj (qj (qj (qj (qj (qj (rfl) rfl) rfl) rfl) rfl) rfl) rfl), ?_, ?_, ?_, rfl, N, H.pick [1, 2, 3, 0, 5, 6] [8, 0, 9, 10, 11, 12, 13, 14, 15, 16]⟩
   · omega
   · first | exact E_rest.to (fun p q => by simp only [putS_skip (s := s) (t := t) (counts := counts) (i := i) ‹_›]) (by omega) | exact E_out_Bags.to (fun p q => by rw [show k = ((s.qg[i]!).qB).length by omega]; simp only [putS, putF]; omega) (by omega)
   · omega
  replace h57 := ne_of_beq_false h57
  obtain ⟨bg104, e_bg104⟩ : ∃ z, z = (rest.set (((s.qg[i]!).qy).toNat) (yl (rest[((s.qg[i]!).qy).toNat]!) ((s.qg[i]!).xm) (counts[i]!))) := ⟨_, rfl⟩
  rw [← e_bg104] at H
  have E_bg104 := Ent.addL (D := 1000000) E_rest e_bg104 (by omega) (by omega) (by first | exact bn2.mul (by omega) | exact bn3.mul (by omega) | exact bn4.mul (by omega)) (by omega)
  have z_bg104 : bg104.length = s.qf.length := by rw [e_bg104, List.length_set]; omega
  have E_cur := E_bg104
  refine qm (qA ?_)
  refine sps [pp bs os, pp bt ot, pp b26 (o27 + (i : Int).toNat * 9), pp b26 (o27 + (i : Int).toNat * 9)] ?_
  refine sw (qN b26 (o27 + (i : Int).toNat * 9) 0 Tryz.underlying110 rfl rfl Tryz.sizeOf2 rfl ?_)
  refine sw (qE (.int .i64 ((s.qg[i]!).qy)) Tryz.isAgg2 rfl (H.zh 9 rfl 0 rfl) ?_)
  refine sw (xe #[pp bs os, pp bt ot, .int .i64 ((s.qg[i]!).qy)] rfl rfl Tryz.call107 (l02Parent_ok w51 s t ((s.qg[i]!).qy) bs os qw qp qP (aa b26 o27) qC xC bt ot qO qJ xK xG xA zy qL qK xI (qI (H.get 12 rfl) 0 3) (H.get 13 rfl).1 (H.get 14 rfl).1 (qI (H.get 15 rfl) 0 3) (H.get 16 rfl).1 (H.get 17 rfl).1 (H.get 18 rfl).1 (by assumption) (by assumption) (by assumption)) ?_)
  rintro _ w105 rfl x106
  replace H := H.ext x106
  have pin := X5 (s := s) (t := t) (c := ((s.qg[i]!).qy)) p0.1 p1.2.2.1 (by omega) (by omega)
  refine sp (.int .i64 (xf s t ((s.qg[i]!).qy))) ?_
  refine qx (t_n ?_)
  refine yS rfl H [0, 1, 2, 3, 4, 6] fun H => ?_
  have S := H.yw [0, 1, 2, 3, 4, 6] [0, 1, 2, 3, 4, 5, 6, 7, 8, 9, 10, 11, 12, 13, 14, 15, 16, 17, 18, 19]
  refine rt 0 (pp b19 (0 + 1)) (xF b19 (0) 1 Tryz.underlying38 rfl rfl Tryz.sizeOf27 rfl) S ?_
  refine rt 1 (.slice (aa b35 0) ((zN s t counts (vN (yC s t counts) counts.length)).length) rc3a) (xw Tryz.isAgg27 rfl (fun _ h => h.cell 1 rfl rfl)) S ?_
  refine rtp 2 (.int .i64 (xf s t ((s.qg[i]!).qy))) S ?_
  refine rt 3 (pp b19 (0 + 1)) (xF b19 (0) 1 Tryz.underlying38 rfl rfl Tryz.sizeOf27 rfl) S ?_
  refine rt 4 (.slice (aa b35 0) ((zN s t counts (vN (yC s t counts) counts.length)).length) rc3a) (xw Tryz.isAgg27 rfl (fun _ h => h.cell 1 rfl rfl)) S ?_
  refine rtp 5 (.int .i64 (xf s t ((s.qg[i]!).qy))) S ?_
  refine rt 6 (pp b35 (0 + (xf s t ((s.qg[i]!).qy) : Int).toNat * 1)) (xQ b35 (0) ((zN s t counts (vN (yC s t counts) counts.length)).length) rc3a (xf s t ((s.qg[i]!).qy)) Tryz.underlying27 ti22 rfl rfl (by omega) (by omega)) S ?_
  refine rtp 8 (pp b26 (o27 + (i : Int).toNat * 9)) S ?_
  refine rtp 9 (pp b26 (o27 + (i : Int).toNat * 9)) S ?_
  refine rt 10 (pp b26 (o27 + (i : Int).toNat * 9 + 6)) (xF b26 (o27 + (i : Int).toNat * 9) 6 Tryz.underlying110 rfl rfl Tryz.sizeOf22 rfl) S ?_
  refine rt 11 (.slice ae29Out (((s.qg[i]!).zg).length) ce29Out) (xw Tryz.isAgg22 rfl (fun _ h => h.zh 9 rfl 6 rfl)) S ?_
  refine rtp 12 (.slice (aa b30 o31) counts.length ccounts) S ?_
  refine rtp 13 (.int .i64 i) S ?_
  refine rt 14 (pp b30 (o31 + (i : Int).toNat * 1)) (xQ b30 (o31) counts.length ccounts i Tryz.underlying22 ti2 rfl rfl (by omega) (by omega)) S ?_
  refine rt 15 (.int .i64 (counts[i]!)) (xw Tryz.isAgg2 rfl (fun _ h => h.ja 19 rfl i (by omega) (by omega))) S ?_
  refine xn [7] (by kernel_rfl) (by simp) (xX rfl ?_ xq)
  obtain ⟨a108, c109, G110, s111, h112, H⟩ := H.jE 5 rfl 0 rfl (iv := xf s t ((s.qg[i]!).qy)) ((xf s t ((s.qg[i]!).qy)).toNat) (by omega) (by omega)
  refine qE (.slice a108 ((bg104[(xf s t ((s.qg[i]!).qy)).toNat]!).length) c109) Tryz.isAgg22 rfl (h112) ?_
  refine ⟨H.pick [0, 1, 2, 3, 4, 6] [1, 2, 3, 4, 5, 6, 7, 8, 9, 10, 11, 12, 13, 14, 15, 16, 17, 18, 19, 20], ?_⟩
  refine xn [16] (by kernel_rfl) (by simp) (xX rfl ?_ xq)
  obtain ⟨u1, u2⟩ := Ent.rowL E_bg104 (c := (xf s t ((s.qg[i]!).qy)).toNat) (by omega) (by omega) (by omega) (by omega)
  have u4 := (by first | exact bn2.yj (by omega) | exact bn3.yj (by omega) | exact bn4.yj (by omega) : SmallT ((s.qg[i]!).zg) (counts[i]!))
  have sz113 := H.base.size
  have lt114 := H.ltN (L := [F55, jY]) [1, 11]
  refine xe #[.slice a108 ((bg104[(xf s t ((s.qg[i]!).qy)).toNat]!).length) c109, .slice ae29Out (((s.qg[i]!).zg).length) ce29Out, .int .i64 (counts[i]!)] rfl rfl Tryz.call88 (XB w105.drew (bg104[(xf s t ((s.qg[i]!).qy)).toNat]!) ((s.qg[i]!).zg) (counts[i]!) a108 c109 G110 ae29Out ce29Out Fe29Out (H.get 0 rfl).1 (H.get 8 rfl).1 (by first | assumption | omega) (by first | assumption | omega) (by first | assumption | omega)) ?_
  rintro v118 w116 r118 x117
  replace H := H.zf x117 r118
  obtain ⟨a119, c120, rfl, hc121, hm122⟩ := H.jd 0 rfl
  refine ⟨H.pick [1, 2, 3, 4, 5, 7] [1, 2, 3, 4, 5, 6, 7, 8, 9, 10, 11, 12, 13, 14, 15, 16, 17, 18, 19, 20], ?_⟩
  refine rt 17 (pp b35 (0 + (xf s t ((s.qg[i]!).qy) : Int).toNat * 1)) (xQ b35 (0) ((zN s t counts (vN (yC s t counts) counts.length)).length) rc3a (xf s t ((s.qg[i]!).qy)) Tryz.underlying27 ti22 rfl rfl (by omega) (by omega)) (H.pick [1, 2, 3, 4, 5, 7] [1, 2, 3, 4, 5, 6, 7, 8, 9, 10, 11, 12, 13, 14, 15, 16, 17, 18, 19, 20]) ?_
  refine xn [18] (by kernel_rfl) (by simp) (xX rfl ?_ xq)
  obtain ⟨G124, N, hn125, H⟩ := H.yH 0 rfl N (H.XR [1, 11])
  try dsimp only [List.set] at H
  refine jw true H 6 rfl 2 rfl (.slice a119 ((yl (bg104[(xf s t ((s.qg[i]!).qy)).toNat]!) ((s.qg[i]!).zg) (counts[i]!)).length) c120) 0 rfl rfl Tryz.sizeOf22 rfl rfl (i := ((xf s t ((s.qg[i]!).qy)).toNat)) (by omega) (by omega) (by simp) fun w123 xs126 F127 hs128 H => ?_
  replace N : Fresh w.heap.size [F127, jY] := (N.pick [1, 0, 2]).repl hs128
  try dsimp only [List.set] at H
  refine ⟨H.pick [1, 2, 3, 4, 5, 7] [3, 4, 5, 6, 7, 8, 9, 10, 11, 12, 13, 14, 15, 16, 17, 18, 19, 20, 21, 22], ?_⟩
  refine xN (by kernel_rfl) (t_n ?_)
  refine qm (qA ?_)
  refine sp (.int .i64 0) ?_
  refine qx (t_n (xE ?_))
  obtain ⟨bg129, e_bg129⟩ : ∃ z, z = (bg104.set ((xf s t ((s.qg[i]!).qy)).toNat) (yl (bg104[(xf s t ((s.qg[i]!).qy)).toNat]!) ((s.qg[i]!).zg) (counts[i]!))) := ⟨_, rfl⟩
  rw [← e_bg129] at H
  have E_bg129 := Ent.addL (D := 1000000) E_bg104 e_bg129 (by omega) (by omega) (by first | exact bn2.mul (by omega) | exact bn3.mul (by omega) | exact bn4.mul (by omega)) (by omega)
  have z_bg129 : bg129.length = s.qf.length := by rw [e_bg129, List.length_set]; omega
  have E_cur := E_bg129
  refine zX (fun m' ρ w130 => ∃ (junk : Env) (k : Nat) (out_Bags : List (List Int)) (zt : List Value) (xP : List Nat), ρ = upd (upd (upd (upd (upd (upd (upd (upd junk 0 (pp bs os)) 1 (pp bt ot)) 2 (.slice (aa b30 o31) counts.length ccounts)) 6 (pp b1 0)) 10 (pp b19 0)) 11 (.int .i64 i)) 12 (pp b26 (o27 + (i : Int).toNat * 9))) 14 (.int .i64 k) ∧ ((k : Int) ≤ (((s.qg[i]!).qB).length)) ∧ (Ent (s.qf.length + 1) (QD s) (fun p q => base0 s t p q + needS s counts s.qg.length p q + putS s t counts i p q + at' p (s.qg[i]!).qy.toNat (counts[i]! * ((s.qg[i]!).xm)[q]!) + at' p (outPl s t (s.qg[i]!)) (counts[i]! * ((s.qg[i]!).zg)[q]!) + intoF (s.qg[i]!) (counts[i]!) k p q) (22000000 + 6000000 * i + 1000000 * k) (out_Bags ++ [out_Around])) ∧ (out_Bags.length = s.qf.length) ∧ m' = ((((s.qg[i]!).qB).length) - (k : Int)).toNat ∧ Fresh w.heap.size [jY, xP] ∧ St w w130 [.box b19 [.slice jO t.qh.length jM, .slice (aa b35 0) ((zN s t counts (vN (yC s t counts) counts.length)).length) rc3a, .slice zY zI zW] 38, .row (.slice jO t.qh.length jM) 4 1 t.qh.length (t.qh.map (Value.bool)), .row (.slice ra11Bags t.qo.length rc11Bags) 22 1 t.qo.length XU, .row (.slice zY zI zW) 2 1 zI (out_Around.map (Value.int .i64)), .row (.slice (aa b35 0) ((zN s t counts (vN (yC s t counts) counts.length)).length) rc3a) 22 1 ((zN s t counts (vN (yC s t counts) counts.length)).length) zt, .box b1 [.slice none 0 0, .slice none 0 0, .slice none 0 0] 38] [jk true xP zt out_Bags, isF false Fe29Need (.slice ae29Need (((s.qg[i]!).qV).length) ce29Need) ((s.qg[i]!).qV), isF false Fe29Have (.slice ae29Have (((s.qg[i]!).xh).length) ce29Have) ((s.qg[i]!).xh), isF false Fe29Lack (.slice ae29Lack (((s.qg[i]!).xk).length) ce29Lack) ((s.qg[i]!).xk), isF false Fe29Here (.slice ae29Here (((s.qg[i]!).xm).length) ce29Here) ((s.qg[i]!).xm), isF false Fe29Out (.slice ae29Out (((s.qg[i]!).zg).length) ce29Out) ((s.qg[i]!).zg), isF false Fe29Into (.slice ae29Into (((s.qg[i]!).qB).length) Xl) ((s.qg[i]!).qB), atF b26 (o27 + (i : Int).toNat * 9) [.int .i64 ((s.qg[i]!).qy), .int .i64 ((s.qg[i]!).xZ), .slice ae29Need (((s.qg[i]!).qV).length) ce29Need, .slice ae29Have (((s.qg[i]!).xh).length) ce29Have, .slice ae29Lack (((s.qg[i]!).xk).length) ce29Lack, .slice ae29Here (((s.qg[i]!).xm).length) ce29Here, .slice ae29Out (((s.qg[i]!).zg).length) ce29Out, .slice ae29Into (((s.qg[i]!).qB).length) Xl, .bool ((s.qg[i]!).xO)], jk true jY XU t.qo, atF bs os [.int .i64 s.qH, .slice qw s.qf.length qp, .slice (aa b26 o27) s.qg.length qC], isF false qP (.slice qw s.qf.length qp) s.qf, isF false xC (.slice (aa b26 o27) s.qg.length qC) s.qg, atF bt ot [.slice qO t.qh.length qJ, .slice xG t.qo.length xA, .slice qL t.ql.length qK], isF false xK (.slice qO t.qh.length qJ) t.qh, isF false zy (.slice xG t.qo.length xA) t.qo, isF false xI (.slice qL t.ql.length qK) t.ql, isF false Fcounts (.slice (aa b30 o31) counts.length ccounts) counts]) (((((s.qg[i]!).qB).length) - (0 : Int)).toNat) ⟨_, 0, bg129, xs126, F127, (by exact qj (qj (qj (qj (qj (qj (qj (qj (rfl) rfl) rfl) rfl) rfl) rfl) rfl) rfl) rfl), (by omega), (by exact E_cur.to (fun p q => by first | (simp only [intoF, outPl_root (s := s) (t := t) (r := s.qg[i]!) ‹_›, ji]; omega) | (simp only [intoF, outPl_up (s := s) (t := t) (r := s.qg[i]!) ‹_›]; omega)) (by omega)), (by omega), rfl, (N.pick [1, 0]), H.pick [2, 3, 4, 5, 6, 7] [0, 6, 7, 8, 9, 10, 11, 12, 13, 15, 16, 17, 18, 19, 20, 21, 22]⟩ ?_
  clear H N
  rintro m' ρ w131 ⟨junk, k, out_Bags, zt, xP, rfl, i0, E_out_Bags, z_out_Bags, rfl, N, H⟩
  have XX := H.zu (α := List Int) 4 rfl 0 rfl (by decide)
  refine qm (qm (qA ?_))
  refine sps [.int .i64 k, pp b26 (o27 + (i : Int).toNat * 9), pp b26 (o27 + (i : Int).toNat * 9)] ?_
  refine sw (qN b26 (o27 + (i : Int).toNat * 9) 7 Tryz.underlying110 rfl rfl Tryz.sizeOf108 rfl ?_)
  refine sw (qE (.slice ae29Into (((s.qg[i]!).qB).length) Xl) Tryz.isAgg108 rfl (H.zh 7 rfl 7 rfl) ?_)
  refine sw (zZ Tryz.underlying108 ae29Into (((s.qg[i]!).qB).length) Xl rfl ?_)
  refine sp (.bool (decide ((k : Int) < (((s.qg[i]!).qB).length)))) ?_
  refine qx (t_n ?_)
  refine qW (decide ((k : Int) < (((s.qg[i]!).qB).length))) rfl (fun h132 => ?_) (fun h132 => ?_)
  ·skip
   replace h132 := of_decide_eq_true h132
   have qi := q.2.2.2.2.2.2.2.2.2.2 k (by omega)
   have qi1 := qi.1
   have bn4 := qi.2.2.1
   have ln4 := bn4.len
   refine xu (t_n (qm (xE (qm (qA ?_)))))
   refine sps [pp b26 (o27 + (i : Int).toNat * 9), pp b26 (o27 + (i : Int).toNat * 9)] ?_
   refine sw (qN b26 (o27 + (i : Int).toNat * 9) 7 Tryz.underlying110 rfl rfl Tryz.sizeOf108 rfl ?_)
   refine sw (qE (.slice ae29Into (((s.qg[i]!).qB).length) Xl) Tryz.isAgg108 rfl (H.zh 7 rfl 7 rfl) ?_)
   refine sp (.int .i64 k) ?_
   obtain ⟨b133, o134, rfl⟩ := H.addr 6 rfl (by omega)
   obtain ⟨ae136Bag, ce136Bag, Fe136Bag, H⟩ := H.jJ 6 rfl k k (by omega) (by omega) (by omega)
   refine sw (xJ k Tryz.underlying108 ti115 rfl rfl (by omega) (by omega) ?_)
   refine sw (qN b133 (o134 + (k : Int).toNat * 2) 0 Tryz.underlying115 rfl rfl Tryz.sizeOf2 rfl ?_)
   refine sw (qE (.int .i64 ((((s.qg[i]!).qB)[k]!).qy)) Tryz.isAgg2 rfl (H.zh 1 rfl 0 rfl) ?_)
   refine sp (.int .i64 ((((s.qg[i]!).qB)[k]!).qy)) ?_
   refine qx (t_n ?_)
   refine yS rfl H [0, 1, 2, 3, 5] fun H => ?_
   have S := H.yw [0, 1, 2, 3, 5] [0, 1, 2, 3, 4, 5, 6, 7, 8, 9, 10, 11, 12, 13, 14, 15, 16, 17, 18]
   refine rt 0 (pp b19 (0 + 1)) (xF b19 (0) 1 Tryz.underlying38 rfl rfl Tryz.sizeOf27 rfl) S ?_
   refine rt 1 (.slice (aa b35 0) ((zN s t counts (vN (yC s t counts) counts.length)).length) rc3a) (xw Tryz.isAgg27 rfl (fun _ h => h.cell 0 rfl rfl)) S ?_
   refine rtp 2 (.int .i64 ((((s.qg[i]!).qB)[k]!).qy)) S ?_
   refine rt 3 (pp b19 (0 + 1)) (xF b19 (0) 1 Tryz.underlying38 rfl rfl Tryz.sizeOf27 rfl) S ?_
   refine rt 4 (.slice (aa b35 0) ((zN s t counts (vN (yC s t counts) counts.length)).length) rc3a) (xw Tryz.isAgg27 rfl (fun _ h => h.cell 0 rfl rfl)) S ?_
   refine rtp 5 (.int .i64 ((((s.qg[i]!).qB)[k]!).qy)) S ?_
   refine rt 6 (pp b35 (0 + ((((s.qg[i]!).qB)[k]!).qy : Int).toNat * 1)) (xQ b35 (0) ((zN s t counts (vN (yC s t counts) counts.length)).length) rc3a ((((s.qg[i]!).qB)[k]!).qy) Tryz.underlying27 ti22 rfl rfl (by omega) (by omega)) S ?_
   refine rtp 8 (pp b26 (o27 + (i : Int).toNat * 9)) S ?_
   refine rtp 9 (pp b26 (o27 + (i : Int).toNat * 9)) S ?_
   refine rt 10 (pp b26 (o27 + (i : Int).toNat * 9 + 7)) (xF b26 (o27 + (i : Int).toNat * 9) 7 Tryz.underlying110 rfl rfl Tryz.sizeOf108 rfl) S ?_
   refine rt 11 (.slice (aa b133 o134) (((s.qg[i]!).qB).length) Xl) (xw Tryz.isAgg108 rfl (fun _ h => h.zh 9 rfl 7 rfl)) S ?_
   refine rtp 12 (.int .i64 k) S ?_
   refine rt 13 (pp b133 (o134 + (k : Int).toNat * 2)) (xQ b133 (o134) (((s.qg[i]!).qB).length) Xl k Tryz.underlying108 ti115 rfl rfl (by omega) (by omega)) S ?_
   refine rt 14 (pp b133 (o134 + (k : Int).toNat * 2 + 1)) (xF b133 (o134 + (k : Int).toNat * 2) 1 Tryz.underlying115 rfl rfl Tryz.sizeOf22 rfl) S ?_
   refine rt 15 (.slice ae136Bag (((((s.qg[i]!).qB)[k]!).vz).length) ce136Bag) (xw Tryz.isAgg22 rfl (fun _ h => h.zh 1 rfl 1 rfl)) S ?_
   refine rtp 16 (.slice (aa b30 o31) counts.length ccounts) S ?_
   refine rtp 17 (.int .i64 i) S ?_
   refine rt 18 (pp b30 (o31 + (i : Int).toNat * 1)) (xQ b30 (o31) counts.length ccounts i Tryz.underlying22 ti2 rfl rfl (by omega) (by omega)) S ?_
   refine rt 19 (.int .i64 (counts[i]!)) (xw Tryz.isAgg2 rfl (fun _ h => h.ja 18 rfl i (by omega) (by omega))) S ?_
   refine xn [7] (by kernel_rfl) (by simp) (xX rfl ?_ xq)
   obtain ⟨a138, c139, G140, s141, h142, H⟩ := H.jE 4 rfl 2 rfl (iv := (((s.qg[i]!).qB)[k]!).qy) (((((s.qg[i]!).qB)[k]!).qy).toNat) (by omega) (by omega)
   refine qE (.slice a138 ((out_Bags[((((s.qg[i]!).qB)[k]!).qy).toNat]!).length) c139) Tryz.isAgg22 rfl (h142) ?_
   refine ⟨H.pick [0, 1, 2, 3, 5] [1, 2, 3, 4, 5, 6, 7, 8, 9, 10, 11, 12, 13, 14, 15, 16, 17, 18, 19], ?_⟩
   refine xn [20] (by kernel_rfl) (by simp) (xX rfl ?_ xq)
   obtain ⟨u1, u2⟩ := Ent.rowL E_out_Bags (c := ((((s.qg[i]!).qB)[k]!).qy).toNat) (by omega) (by omega) (by omega) (by omega)
   have u4 := (by first | exact bn2.yj (by omega) | exact bn3.yj (by omega) | exact bn4.yj (by omega) : SmallT ((((s.qg[i]!).qB)[k]!).vz) (counts[i]!))
   have sz143 := H.base.size
   have lt144 := H.ltN (L := [jY, xP]) [11, 3]
   refine xe #[.slice a138 ((out_Bags[((((s.qg[i]!).qB)[k]!).qy).toNat]!).length) c139, .slice ae136Bag (((((s.qg[i]!).qB)[k]!).vz).length) ce136Bag, .int .i64 (counts[i]!)] rfl rfl Tryz.call88 (XB w131.drew (out_Bags[((((s.qg[i]!).qB)[k]!).qy).toNat]!) ((((s.qg[i]!).qB)[k]!).vz) (counts[i]!) a138 c139 G140 ae136Bag ce136Bag Fe136Bag (H.get 0 rfl).1 (H.get 1 rfl).1 (by first | assumption | omega) (by first | assumption | omega) (by first | assumption | omega)) ?_
   rintro v148 w146 r148 x147
   replace H := H.zf x147 r148
   obtain ⟨a149, c150, rfl, hc151, hm152⟩ := H.jd 0 rfl
   refine ⟨H.pick [1, 2, 3, 4, 6] [1, 2, 3, 4, 5, 6, 7, 8, 9, 10, 11, 12, 13, 14, 15, 16, 17, 18, 19], ?_⟩
   refine rt 21 (pp b35 (0 + ((((s.qg[i]!).qB)[k]!).qy : Int).toNat * 1)) (xQ b35 (0) ((zN s t counts (vN (yC s t counts) counts.length)).length) rc3a ((((s.qg[i]!).qB)[k]!).qy) Tryz.underlying27 ti22 rfl rfl (by omega) (by omega)) (H.pick [1, 2, 3, 4, 6] [1, 2, 3, 4, 5, 6, 7, 8, 9, 10, 11, 12, 13, 14, 15, 16, 17, 18, 19]) ?_
   refine xn [22] (by kernel_rfl) (by simp) (xX rfl ?_ xq)
   obtain ⟨G154, N, hn155, H⟩ := H.yH 0 rfl N (H.XR [11, 3])
   try dsimp only [List.set] at H
   refine jw true H 5 rfl 4 rfl (.slice a149 ((yl (out_Bags[((((s.qg[i]!).qB)[k]!).qy).toNat]!) ((((s.qg[i]!).qB)[k]!).vz) (counts[i]!)).length) c150) 0 rfl rfl Tryz.sizeOf22 rfl rfl (i := (((((s.qg[i]!).qB)[k]!).qy).toNat)) (by omega) (by omega) (by simp) fun w153 xs156 F157 hs158 H => ?_
   replace N : Fresh w.heap.size [F157, jY] := (N.pick [2, 0, 1]).repl hs158
   try dsimp only [List.set] at H
   refine ⟨H.pick [1, 2, 3, 4, 6] [3, 4, 5, 6, 7, 8, 9, 10, 11, 12, 13, 14, 15, 16, 17, 18, 19, 20, 21], ?_⟩
   refine xN (by kernel_rfl) (b_n (t_n ?_))
   refine qA ?_
   refine sp (.int .i64 k) ?_
   refine sw (vg k 1 rfl rfl (by omega) ?_)
   refine sp (.int .i64 (k + 1)) ?_
   refine qx ?_
   obtain ⟨bg159, e_bg159⟩ : ∃ z, z = (out_Bags.set (((((s.qg[i]!).qB)[k]!).qy).toNat) (yl (out_Bags[((((s.qg[i]!).qB)[k]!).qy).toNat]!) ((((s.qg[i]!).qB)[k]!).vz) (counts[i]!))) := ⟨_, rfl⟩
   rw [← e_bg159] at H
   have E_bg159 := Ent.addL (D := 1000000) E_out_Bags e_bg159 (by omega) (by omega) (by first | exact bn2.mul (by omega) | exact bn3.mul (by omega) | exact bn4.mul (by omega)) (by omega)
   have z_bg159 : bg159.length = s.qf.length := by rw [e_bg159, List.length_set]; omega
   have E_cur := E_bg159
   refine xH (m' := ((((s.qg[i]!).qB).length) - ((k + 1) : Int)).toNat) (by omega) ⟨_, k + 1, bg159, xs156, F157, (by exact qj (qj (qj (qj (qj (qj (qj (qj (rfl) rfl) rfl) rfl) rfl) rfl) rfl) rfl) rfl), ?_, ?_, ?_, rfl, (N.pick [1, 0]), H.pick [1, 2, 3, 4, 5, 6] [0, 6, 7, 8, 9, 10, 11, 12, 13, 14, 15, 16, 17, 18, 19, 20, 21]⟩
   · omega
   · exact E_cur.to (fun p q => by simp only [intoF]; omega) (by omega)
   · omega
  replace h132 := of_decide_eq_false h132
  refine zU (t_x (t_x (b_x (b_n (t_n (qA ?_))))))
  refine sp (.int .i64 i) ?_
  refine sw (vg i 1 rfl rfl (by omega) ?_)
  refine sp (.int .i64 (i + 1)) ?_
  refine qx ?_
  refine xH (m' := (counts.length - ((i + 1) : Int)).toNat) (by omega) ⟨_, i + 1, zY, zI, zW, out_Around, out_Bags, zt, xP, (by exact qj (qj (qj (qj (qj (qj (rfl) rfl) rfl) rfl) rfl) rfl) rfl), ?_, ?_, ?_, rfl, N, H.pick [0, 1, 2, 3, 4, 5] [8, 0, 9, 10, 11, 12, 13, 14, 15, 16]⟩
  · omega
  · first | exact E_rest.to (fun p q => by simp only [putS_skip (s := s) (t := t) (counts := counts) (i := i) ‹_›]) (by omega) | exact E_out_Bags.to (fun p q => by rw [show k = ((s.qg[i]!).qB).length by omega]; simp only [putS, putF]; omega) (by omega)
  · omega
 replace h25 := of_decide_eq_false h25
 refine zU (t_x (t_x (b_x (t_n (qm (qm (qA ?_)))))))
 refine sps [pp bs os, pp bs os] ?_
 refine sw (qN bs (os) 1 Tryz.underlying36 rfl rfl Tryz.sizeOf22 rfl ?_)
 refine sw (qE (.slice qw s.qf.length qp) Tryz.isAgg22 rfl (H.zh 2 rfl 1 rfl) ?_)
 refine sw (zZ Tryz.underlying22 qw s.qf.length qp rfl ?_)
 refine sw (o_sub s.qf.length 1 rfl rfl (by omega) ?_)
 refine sp (.int .i64 (s.qf.length - 1)) ?_
 refine qx (t_n (xE ?_))
 obtain rfl : i = s.qg.length := by omega
 have hl := stepped_live (counts := counts) p1 (E_rest.to (g := fun p k => base0 s t p k + allS s t counts s.qg.length p k) (fun p k => by rw [allS_eq]; omega) (Int.le_refl _)) (by omega)
 obtain ⟨s1, s2⟩ := step_tab2 (by omega) E_rest
 subst s1 s2
 refine zX (fun m' ρ w160 => ∃ (junk : Env) (c : Int) (out_Alive : List Bool) (out_Bags : List (List Int)) (zt : List Value) (xP : List Nat) (j : Nat), ρ = upd (upd (upd (upd (upd junk 0 (pp bs os)) 2 (.slice acounts counts.length ccounts)) 6 (pp b1 0)) 10 (pp b19 0)) 16 (.int .i64 c) ∧ out_Alive = (qZ s counts (stepped s t counts) j).qh ∧ out_Bags = (qZ s counts (stepped s t counts) j).qo ∧ (c = (s.qf.length : Int) - 1 - j) ∧ (j + 1 ≤ s.qf.length) ∧ m' = (c : Int).toNat ∧ Fresh w.heap.size [jY, xP] ∧ St w w160 [.box b19 [.slice jO t.qh.length jM, .slice ra3a ((zN s t counts (vN (yC s t counts) counts.length)).length) rc3a, .slice zY zI zW] 38, .row (.slice jO t.qh.length jM) 4 1 t.qh.length (out_Alive.map (Value.bool)), .row (.slice ra11Bags t.qo.length rc11Bags) 22 1 t.qo.length XU, .row (.slice zY zI zW) 2 1 zI (((stepped s t counts).ql).map (Value.int .i64)), .row (.slice ra3a ((zN s t counts (vN (yC s t counts) counts.length)).length) rc3a) 22 1 ((zN s t counts (vN (yC s t counts) counts.length)).length) zt, .box b1 [.slice none 0 0, .slice none 0 0, .slice none 0 0] 38] [jk true jY XU t.qo, jk true xP zt out_Bags, atF bs os [.int .i64 s.qH, .slice qw s.qf.length qp, .slice qG s.qg.length qC], isF false qP (.slice qw s.qf.length qp) s.qf, isF false xC (.slice qG s.qg.length qC) s.qg, isF false Fcounts (.slice acounts counts.length ccounts) counts]) (((s.qf.length - 1) : Int).toNat) ⟨_, s.qf.length - 1, t.qh, (stepped s t counts).qo, x_rest, F_rest, 0, (by exact qj (qj (qj (qj (qj (rfl) rfl) rfl) rfl) rfl) rfl), (by rfl), (by rfl), (by omega), (by omega), rfl, N, H.pick [0, 1, 2, 3, 4, 5] [0, 1, 2, 3, 4, 9]⟩ ?_
 clear H N
 rintro m' ρ w161 ⟨junk, c, out_Alive, out_Bags, zt, xP, j, rfl, rfl, rfl, ic, jc, rfl, N, H⟩
 have hn_out_Alive := H.QQ 1 rfl
 have XX := H.zu (α := List Int) 4 rfl 1 rfl (by decide)
 have L := meltDown_live (counts := counts) p0 hl j (by omega)
 have L1 := L.alive
 have L2 := L.root
 have L3 := L.bags.1
 rw [← Qo s counts (stepped s t counts) j] at H
 refine qm (qm (qA ?_))
 refine sps [.int .i64 c, .bool (decide ((c : Int) > 0))] ?_
 refine qx (t_n ?_)
 refine qW (decide ((c : Int) > 0)) rfl (fun h162 => ?_) (fun h162 => ?_)
 ·skip
  replace h162 := of_decide_eq_true h162
  have cin : CellIn s c := ⟨by omega, by omega⟩
  refine xu (t_n (qm (xE (qm (qA ?_)))))
  refine sp (.bool false) ?_
  refine qx (t_n (qm (qm (qA ?_))))
  refine sp (.int .i64 0) ?_
  refine qx (t_n (xE ?_))
  refine zX (fun m' ρ w163 => ∃ (junk : Env) (melts : Bool) (i_1 : Nat), ρ = upd (upd (upd (upd (upd (upd (upd junk 0 (pp bs os)) 2 (.slice acounts counts.length ccounts)) 6 (pp b1 0)) 10 (pp b19 0)) 16 (.int .i64 c)) 17 (.bool melts)) 18 (.int .i64 i_1) ∧ melts = dec (QK s counts c i_1) ∧ ((i_1 : Int) ≤ counts.length) ∧ m' = (counts.length - (i_1 : Int)).toNat ∧ Fresh w.heap.size [jY, xP] ∧ St w w163 [.box b19 [.slice jO t.qh.length jM, .slice ra3a ((zN s t counts (vN (yC s t counts) counts.length)).length) rc3a, .slice zY zI zW] 38, .row (.slice jO t.qh.length jM) 4 1 t.qh.length (((qZ s counts (stepped s t counts) j).qh).map (Value.bool)), .row (.slice ra11Bags t.qo.length rc11Bags) 22 1 t.qo.length XU, .row (.slice zY zI zW) 2 1 zI (((qZ s counts (stepped s t counts) j).ql).map (Value.int .i64)), .row (.slice ra3a ((zN s t counts (vN (yC s t counts) counts.length)).length) rc3a) 22 1 ((zN s t counts (vN (yC s t counts) counts.length)).length) zt, .box b1 [.slice none 0 0, .slice none 0 0, .slice none 0 0] 38] [jk true jY XU t.qo, jk true xP zt ((qZ s counts (stepped s t counts) j).qo), atF bs os [.int .i64 s.qH, .slice qw s.qf.length qp, .slice qG s.qg.length qC], isF false qP (.slice qw s.qf.length qp) s.qf, isF false xC (.slice qG s.qg.length qC) s.qg, isF false Fcounts (.slice acounts counts.length ccounts) counts]) ((counts.length - (0 : Int)).toNat) ⟨_, false, 0, (by exact qj (qj (qj (qj (qj (qj (qj (rfl) rfl) rfl) rfl) rfl) rfl) rfl) rfl), (by exact (xy (melts_zero _ _ _)).symm), (by omega), rfl, N, H⟩ ?_
  clear H N
  rintro m' ρ w164 ⟨junk, melts, i_1, rfl, rfl, i0, rfl, N, H⟩
  refine qm (qm (qA ?_))
  refine sps [.int .i64 i_1, .slice acounts counts.length ccounts] ?_
  refine sw (zZ Tryz.underlying22 acounts counts.length ccounts rfl ?_)
  refine sp (.bool (decide ((i_1 : Int) < counts.length))) ?_
  refine qx (t_n ?_)
  refine qW (decide ((i_1 : Int) < counts.length)) rfl (fun h165 => ?_) (fun h165 => ?_)
  ·skip
   replace h165 := of_decide_eq_true h165
   refine xu (t_n (qm (xE (qA ?_))))
   refine sps [.bool (dec (QK s counts c i_1)), .bool (dec (QK s counts c i_1))] ?_
   cases h166 : ((dec (QK s counts c i_1)))
   ·skip
    refine qR 172 rfl rfl ?_
    refine sp (.slice acounts counts.length ccounts) ?_
    refine qR 172 rfl rfl ?_
    refine sp (.int .i64 i_1) ?_
    refine qR 172 rfl rfl ?_
    obtain ⟨b167, o168, rfl⟩ := H.addr 5 rfl (by omega)
    refine sw (xJ i_1 Tryz.underlying22 ti2 rfl rfl (by omega) (by omega) ?_)
    refine qR 172 rfl rfl ?_
    refine sw (qE (.int .i64 (counts[i_1]!)) Tryz.isAgg2 rfl (H.ja 5 rfl i_1 (by omega) (by omega)) ?_)
    refine qR 172 rfl rfl ?_
    refine sp (.bool (decide ((counts[i_1]! : Int) > 0))) ?_
    refine qR 172 rfl rfl ?_
    refine sp (.bool (decide ((counts[i_1]! : Int) > 0))) ?_
    cases h170 : (decide ((counts[i_1]! : Int) > 0))
    ·skip
     replace h170 := of_decide_eq_false h170
     refine xY [179, 180, 181, 182, 183, 184, 185, 186] ?_
     refine qR 172 rfl rfl ?_
     refine sp (.bool false) ?_
     refine qR 172 rfl rfl ?_
     refine sp (.bool false) ?_
     refine xY [189, 190, 191, 192, 193, 194, 195, 196, 197, 198] ?_
     refine qR 172 rfl rfl ?_
     refine sps [.bool false, .bool false, .bool false] ?_
     refine qx (b_n (t_n (qA ?_)))
     refine sp (.int .i64 i_1) ?_
     refine sw (vg i_1 1 rfl rfl (by omega) ?_)
     refine sp (.int .i64 (i_1 + 1)) ?_
     refine qx ?_
     refine xH (m' := (counts.length - ((i_1 + 1) : Int)).toNat) (by omega) ⟨_, false, i_1 + 1, (by exact qj (qj (qj (qj (qj (qj (qj (rfl) rfl) rfl) rfl) rfl) rfl) rfl) rfl), ?_, ?_, rfl, N, H⟩
     · first | exact melts_1 ‹_› | exact melts_2 ‹_› (by omega) | exact melts_3 ‹_› ‹_› | exact melts_4 ‹_› (by omega) ‹_›
     · omega
    replace h170 := of_decide_eq_true h170
    refine qR 178 rfl rfl ?_
    refine sp (pp bs os) ?_
    refine qR 178 rfl rfl ?_
    refine sp (pp bs os) ?_
    refine qR 178 rfl rfl ?_
    refine sw (qN bs (os) 2 Tryz.underlying36 rfl rfl Tryz.sizeOf34 rfl ?_)
    refine qR 178 rfl rfl ?_
    refine sw (qE (.slice qG s.qg.length qC) Tryz.isAgg34 rfl (H.zh 2 rfl 2 rfl) ?_)
    refine qR 178 rfl rfl ?_
    refine sp (.int .i64 i_1) ?_
    refine qR 178 rfl rfl ?_
    obtain ⟨b171, o172, rfl⟩ := H.addr 4 rfl (by omega)
    obtain ⟨ae174Need, ce174Need, Fe174Need, ae174Have, ce174Have, Fe174Have, ae174Lack, ce174Lack, Fe174Lack, ae174Here, ce174Here, Fe174Here, ae174Out, ce174Out, Fe174Out, ae174Into, ce174Into, Fe174Into, H⟩ := H.yI 4 rfl i_1 i_1 (by omega) (by omega) (by omega)
    refine sw (xJ i_1 Tryz.underlying34 ti110 rfl rfl (by omega) (by omega) ?_)
    refine qR 178 rfl rfl ?_
    refine sw (qN b171 (o172 + (i_1 : Int).toNat * 9) 8 Tryz.underlying110 rfl rfl Tryz.sizeOf4 rfl ?_)
    refine qR 178 rfl rfl ?_
    refine sw (qE (.bool ((s.qg[i_1]!).xO)) Tryz.isAgg4 rfl (H.zh 6 rfl 8 rfl) ?_)
    refine qR 172 rfl rfl ?_
    refine sp (.bool ((s.qg[i_1]!).xO)) ?_
    refine qR 172 rfl rfl ?_
    refine sp (.bool ((s.qg[i_1]!).xO)) ?_
    cases h175 : ((s.qg[i_1]!).xO)
    ·skip
     rw [h175] at H
     refine xY [189, 190, 191, 192, 193, 194, 195, 196, 197, 198] ?_
     refine qR 172 rfl rfl ?_
     refine sps [.bool false, .bool false, .bool false] ?_
     refine qx (b_n (t_n (qA ?_)))
     refine sp (.int .i64 i_1) ?_
     refine sw (vg i_1 1 rfl rfl (by omega) ?_)
     refine sp (.int .i64 (i_1 + 1)) ?_
     refine qx ?_
     refine xH (m' := (counts.length - ((i_1 + 1) : Int)).toNat) (by omega) ⟨_, false, i_1 + 1, (by exact qj (qj (qj (qj (qj (qj (qj (rfl) rfl) rfl) rfl) rfl) rfl) rfl) rfl), ?_, ?_, rfl, N, H.pick [0, 1, 2, 3, 4, 5] [7, 8, 9, 10, 11, 12]⟩
     · first | exact melts_1 ‹_› | exact melts_2 ‹_› (by omega) | exact melts_3 ‹_› ‹_› | exact melts_4 ‹_› (by omega) ‹_›
     · omega
    rw [h175] at H
    refine qR 188 rfl rfl ?_
    refine sp (pp bs os) ?_
    refine qR 188 rfl rfl ?_
    refine sp (pp bs os) ?_
    refine qR 188 rfl rfl ?_
    refine sw (qN bs (os) 2 Tryz.underlying36 rfl rfl Tryz.sizeOf34 rfl ?_)
    refine qR 188 rfl rfl ?_
    refine sw (qE (.slice (aa b171 o172) s.qg.length qC) Tryz.isAgg34 rfl (H.zh 9 rfl 2 rfl) ?_)
    refine qR 188 rfl rfl ?_
    refine sp (.int .i64 i_1) ?_
    refine qR 188 rfl rfl ?_
    refine sw (xJ i_1 Tryz.underlying34 ti110 rfl rfl (by omega) (by omega) ?_)
    refine qR 188 rfl rfl ?_
    refine sw (qN b171 (o172 + (i_1 : Int).toNat * 9) 0 Tryz.underlying110 rfl rfl Tryz.sizeOf2 rfl ?_)
    refine qR 188 rfl rfl ?_
    refine sw (qE (.int .i64 ((s.qg[i_1]!).qy)) Tryz.isAgg2 rfl (H.zh 6 rfl 0 rfl) ?_)
    refine qR 188 rfl rfl ?_
    refine sp (.int .i64 c) ?_
    refine qR 188 rfl rfl ?_
    refine sp (.bool (((s.qg[i_1]!).qy : Int) == c)) ?_
    refine qR 172 rfl rfl ?_
    refine sps [.bool (((s.qg[i_1]!).qy : Int) == c), .bool (((s.qg[i_1]!).qy : Int) == c), .bool (((s.qg[i_1]!).qy : Int) == c)] ?_
    refine qx (b_n (t_n (qA ?_)))
    refine sp (.int .i64 i_1) ?_
    refine sw (vg i_1 1 rfl rfl (by omega) ?_)
    refine sp (.int .i64 (i_1 + 1)) ?_
    refine qx ?_
    refine xH (m' := (counts.length - ((i_1 + 1) : Int)).toNat) (by omega) ⟨_, ((s.qg[i_1]!).qy : Int) == c, i_1 + 1, (by exact qj (qj (qj (qj (qj (qj (qj (rfl) rfl) rfl) rfl) rfl) rfl) rfl) rfl), ?_, ?_, rfl, N, H.pick [0, 1, 2, 3, 4, 5] [7, 8, 9, 10, 11, 12]⟩
    · first | exact melts_1 ‹_› | exact melts_2 ‹_› (by omega) | exact melts_3 ‹_› ‹_› | exact melts_4 ‹_› (by omega) ‹_›
    · omega
   refine xY [173, 174, 175, 176, 177, 178, 179, 180, 181, 182, 183, 184, 185, 186, 187, 188, 189, 190, 191, 192, 193, 194, 195, 196, 197, 198, 199] ?_
   refine sps [.bool true, .bool true] ?_
   refine qx (b_n (t_n (qA ?_)))
   refine sp (.int .i64 i_1) ?_
   refine sw (vg i_1 1 rfl rfl (by omega) ?_)
   refine sp (.int .i64 (i_1 + 1)) ?_
   refine qx ?_
   refine xH (m' := (counts.length - ((i_1 + 1) : Int)).toNat) (by omega) ⟨_, true, i_1 + 1, (by exact qj (qj (qj (qj (qj (qj (qj (rfl) rfl) rfl) rfl) rfl) rfl) rfl) rfl), ?_, ?_, rfl, N, H⟩
   · first | exact melts_1 ‹_› | exact melts_2 ‹_› (by omega) | exact melts_3 ‹_› ‹_› | exact melts_4 ‹_› (by omega) ‹_›
   · omega
  replace h165 := of_decide_eq_false h165
  refine zU (t_x (t_x (b_x (t_n (qm (qA ?_))))))
  refine sp (.bool (dec (QK s counts c i_1))) ?_
  refine qx (t_n ?_)
  refine qW ((dec (QK s counts c i_1))) rfl (fun h176 => ?_) (fun h176 => ?_)
  ·skip
   refine qA ?_
   refine sps [pp bs os, .int .i64 c] ?_
   refine sw (Qs #[pp bs os, pp b19 0, .int .i64 c] rfl rfl Tryz.call108 ?_)
   refine enter (n := 49) Tryz.func108 rfl Tryz.ntmps108 (Nat.le_of_ble_eq_true rfl) ?_
   refine qm (qA ?_)
   refine sps [pp bs os, pp b19 0, .int .i64 c] ?_
   obtain ⟨G177, hn178, h179⟩ := H.rowIsB 1 rfl
   obtain ⟨G180, hn181, h182⟩ := H.rowIsR (α := List Int) 4 rfl 1 rfl (by decide)
   obtain ⟨G183, hn184, h185⟩ := H.Xd 3 rfl
   refine sw (xe #[pp bs os, pp b19 0, .int .i64 c] rfl rfl Tryz.call107 (l02Parent_ok w164 s (qZ s counts (stepped s t counts) j) c bs os qw qp qP qG qC xC b19 0 jO jM G177 ra3a rc3a G180 zY zW G183 (qI (H.get 2 rfl) 0 3) (H.get 3 rfl).1 (H.get 4 rfl).1 (by have hz := (qI (H.cells 0 rfl) 0 3); rw [hn178, hn181, hn184] at hz; exact hz) (hn178 ▸ h179) (hn181 ▸ h182) (hn184 ▸ h185) (by assumption) (by assumption) (by assumption)) ?_)
   rintro _ w186 rfl x187
   replace H := H.ext x187
   have pin := X5 (s := s) (t := (qZ s counts (stepped s t counts) j)) (c := c) p0.1 L2 (by omega) (by omega)
   refine sp (.int .i64 (xf s (qZ s counts (stepped s t counts) j) c)) ?_
   refine qx (t_n (qm ?_))
   obtain ⟨b188, rfl⟩ := H.rowAddr 4 rfl (by omega)
   refine c_cut (fun ρ w189 => ∃ (junk : Env) (xs190 : List Value) (F191 : List Nat), ρ = upd (upd (upd junk 0 (pp bs os)) 1 (pp b19 0)) 2 (.int .i64 c) ∧ Fresh w.heap.size [F191, jY] ∧ St w w189 [.box b19 [.slice jO t.qh.length jM, .slice (aa b188 0) ((zN s t counts (vN (yC s t counts) counts.length)).length) rc3a, .slice zY zI zW] 38, .row (.slice jO t.qh.length jM) 4 1 t.qh.length (((qZ s counts (stepped s t counts) j).qh).map (Value.bool)), .row (.slice ra11Bags t.qo.length rc11Bags) 22 1 t.qo.length XU, .row (.slice zY zI zW) 2 1 zI (((qZ s counts (stepped s t counts) j).ql).map (Value.int .i64)), .row (.slice (aa b188 0) ((zN s t counts (vN (yC s t counts) counts.length)).length) rc3a) 22 1 ((zN s t counts (vN (yC s t counts) counts.length)).length) xs190, .box b1 [.slice none 0 0, .slice none 0 0, .slice none 0 0] 38] [jk true F191 xs190 (((qZ s counts (stepped s t counts) j).qo).set ((xf s (qZ s counts (stepped s t counts) j) c).toNat) (yl (((qZ s counts (stepped s t counts) j).qo)[(xf s (qZ s counts (stepped s t counts) j) c).toNat]!) (((qZ s counts (stepped s t counts) j).qo)[c.toNat]!) 1)), jk true jY XU t.qo, atF bs os [.int .i64 s.qH, .slice qw s.qf.length qp, .slice qG s.qg.length qC], isF false qP (.slice qw s.qf.length qp) s.qf, isF false xC (.slice qG s.qg.length qC) s.qg, isF false Fcounts (.slice acounts counts.length ccounts) counts]) ?_ ?_
   ·skip
    refine yS rfl H [0, 1, 2, 3, 5] fun H => ?_
    have S := H.yw [0, 1, 2, 3, 5] [0, 1, 2, 3, 4, 5]
    refine rtp 0 (pp b19 0) S ?_
    refine rtp 1 (pp b19 0) S ?_
    refine rt 2 (pp b19 (0 + 1)) (xF b19 (0) 1 Tryz.underlying38 rfl rfl Tryz.sizeOf27 rfl) S ?_
    refine rt 3 (.slice (aa b188 0) ((zN s t counts (vN (yC s t counts) counts.length)).length) rc3a) (xw Tryz.isAgg27 rfl (fun _ h => h.cell 0 rfl rfl)) S ?_
    refine rtp 4 (.int .i64 (xf s (qZ s counts (stepped s t counts) j) c)) S ?_
    refine rtp 5 (pp b19 0) S ?_
    refine rtp 6 (pp b19 0) S ?_
    refine rt 7 (pp b19 (0 + 1)) (xF b19 (0) 1 Tryz.underlying38 rfl rfl Tryz.sizeOf27 rfl) S ?_
    refine rt 8 (.slice (aa b188 0) ((zN s t counts (vN (yC s t counts) counts.length)).length) rc3a) (xw Tryz.isAgg27 rfl (fun _ h => h.cell 0 rfl rfl)) S ?_
    refine rtp 9 (.int .i64 (xf s (qZ s counts (stepped s t counts) j) c)) S ?_
    refine rt 10 (pp b188 (0 + (xf s (qZ s counts (stepped s t counts) j) c : Int).toNat * 1)) (xQ b188 (0) ((zN s t counts (vN (yC s t counts) counts.length)).length) rc3a (xf s (qZ s counts (stepped s t counts) j) c) Tryz.underlying27 ti22 rfl rfl (by omega) (by omega)) S ?_
    refine rtp 12 (pp b19 0) S ?_
    refine rtp 13 (pp b19 0) S ?_
    refine rt 14 (pp b19 (0 + 1)) (xF b19 (0) 1 Tryz.underlying38 rfl rfl Tryz.sizeOf27 rfl) S ?_
    refine rt 15 (.slice (aa b188 0) ((zN s t counts (vN (yC s t counts) counts.length)).length) rc3a) (xw Tryz.isAgg27 rfl (fun _ h => h.cell 0 rfl rfl)) S ?_
    refine rtp 16 (.int .i64 c) S ?_
    refine rt 17 (pp b188 (0 + (c : Int).toNat * 1)) (xQ b188 (0) ((zN s t counts (vN (yC s t counts) counts.length)).length) rc3a c Tryz.underlying27 ti22 rfl rfl (by omega) (by omega)) S ?_
    refine xn [11, 18] (by kernel_rfl) (by simp) (xX rfl ?_ (xX rfl ?_ xq))
    ·skip
     obtain ⟨a193, c194, G195, s196, h197, H⟩ := H.jE 4 rfl 1 rfl (iv := xf s (qZ s counts (stepped s t counts) j) c) ((xf s (qZ s counts (stepped s t counts) j) c).toNat) (by omega) (by omega)
     refine qE (.slice a193 ((((qZ s counts (stepped s t counts) j).qo)[(xf s (qZ s counts (stepped s t counts) j) c).toNat]!).length) c194) Tryz.isAgg22 rfl (h197) ?_
     refine ⟨H.pick [0, 1, 2, 3, 5] [1, 2, 3, 4, 5, 6], ?_⟩
     refine xn [18] (by kernel_rfl) (by simp) (xX rfl ?_ xq)
     obtain ⟨a198, c199, G200, s201, h202, H⟩ := H.jE 4 rfl 2 rfl (iv := c) c.toNat (by omega) (by omega)
     refine qE (.slice a198 ((((qZ s counts (stepped s t counts) j).qo)[c.toNat]!).length) c199) Tryz.isAgg22 rfl (h202) ?_
     refine ⟨H.pick [0, 1, 2, 3, 5] [2, 3, 4, 5, 6, 7], ?_⟩
     refine xn [19] (by kernel_rfl) (by simp) (xX rfl ?_ xq)
     obtain ⟨u1, u2, u4⟩ := L.rows p0 (bnd_le (by omega)) (p := (xf s (qZ s counts (stepped s t counts) j) c).toNat) (c := c.toNat) (by omega) (by omega)
     have sz203 := H.base.size
     have lt204 := H.ltN (L := [jY, xP]) [2, 3]
     refine xe #[.slice a193 ((((qZ s counts (stepped s t counts) j).qo)[(xf s (qZ s counts (stepped s t counts) j) c).toNat]!).length) c194, .slice a198 ((((qZ s counts (stepped s t counts) j).qo)[c.toNat]!).length) c199, .int .i64 1] rfl rfl Tryz.call88 (XB w186.drew (((qZ s counts (stepped s t counts) j).qo)[(xf s (qZ s counts (stepped s t counts) j) c).toNat]!) (((qZ s counts (stepped s t counts) j).qo)[c.toNat]!) 1 a193 c194 G195 a198 c199 G200 (H.get 1 rfl).1 (H.get 0 rfl).1 (by first | assumption | omega) (by first | assumption | omega) (by first | assumption | omega)) ?_
     rintro v208 w206 r208 x207
     replace H := H.zf x207 r208
     obtain ⟨a209, c210, rfl, hc211, hm212⟩ := H.jd 0 rfl
     refine ⟨H.pick [1, 2, 3, 4, 6] [2, 3, 4, 5, 6, 7], ?_⟩
     refine rt 20 (pp b188 (0 + (xf s (qZ s counts (stepped s t counts) j) c : Int).toNat * 1)) (xQ b188 (0) ((zN s t counts (vN (yC s t counts) counts.length)).length) rc3a (xf s (qZ s counts (stepped s t counts) j) c) Tryz.underlying27 ti22 rfl rfl (by omega) (by omega)) (H.pick [1, 2, 3, 4, 6] [2, 3, 4, 5, 6, 7]) ?_
     refine xn [21] (by kernel_rfl) (by simp) (xX rfl ?_ xq)
     obtain ⟨G214, N, hn215, H⟩ := H.yH 0 rfl N (H.XR [2, 3])
     try dsimp only [List.set] at H
     refine jw true H 5 rfl 4 rfl (.slice a209 ((yl (((qZ s counts (stepped s t counts) j).qo)[(xf s (qZ s counts (stepped s t counts) j) c).toNat]!) (((qZ s counts (stepped s t counts) j).qo)[c.toNat]!) 1).length) c210) 0 rfl rfl Tryz.sizeOf22 rfl rfl (i := ((xf s (qZ s counts (stepped s t counts) j) c).toNat)) (by omega) (by omega) (by simp) fun w213 xs216 F217 hs218 H => ?_
     replace N : Fresh w.heap.size [F217, jY] := (N.pick [2, 0, 1]).repl hs218
     try dsimp only [List.set] at H
     refine ⟨H.pick [1, 2, 3, 4, 6] [4, 5, 6, 7, 8, 9], ?_⟩
     refine xN (by kernel_rfl) (?_)
     exact meet ⟨_, xs216, F217, (by exact qj (qj (qj (rfl) rfl) rfl) rfl), N, H.pick [1, 2, 3, 4, 5, 6] [0, 4, 6, 7, 8, 9]⟩
    obtain ⟨a219, c220, G221, s222, h223, H⟩ := H.jE 4 rfl 1 rfl (iv := c) c.toNat (by omega) (by omega)
    refine qE (.slice a219 ((((qZ s counts (stepped s t counts) j).qo)[c.toNat]!).length) c220) Tryz.isAgg22 rfl (h223) ?_
    refine ⟨H.pick [0, 1, 2, 3, 5] [1, 2, 3, 4, 5, 6], ?_⟩
    refine xn [11] (by kernel_rfl) (by simp) (xX rfl ?_ xq)
    obtain ⟨a224, c225, G226, s227, h228, H⟩ := H.jE 4 rfl 2 rfl (iv := xf s (qZ s counts (stepped s t counts) j) c) ((xf s (qZ s counts (stepped s t counts) j) c).toNat) (by omega) (by omega)
    refine qE (.slice a224 ((((qZ s counts (stepped s t counts) j).qo)[(xf s (qZ s counts (stepped s t counts) j) c).toNat]!).length) c225) Tryz.isAgg22 rfl (h228) ?_
    refine ⟨H.pick [0, 1, 2, 3, 5] [2, 3, 4, 5, 6, 7], ?_⟩
    refine xn [19] (by kernel_rfl) (by simp) (xX rfl ?_ xq)
    obtain ⟨u1, u2, u4⟩ := L.rows p0 (bnd_le (by omega)) (p := (xf s (qZ s counts (stepped s t counts) j) c).toNat) (c := c.toNat) (by omega) (by omega)
    have sz229 := H.base.size
    have lt230 := H.ltN (L := [jY, xP]) [2, 3]
    refine xe #[.slice a224 ((((qZ s counts (stepped s t counts) j).qo)[(xf s (qZ s counts (stepped s t counts) j) c).toNat]!).length) c225, .slice a219 ((((qZ s counts (stepped s t counts) j).qo)[c.toNat]!).length) c220, .int .i64 1] rfl rfl Tryz.call88 (XB w186.drew (((qZ s counts (stepped s t counts) j).qo)[(xf s (qZ s counts (stepped s t counts) j) c).toNat]!) (((qZ s counts (stepped s t counts) j).qo)[c.toNat]!) 1 a224 c225 G226 a219 c220 G221 (H.get 0 rfl).1 (H.get 1 rfl).1 (by first | assumption | omega) (by first | assumption | omega) (by first | assumption | omega)) ?_
    rintro v234 w232 r234 x233
    replace H := H.zf x233 r234
    obtain ⟨a235, c236, rfl, hc237, hm238⟩ := H.jd 0 rfl
    refine ⟨H.pick [1, 2, 3, 4, 6] [2, 3, 4, 5, 6, 7], ?_⟩
    refine rt 20 (pp b188 (0 + (xf s (qZ s counts (stepped s t counts) j) c : Int).toNat * 1)) (xQ b188 (0) ((zN s t counts (vN (yC s t counts) counts.length)).length) rc3a (xf s (qZ s counts (stepped s t counts) j) c) Tryz.underlying27 ti22 rfl rfl (by omega) (by omega)) (H.pick [1, 2, 3, 4, 6] [2, 3, 4, 5, 6, 7]) ?_
    refine xn [21] (by kernel_rfl) (by simp) (xX rfl ?_ xq)
    obtain ⟨G240, N, hn241, H⟩ := H.yH 0 rfl N (H.XR [2, 3])
    try dsimp only [List.set] at H
    refine jw true H 5 rfl 4 rfl (.slice a235 ((yl (((qZ s counts (stepped s t counts) j).qo)[(xf s (qZ s counts (stepped s t counts) j) c).toNat]!) (((qZ s counts (stepped s t counts) j).qo)[c.toNat]!) 1).length) c236) 0 rfl rfl Tryz.sizeOf22 rfl rfl (i := ((xf s (qZ s counts (stepped s t counts) j) c).toNat)) (by omega) (by omega) (by simp) fun w239 xs242 F243 hs244 H => ?_
    replace N : Fresh w.heap.size [F243, jY] := (N.pick [2, 0, 1]).repl hs244
    try dsimp only [List.set] at H
    refine ⟨H.pick [1, 2, 3, 4, 6] [4, 5, 6, 7, 8, 9], ?_⟩
    refine xN (by kernel_rfl) (?_)
    exact meet ⟨_, xs242, F243, (by exact qj (qj (qj (rfl) rfl) rfl) rfl), N, H.pick [1, 2, 3, 4, 5, 6] [0, 4, 6, 7, 8, 9]⟩
   clear H N
   rintro ρ w245 ⟨junk, xs190, F191, rfl, N, H⟩
   refine t_n (qm ?_)
   refine yS rfl H [0, 1, 2, 3, 5] fun H => ?_
   have S := H.yw [0, 1, 2, 3, 5] [0, 1, 2, 3, 4, 5]
   refine rtp 0 (pp b19 0) S ?_
   refine rtp 1 (pp b19 0) S ?_
   refine rt 2 (pp b19 (0 + 1)) (xF b19 (0) 1 Tryz.underlying38 rfl rfl Tryz.sizeOf27 rfl) S ?_
   refine rt 3 (.slice (aa b188 0) ((zN s t counts (vN (yC s t counts) counts.length)).length) rc3a) (xw Tryz.isAgg27 rfl (fun _ h => h.cell 0 rfl rfl)) S ?_
   refine rtp 4 (.int .i64 c) S ?_
   refine rtp 5 (pp bs os) S ?_
   refine rtp 6 (pp bs os) S ?_
   refine rt 7 (pp bs (os + 0)) (xF bs (os) 0 Tryz.underlying36 rfl rfl Tryz.sizeOf2 rfl) S ?_
   refine rt 8 (.int .i64 s.qH) (xw Tryz.isAgg2 rfl (fun _ h => h.zh 2 rfl 0 rfl)) S ?_
   refine xn [9] (by kernel_rfl) (by simp) (xX rfl ?_ xq)
   refine o_makeI H Tryz.underlying22 ti2 s.qH.toNat rfl rfl (by omega) (by omega) (by omega) fun b247 w248 H => ?_
   refine ⟨H.pick [1, 2, 3, 4, 6] [0, 1, 2, 3, 4, 5], ?_⟩
   refine rt 10 (pp b188 (0 + (c : Int).toNat * 1)) (xQ b188 (0) ((zN s t counts (vN (yC s t counts) counts.length)).length) rc3a c Tryz.underlying27 ti22 rfl rfl (by omega) (by omega)) (H.pick [1, 2, 3, 4, 6] [0, 1, 2, 3, 4, 5]) ?_
   refine xn [11] (by kernel_rfl) (by simp) (xX rfl ?_ xq)
   obtain ⟨G250, N, hn251, H⟩ := H.yH 0 rfl N (H.XR [0, 1])
   try dsimp only [List.set] at H
   refine jw true H 5 rfl 1 rfl (.slice (aa b247 0) s.qH.toNat s.qH.toNat) 0 rfl rfl Tryz.sizeOf22 rfl rfl (i := c.toNat) (by omega) (by omega) (by simp) fun w249 xs252 F253 hs254 H => ?_
   replace N : Fresh w.heap.size [F253, jY] := (N.pick [1, 0, 2]).repl hs254
   try dsimp only [List.set] at H
   refine ⟨H.pick [1, 2, 3, 4, 6] [2, 3, 4, 5, 6, 7], ?_⟩
   refine xN (by kernel_rfl) (t_n ?_)
   refine qA ?_
   refine sps [pp b19 0, pp b19 0] ?_
   refine sw (qN b19 (0) 0 Tryz.underlying38 rfl rfl Tryz.sizeOf26 rfl ?_)
   refine sw (qE (.slice jO t.qh.length jM) Tryz.isAgg26 rfl (H.cell 1 rfl rfl) ?_)
   refine sp (.int .i64 c) ?_
   obtain ⟨b255, rfl⟩ := H.rowAddr 2 rfl (by omega)
   refine sw (xJ c Tryz.underlying26 ti4 rfl rfl (by omega) (by omega) ?_)
   refine sw (QH H 2 rfl false Tryz.sizeOf4 rfl rfl (i := c.toNat) (by omega) (by omega) fun w256 H => ?_)
   try dsimp only [List.set] at H
   refine qx ?_
   refine ret0 rfl ⟨_, rfl, ?_⟩
   replace H := H.erases [0]
   dsimp only [yJ, List.eraseIdx] at H
   refine qx (b_n (t_n (qA ?_)))
   refine sp (.int .i64 c) ?_
   refine sw (o_sub c 1 rfl rfl (by omega) ?_)
   refine sp (.int .i64 (c - 1)) ?_
   refine qx ?_
   rw [Qo] at H
   refine xH (m' := ((c - 1) : Int).toNat) (by omega) ⟨_, c - 1, (((qZ s counts (stepped s t counts) j).qh).set c.toNat false), ((((qZ s counts (stepped s t counts) j).qo).set ((xf s (qZ s counts (stepped s t counts) j) c).toNat) (yl (((qZ s counts (stepped s t counts) j).qo)[(xf s (qZ s counts (stepped s t counts) j) c).toNat]!) (((qZ s counts (stepped s t counts) j).qo)[c.toNat]!) 1)).set c.toNat (List.replicate s.qH.toNat (0 : Int))), xs252, F253, j + 1, (by exact qj (qj (qj (qj (qj (rfl) rfl) rfl) rfl) rfl) rfl), ?_, ?_, ?_, ?_, rfl, (N.pick [1, 0]), H.pick [0, 1, 2, 3, 4, 5] [3, 0, 4, 5, 6, 7]⟩
   · first | (rw [QA (c := c) (i := i_1) ‹_› (by omega) ic]; done) | (rw [QA (c := c) (i := i_1) ‹_› (by omega) ic]; rfl) | rw [meltDown_no' (c := c) (i := i_1) ‹_› (by omega) ic]
   · first | (rw [QA (c := c) (i := i_1) ‹_› (by omega) ic]; done) | (rw [QA (c := c) (i := i_1) ‹_› (by omega) ic]; rfl) | rw [meltDown_no' (c := c) (i := i_1) ‹_› (by omega) ic]
   · omega
   · omega
  refine xu (b_n (t_n (qA ?_)))
  refine sp (.int .i64 c) ?_
  refine sw (o_sub c 1 rfl rfl (by omega) ?_)
  refine sp (.int .i64 (c - 1)) ?_
  refine qx ?_
  rw [Qo] at H
  refine xH (m' := ((c - 1) : Int).toNat) (by omega) ⟨_, c - 1, ((qZ s counts (stepped s t counts) j).qh), ((qZ s counts (stepped s t counts) j).qo), zt, xP, j + 1, (by exact qj (qj (qj (qj (qj (rfl) rfl) rfl) rfl) rfl) rfl), ?_, ?_, ?_, ?_, rfl, N, H⟩
  · first | (rw [QA (c := c) (i := i_1) ‹_› (by omega) ic]; done) | (rw [QA (c := c) (i := i_1) ‹_› (by omega) ic]; rfl) | rw [meltDown_no' (c := c) (i := i_1) ‹_› (by omega) ic]
  · first | (rw [QA (c := c) (i := i_1) ‹_› (by omega) ic]; done) | (rw [QA (c := c) (i := i_1) ‹_› (by omega) ic]; rfl) | rw [meltDown_no' (c := c) (i := i_1) ‹_› (by omega) ic]
  · omega
  · omega
 replace h162 := of_decide_eq_false h162
 refine zU (t_x (t_x (b_x (t_n (qm (qA ?_))))))
 refine sp (pp bs os) ?_
 refine sw (Qs #[pp bs os, pp b19 0] rfl rfl Tryz.call109 ?_)
 refine enter (n := 14) Tryz.func109 rfl Tryz.ntmps109 (Nat.le_of_ble_eq_true rfl) ?_
 refine qm (qA ?_)
 refine sw (zn H ti38 [.slice none 0 0, .slice none 0 0, .slice none 0 0] fun b257 w258 H => ?_)
 refine sp (.int .i64 0) ?_
 refine qx (t_n (qm (qm (qA ?_))))
 refine sps [pp bs os, pp b19 0] ?_
 obtain ⟨G259, hn260, h261⟩ := H.rowIsB 2 rfl
 obtain ⟨G262, hn263, h264⟩ := H.rowIsR (α := List Int) 5 rfl 1 rfl (by decide)
 obtain ⟨G265, hn266, h267⟩ := H.Xd 4 rfl
 refine sw (xe #[pp bs os, pp b19 0] rfl rfl Tryz.call85 (l02State_ok w258 s (qZ s counts (stepped s t counts) j) bs os qw qp qP qG qC xC b19 0 jO jM G259 ra3a rc3a G262 zY zW G265 (qI (H.get 2 rfl) 0 3) (H.get 3 rfl).1 (H.get 4 rfl).1 (by have hz := (qI (H.cells 1 rfl) 0 3); rw [hn260, hn263, hn266] at hz; exact hz) (hn260 ▸ h261) (hn263 ▸ h264) (hn266 ▸ h267) (by first | assumption | exact (And.left (by assumption : Qz _)))) ?_)
 rintro _ w268 rfl x269
 replace H := H.ext x269
 refine sp (.bool (!(dec (ve s (qZ s counts (stepped s t counts) j))))) ?_
 refine qx (t_n ?_)
 refine qW (!(dec (ve s (qZ s counts (stepped s t counts) j)))) rfl (fun h270 => ?_) (fun h270 => ?_)
 ·skip
  replace h270 := xg h270
  replace h270 := zi h270
  refine qm (qA ?_)
  refine sw (jH [.slice none 0 0, .slice none 0 0, .slice none 0 0] [] ?_)
  refine sw (xU H 0 [.slice none 0 0, .slice none 0 0, .slice none 0 0] Tryz.sizeOf38 fun w271 H => ?_)
  try dsimp only [List.set] at H
  refine sp (.int .i64 3) ?_
  refine qx (t_n (xB (t_r ?_)))
  refine retC2 H 0 rfl (.int .i64 3) rfl Tryz.isAgg38 Tryz.sizeOf38 rfl rfl ⟨_, rfl, ?_⟩
  replace H := H.erases [0]
  dsimp only [yJ, List.eraseIdx] at H
  refine sps [.agg #[.slice none 0 0, .slice none 0 0, .slice none 0 0], .int .i64 3] ?_
  refine sw (xU H 5 [.slice none 0 0, .slice none 0 0, .slice none 0 0] Tryz.sizeOf38 fun w272 H => ?_)
  try dsimp only [List.set] at H
  refine sp (.int .i64 3) ?_
  refine qx (t_n (xB ?_))
  replace H := H.nilRowB 4
  replace H := H.nilRow 22 1
  replace H := H.Xo (α := List Int)
  replace H := H.nilRowI 2
  refine retC2 H 8 rfl (.int .i64 3) rfl Tryz.isAgg38 Tryz.sizeOf38 rfl rfl ⟨_, rfl, ?_, H.base⟩
  rw [stepBy_yes ‹_›, stepRes, show ji s - 1 = j by omega, told_no ‹_›]
  exact ⟨none, 0, 0, none, 0, 0, [], [], none, 0, 0, rfl, (N.emp.pick [0]), H.pick [2, 1, 0] [0]⟩
 replace h270 := qX h270
 replace h270 := jI h270
 refine xu (t_n (qm (qA ?_)))
 refine sps [pp b19 0, pp b19 0] ?_
 refine sw (zl [.slice jO t.qh.length jM, .slice ra3a ((zN s t counts (vN (yC s t counts) counts.length)).length) rc3a, .slice zY zI zW] Tryz.isAgg38 Tryz.sizeOf38 rfl (qI (H.cells 1 rfl) 0 3) ?_)
 refine sw (xU H 0 [.slice jO t.qh.length jM, .slice ra3a ((zN s t counts (vN (yC s t counts) counts.length)).length) rc3a, .slice zY zI zW] Tryz.sizeOf38 fun w273 H => ?_)
 try dsimp only [List.set] at H
 refine sp (.int .i64 0) ?_
 refine qx (t_n (xB ?_))
 refine retC2 H 0 rfl (.int .i64 0) rfl Tryz.isAgg38 Tryz.sizeOf38 rfl rfl ⟨_, rfl, ?_⟩
 replace H := H.erases [0]
 dsimp only [yJ, List.eraseIdx] at H
 refine sps [.agg #[.slice jO t.qh.length jM, .slice ra3a ((zN s t counts (vN (yC s t counts) counts.length)).length) rc3a, .slice zY zI zW], .int .i64 0] ?_
 refine sw (xU H 5 [.slice jO t.qh.length jM, .slice ra3a ((zN s t counts (vN (yC s t counts) counts.length)).length) rc3a, .slice zY zI zW] Tryz.sizeOf38 fun w274 H => ?_)
 try dsimp only [List.set] at H
 refine sp (.int .i64 0) ?_
 refine qx (t_n (xB ?_))
 refine retC2 H 5 rfl (.int .i64 0) rfl Tryz.isAgg38 Tryz.sizeOf38 rfl rfl ⟨_, rfl, ?_, H.base⟩
 rw [stepBy_yes ‹_›, stepRes, show ji s - 1 = j by omega, told_yes ‹_›]
 exact ⟨jO, t.qh.length, jM, ra3a, (zN s t counts (vN (yC s t counts) counts.length)).length, rc3a, zt, xP, zY, zI, zW, rfl, (N.pick [1]), H.pick [1, 4, 3] [1]⟩

end Go.Proofs.YtkmlihdacnfhdaaGreat
