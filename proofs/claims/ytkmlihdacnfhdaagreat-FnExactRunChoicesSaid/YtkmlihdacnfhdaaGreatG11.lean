/- Walks, printed by program (wip/tools/gv.py): what each function comes to, for all arguments. -/
import Derived.Test.YtkmlihdacnfhdaaGreatG10
namespace Go.Proofs.YtkmlihdacnfhdaaGreat
open Go.Proofs.YtkmlihdacnfhdaaGreat.Tot (tot)
open Go.Proofs.YtkmlihdacnfhdaaGreat.Mark (cnt mrk mkd mkd_mark cnt_mark)
open Go.RowKit
set_option linter.unusedVariables false
set_option linter.unusedSimpArgs false
set_option maxRecDepth 100000
set_option maxHeartbeats 4000000



theorem l03Step_ok (w : World) (s : qX) (t : qU) (counts : List Int) (bs os : Nat) (qw : Option Addr) (qo : Nat) (qO : List Nat) (qF : Option Addr) (qB : Nat) (xw : List Nat) (bt ot : Nat) (qM : Option Addr) (qI : Nat) (xJ : List Nat) (xF : Option Addr) (xn : Nat) (zq : List Nat) (qL : Option Addr) (qK : Nat) (xI : List Nat) (acounts : Option Addr) (ccounts : Nat) (Fcounts : List Nat) (hs : jb w bs os [.int .i64 s.qJ, .slice qw s.qf.length qo, .slice qF s.qg.length qB]) (xx : qV.rep w qO [.slice qw s.qf.length qo] s.qf) (xM : qV.rep w xw [.slice qF s.qg.length qB] s.qg) (ht : jb w bt ot [.slice qM t.qh.length qI, .slice xF t.qp.length xn, .slice qL t.ql.length qK]) (zo : qV.rep w xJ [.slice qM t.qh.length qI] t.qh) (zY : qV.rep w zq [.slice xF t.qp.length xn] t.qp) (xW : qV.rep w xI [.slice qL t.ql.length qK] t.ql) (hcounts : qV.rep w Fcounts [.slice acounts counts.length ccounts] counts) (p0 : yI s) (p1 : zu s t) (p2 : CntOk s counts) : Calls Tryz.prog 61 #[pp bs os, pp bt ot, .slice acounts counts.length ccounts] w (Ret (fun v w' => ∃ (ra0Alive : Option Addr) (Xm : Nat) (rc0Alive : Nat) (ra0Bags : Option Addr) (Vm : Nat) (rc0Bags : Nat) (rx0Bags : List Value) (rF0Bags : List Nat) (XG : Option Addr) (QL : Nat) (XF : Nat), v = .tuple #[.agg #[.slice ra0Alive Xm rc0Alive, .slice ra0Bags Vm rc0Bags, .slice XG QL XF], .int .i64 ((ve s t counts).2)] ∧ Fresh w.heap.size [rF0Bags] ∧ St w w' [.row (.slice ra0Alive Xm rc0Alive) 4 1 Xm ((((ve s t counts).1).qh).map (Value.bool)), .row (.slice ra0Bags Vm rc0Bags) 22 1 Vm rx0Bags, .row (.slice XG QL XF) 2 1 QL ((((ve s t counts).1).ql).map (Value.int .i64))] [vX true rF0Bags rx0Bags (((ve s t counts).1).qp)]) w) := by
 refine enter (n := 209) Tryz.func61 rfl Tryz.ntmps61 (Nat.le_of_ble_eq_true rfl) ?_
 have H := ((((((((St.start w).arg hcounts).arg xW).arg zY).arg zo).argAt ht).arg xM).arg xx).argAt hs
 have vU := qN xx
 have jW := qN xM
 have QB := qN zo
 have Xn := qN zY
 have yT := qN xW
 have nhcounts := qN hcounts
 clear hs xx xM ht zo zY xW hcounts
 have N := Fresh.nil w.heap.size
 have p3 := p0.2.1
 have p6 := p2.1
 have p7 := p1.2.1
 have p8 := kinds_le p0
 have p9 := p0.1.2.1
 have p11 : jr s = s.qf.length := rfl
 have p12 := p1.1
 have p15 := p0.1
 have p16 := p0.1.1
 obtain ⟨q7, q8, q9, q10⟩ := p1.sizes p0.1
 have q13 := fun k hk => Nat.le_trans (q10 k hk) (by decide : 8 ≤ 1000000)
 have p14 := restR_len (s := s) (t := t) (counts := counts)
 refine qm (qA ?_)
 refine sw (zn H ti38 [.slice none 0 0, .slice none 0 0, .slice none 0 0] fun b1 w2 H => ?_)
 refine sp (.int .i64 0) ?_
 refine qx (t_n (qm (qA ?_)))
 refine sps [pp bs os, pp bt ot, .slice acounts counts.length ccounts] ?_
 have sz6 := H.base.size
 refine sw (qZ #[pp bs os, pp bt ot, .slice acounts counts.length ccounts] rfl rfl Tryz.call106 (l03Rest_ok w2 s t counts bs os qw qo qO qF qB xw bt ot qM qI xJ xF xn zq qL qK xI acounts ccounts Fcounts (qH (H.get 0 rfl) 0 3) (H.get 1 rfl).1 (H.get 2 rfl).1 (qH (H.get 3 rfl) 0 3) (H.get 4 rfl).1 (H.get 5 rfl).1 (H.get 6 rfl).1 (H.get 7 rfl).1 (by first | assumption | omega) (by first | assumption | omega) (by first | assumption | omega)) ?_)
 rintro _ w4 ⟨ra3a, rn3a, rc3a, rx3a, rF3a, rfl, M, K⟩ _
 replace N := N.merge sz6 (by simp) M
 replace H := H.merge K M
 dsimp only [List.cons_append, List.nil_append] at H
 obtain rfl := H.zt (α := List Int) 0 rfl 0 rfl (by decide)
 refine sps [.tuple #[.slice ra3a ((zi s t counts (vV (yJ s t counts) counts.length)).length) rc3a, .bool (dec (IsCh s t counts))], .slice ra3a ((zi s t counts (vV (yJ s t counts) counts.length)).length) rc3a, .bool (dec (IsCh s t counts)), .slice ra3a ((zi s t counts (vV (yJ s t counts) counts.length)).length) rc3a, .bool (dec (IsCh s t counts))] ?_
 refine qx (t_n (qm (qm (qA ?_))))
 refine sps [.bool (dec (IsCh s t counts)), .bool (!(dec (IsCh s t counts)))] ?_
 refine qx (t_n ?_)
 refine qW (!(dec (IsCh s t counts))) rfl (fun h9 => ?_) (fun h9 => ?_)
 ·skip
  replace h9 := xg h9
  replace h9 := xX h9
  refine qm (qA ?_)
  refine sw (jo [.slice none 0 0, .slice none 0 0, .slice none 0 0] [] ?_)
  refine sw (xP H 1 [.slice none 0 0, .slice none 0 0, .slice none 0 0] Tryz.sizeOf38 fun w10 H => ?_)
  try dsimp only [List.set] at H
  refine sp (.int .i64 4) ?_
  refine qx (t_n (xC (t_r ?_)))
  replace H := H.Va 4
  replace H := H.nilRow 22 1
  replace H := H.Qw (α := List Int)
  replace H := H.Vo 2
  refine retC2 H 4 rfl (.int .i64 4) rfl Tryz.isAgg38 Tryz.sizeOf38 rfl rfl ⟨_, rfl, ?_, H.base⟩
  rw [stepBy_no ‹_›]
  exact ⟨none, 0, 0, none, 0, 0, [], [], none, 0, 0, rfl, (N.emp.pick [0]), H.pick [2, 1, 0] [0]⟩
 replace h9 := qY h9
 replace h9 := jG h9
 have st := stop_none (n := counts.length) (P := yJ s t counts) (‹IsCh s t counts›).1
 have r1 := restR_len (s := s) (t := t) (counts := counts) (vV (yJ s t counts) counts.length)
 refine xk (t_n (qm (qA ?_)))
 refine sp (pp bt ot) ?_
 have sz14 := H.base.size
 have lt15 := H.ltN (L := [rF3a]) [0]
 refine sw (qZ #[pp bt ot] rfl rfl Tryz.call73 (l02Own_ok w4 t bt ot qM qI xJ xF xn zq qL qK xI (qH (H.get 4 rfl) 0 3) (H.get 5 rfl).1 (H.get 6 rfl).1 (H.get 7 rfl).1 (by first | assumption | omega) (by first | assumption | omega) (by first | assumption | omega) (by first | assumption | omega)) ?_)
 rintro _ w12 ⟨jY, rn11Alive, jX, ra11Bags, rn11Bags, rc11Bags, Vk, yx, ra11Around, rn11Around, rc11Around, rfl, M, K⟩ _
 replace N := N.merge sz14 lt15 M
 replace H := H.merge K M
 dsimp only [List.cons_append, List.nil_append] at H
 obtain rfl := H.QA 0 rfl
 obtain rfl := H.zt (α := List Int) 1 rfl 0 rfl (by decide)
 obtain rfl := H.QS 2 rfl
 refine sw (zn H ti38 [.slice none 0 0, .slice none 0 0, .slice none 0 0] fun b19 w20 H => ?_)
 refine sw (xP H 0 [.slice jY t.qh.length jX, .slice ra11Bags t.qp.length rc11Bags, .slice ra11Around t.ql.length rc11Around] Tryz.sizeOf38 fun w21 H => ?_)
 try dsimp only [List.set] at H
 refine qx (t_n (qm (qA ?_)))
 refine sp (.slice ra3a ((zi s t counts (vV (yJ s t counts) counts.length)).length) rc3a) ?_
 refine sw (qP b19 (0) 1 Tryz.underlying38 rfl rfl Tryz.sizeOf27 rfl ?_)
 refine sw (Xq H 0 [.slice jY t.qh.length jX, .slice ra3a ((zi s t counts (vV (yJ s t counts) counts.length)).length) rc3a, .slice ra11Around t.ql.length rc11Around] Tryz.sizeOf27 fun w22 H => ?_)
 try dsimp only [List.set] at H
 refine qx (t_n (qm (qm (qA ?_))))
 refine sp (.int .i64 0) ?_
 refine qx (t_n (xE ?_))
 refine zU (fun m' ρ w23 => ∃ (junk : Env) (i : Nat) (vC : Option Addr) (zM : Nat) (vz : Nat) (out_Around : List Int) (rest : List (List Int)) (XX : List Value) (Vj : List Nat), ρ = upd (upd (upd (upd (upd (upd junk 0 (pp bs os)) 1 (pp bt ot)) 2 (.slice acounts counts.length ccounts)) 6 (pp b1 0)) 10 (pp b19 0)) 11 (.int .i64 i) ∧ ((i : Int) ≤ counts.length) ∧ (Ent (s.qf.length + 1) (QI s) (fun p q => base0 s t p q + needS s counts s.qg.length p q + putS s t counts i p q) (20000000 + 6000000 * i) (rest ++ [out_Around])) ∧ (rest.length = s.qf.length) ∧ m' = (counts.length - (i : Int)).toNat ∧ Fresh w.heap.size [yx, Vj] ∧ St w w23 [.box b19 [.slice jY t.qh.length jX, .slice ra3a ((zi s t counts (vV (yJ s t counts) counts.length)).length) rc3a, .slice vC zM vz] 38, .row (.slice jY t.qh.length jX) 4 1 t.qh.length (t.qh.map (Value.bool)), .row (.slice ra11Bags t.qp.length rc11Bags) 22 1 t.qp.length Vk, .row (.slice vC zM vz) 2 1 zM (out_Around.map (Value.int .i64)), .row (.slice ra3a ((zi s t counts (vV (yJ s t counts) counts.length)).length) rc3a) 22 1 ((zi s t counts (vV (yJ s t counts) counts.length)).length) XX, .box b1 [.slice none 0 0, .slice none 0 0, .slice none 0 0] 38] [vX true yx Vk t.qp, vX true Vj XX rest, atF bs os [.int .i64 s.qJ, .slice qw s.qf.length qo, .slice qF s.qg.length qB], isF false qO (.slice qw s.qf.length qo) s.qf, isF false xw (.slice qF s.qg.length qB) s.qg, atF bt ot [.slice qM t.qh.length qI, .slice xF t.qp.length xn, .slice qL t.ql.length qK], isF false xJ (.slice qM t.qh.length qI) t.qh, isF false zq (.slice xF t.qp.length xn) t.qp, isF false xI (.slice qL t.ql.length qK) t.ql, isF false Fcounts (.slice acounts counts.length ccounts) counts]) ((counts.length - (0 : Int)).toNat) ⟨_, 0, ra11Around, t.ql.length, rc11Around, t.ql, zi s t counts (vV (yJ s t counts) counts.length), rx3a, rF3a, (by exact qj (qj (qj (qj (qj (qj (rfl) rfl) rfl) rfl) rfl) rfl) rfl), (by omega), (by rw [st, p6]; exact (rest_ent p0 p1 p2).to (fun _ _ => rfl) (by omega)), (by omega), rfl, N, H⟩ ?_
 clear H N
 rintro m' ρ w24 ⟨junk, i, vC, zM, vz, out_Around, rest, XX, Vj, rfl, i0, E_rest, z_rest, rfl, N, H⟩
 have hn_out_Around := H.QS 3 rfl
 have hn_rest := H.zt (α := List Int) 4 rfl 1 rfl (by decide)
 refine qm (qm (qA ?_))
 refine sps [.int .i64 i, .slice acounts counts.length ccounts] ?_
 refine sw (zX Tryz.underlying22 acounts counts.length ccounts rfl ?_)
 refine sp (.bool (decide ((i : Int) < counts.length))) ?_
 refine qx (t_n ?_)
 refine qW (decide ((i : Int) < counts.length)) rfl (fun h25 => ?_) (fun h25 => ?_)
 ·skip
  replace h25 := of_decide_eq_true h25
  have q := p0.rule (i := i) (by omega)
  have qc := q.1
  have qk := q.cell
  have qr := q.2.1
  have bn1 := q.2.2.2.2.1
  have bn2 := q.2.2.2.2.2.2.2.1
  have bn3 := q.2.2.2.2.2.2.2.2.1
  have ln1 := bn1.len
  have ln2 := bn2.len
  have ln3 := bn3.len
  have p10 := p2.bd (i := i) (by omega)
  have qn := q.2.2.2.1
  refine xk (t_n (qm (xE (qm (qA ?_)))))
  refine sps [pp bs os, pp bs os] ?_
  refine sw (qP bs (os) 2 Tryz.underlying36 rfl rfl Tryz.sizeOf34 rfl ?_)
  refine sw (qE (.slice qF s.qg.length qB) Tryz.isAgg34 rfl (H.xY 2 rfl 2 rfl) ?_)
  refine sp (.int .i64 i) ?_
  obtain ⟨b26, o27, rfl⟩ := H.addr 4 rfl (by omega)
  obtain ⟨ae29Need, ce29Need, Fe29Need, ae29Have, ce29Have, Fe29Have, ae29Lack, ce29Lack, Fe29Lack, ae29Here, ce29Here, Fe29Here, ae29Out, ce29Out, Fe29Out, ae29Into, XC, Fe29Into, H⟩ := H.yB 4 rfl i i (by omega) (by omega) (by omega)
  refine sw (xK i Tryz.underlying34 ti110 rfl rfl (by omega) (by omega) ?_)
  refine sp (pp b26 (o27 + (i : Int).toNat * 9)) ?_
  refine qx (t_n (qm (qm (qA ?_))))
  refine sps [.slice acounts counts.length ccounts, .int .i64 i] ?_
  obtain ⟨b30, o31, rfl⟩ := H.addr 16 rfl (by omega)
  refine sw (xK i Tryz.underlying22 ti2 rfl rfl (by omega) (by omega) ?_)
  refine sw (qE (.int .i64 (counts[i]!)) Tryz.isAgg2 rfl (H.jq 16 rfl i (by omega) (by omega)) ?_)
  refine sp (.bool ((counts[i]! : Int) == 0)) ?_
  refine qx (t_n ?_)
  refine qW ((counts[i]! : Int) == 0) rfl (fun h33 => ?_) (fun h33 => ?_)
  ·skip
   replace h33 := eq_of_beq h33
   refine zK (t_x (b_x (t_n (qA ?_))))
   refine sp (.int .i64 i) ?_
   refine sw (zZ i 1 rfl rfl (by omega) ?_)
   refine sp (.int .i64 (i + 1)) ?_
   refine qx ?_
   refine xH (m' := (counts.length - ((i + 1) : Int)).toNat) (by omega) ⟨_, i + 1, vC, zM, vz, out_Around, rest, XX, Vj, (by exact qj (qj (qj (qj (qj (qj (rfl) rfl) rfl) rfl) rfl) rfl) rfl), ?_, ?_, ?_, rfl, N, H.pick [0, 1, 2, 3, 4, 5] [7, 8, 9, 10, 11, 12, 13, 14, 15, 16]⟩
   · omega
   · first | exact E_rest.to (fun p q => by simp only [putS_skip (s := s) (t := t) (counts := counts) (i := i) ‹_›]) (by omega) | exact E_out_Bags.to (fun p q => by rw [show k = ((s.qg[i]!).qC).length by omega]; simp only [putS, putF]; omega) (by omega)
   · omega
  replace h33 := ne_of_beq_false h33
  refine xk (t_n (qm ?_))
  refine Qa rfl H [0, 1, 2, 3, 5] fun H => ?_
  have S := H.yG [0, 1, 2, 3, 5] [0, 1, 2, 3, 4, 5, 6, 7, 8, 9, 10, 11, 12, 13, 14, 15, 16]
  refine rt 0 (pp b19 (0 + 1)) (xG b19 (0) 1 Tryz.underlying38 rfl rfl Tryz.sizeOf27 rfl) S ?_
  refine rt 1 (.slice ra3a ((zi s t counts (vV (yJ s t counts) counts.length)).length) rc3a) (xA Tryz.isAgg27 rfl (fun _ h => h.cell 0 rfl rfl)) S ?_
  refine rtp 2 (pp b26 (o27 + (i : Int).toNat * 9)) S ?_
  refine rtp 3 (pp b26 (o27 + (i : Int).toNat * 9)) S ?_
  refine rt 4 (pp b26 (o27 + (i : Int).toNat * 9 + 0)) (xG b26 (o27 + (i : Int).toNat * 9) 0 Tryz.underlying110 rfl rfl Tryz.sizeOf2 rfl) S ?_
  refine rt 5 (.int .i64 ((s.qg[i]!).qy)) (xA Tryz.isAgg2 rfl (fun _ h => h.xY 6 rfl 0 rfl)) S ?_
  refine rt 6 (pp b19 (0 + 1)) (xG b19 (0) 1 Tryz.underlying38 rfl rfl Tryz.sizeOf27 rfl) S ?_
  refine rt 7 (.slice ra3a ((zi s t counts (vV (yJ s t counts) counts.length)).length) rc3a) (xA Tryz.isAgg27 rfl (fun _ h => h.cell 0 rfl rfl)) S ?_
  refine rtp 8 (pp b26 (o27 + (i : Int).toNat * 9)) S ?_
  refine rtp 9 (pp b26 (o27 + (i : Int).toNat * 9)) S ?_
  refine rt 10 (pp b26 (o27 + (i : Int).toNat * 9 + 0)) (xG b26 (o27 + (i : Int).toNat * 9) 0 Tryz.underlying110 rfl rfl Tryz.sizeOf2 rfl) S ?_
  refine rt 11 (.int .i64 ((s.qg[i]!).qy)) (xA Tryz.isAgg2 rfl (fun _ h => h.xY 6 rfl 0 rfl)) S ?_
  obtain ⟨b35, rfl⟩ := H.Xa 4 rfl (by omega)
  have S := H.yG [0, 1, 2, 3, 5] [0, 1, 2, 3, 4, 5, 6, 7, 8, 9, 10, 11, 12, 13, 14, 15, 16]
  refine rt 12 (pp b35 (0 + ((s.qg[i]!).qy : Int).toNat * 1)) (xO b35 (0) ((zi s t counts (vV (yJ s t counts) counts.length)).length) rc3a ((s.qg[i]!).qy) Tryz.underlying27 ti22 rfl rfl (by omega) (by omega)) S ?_
  refine rtp 14 (pp b26 (o27 + (i : Int).toNat * 9)) S ?_
  refine rtp 15 (pp b26 (o27 + (i : Int).toNat * 9)) S ?_
  refine rt 16 (pp b26 (o27 + (i : Int).toNat * 9 + 5)) (xG b26 (o27 + (i : Int).toNat * 9) 5 Tryz.underlying110 rfl rfl Tryz.sizeOf22 rfl) S ?_
  refine rt 17 (.slice ae29Here (((s.qg[i]!).xB).length) ce29Here) (xA Tryz.isAgg22 rfl (fun _ h => h.xY 6 rfl 5 rfl)) S ?_
  refine rtp 18 (.slice (aa b30 o31) counts.length ccounts) S ?_
  refine rtp 19 (.int .i64 i) S ?_
  refine rt 20 (pp b30 (o31 + (i : Int).toNat * 1)) (xO b30 (o31) counts.length ccounts i Tryz.underlying22 ti2 rfl rfl (by omega) (by omega)) S ?_
  refine rt 21 (.int .i64 (counts[i]!)) (xA Tryz.isAgg2 rfl (fun _ h => h.jq 16 rfl i (by omega) (by omega))) S ?_
  refine xq [13] (by kernel_rfl) (by simp) (xZ rfl ?_ xu)
  obtain ⟨a36, c37, G38, s39, h40, H⟩ := H.jg 4 rfl 8 rfl (iv := (s.qg[i]!).qy) (((s.qg[i]!).qy).toNat) (by omega) (by omega)
  refine qE (.slice a36 ((rest[((s.qg[i]!).qy).toNat]!).length) c37) Tryz.isAgg22 rfl (h40) ?_
  refine ⟨H.pick [0, 1, 2, 3, 5] [1, 2, 3, 4, 5, 6, 7, 8, 9, 10, 11, 12, 13, 14, 15, 16, 17], ?_⟩
  refine xq [22] (by kernel_rfl) (by simp) (xZ rfl ?_ xu)
  obtain ⟨u1, u2⟩ := Ent.rowL E_rest (c := ((s.qg[i]!).qy).toNat) (by omega) (by omega) (by omega) (by omega)
  have u4 := (by first | exact bn2.yK (by omega) | exact bn3.yK (by omega) | exact bn4.yK (by omega) : SmallT ((s.qg[i]!).xB) (counts[i]!))
  have sz41 := H.base.size
  have lt42 := H.ltN (L := [yx, Vj]) [8, 9]
  refine qZ #[.slice a36 ((rest[((s.qg[i]!).qy).toNat]!).length) c37, .slice ae29Here (((s.qg[i]!).xB).length) ce29Here, .int .i64 (counts[i]!)] rfl rfl Tryz.call88 (XQ w24.drew (rest[((s.qg[i]!).qy).toNat]!) ((s.qg[i]!).xB) (counts[i]!) a36 c37 G38 ae29Here ce29Here Fe29Here (H.get 0 rfl).1 (H.get 4 rfl).1 (by first | assumption | omega) (by first | assumption | omega) (by first | assumption | omega)) ?_
  rintro v46 w44 r46 x45
  replace H := H.zJ x45 r46
  obtain ⟨a47, c48, rfl, hc49, hm50⟩ := H.jv 0 rfl
  refine ⟨H.pick [1, 2, 3, 4, 6] [1, 2, 3, 4, 5, 6, 7, 8, 9, 10, 11, 12, 13, 14, 15, 16, 17], ?_⟩
  refine rt 23 (pp b35 (0 + ((s.qg[i]!).qy : Int).toNat * 1)) (xO b35 (0) ((zi s t counts (vV (yJ s t counts) counts.length)).length) rc3a ((s.qg[i]!).qy) Tryz.underlying27 ti22 rfl rfl (by omega) (by omega)) (H.pick [1, 2, 3, 4, 6] [1, 2, 3, 4, 5, 6, 7, 8, 9, 10, 11, 12, 13, 14, 15, 16, 17]) ?_
  refine xq [24] (by kernel_rfl) (by simp) (xZ rfl ?_ xu)
  obtain ⟨G52, N, hn53, H⟩ := H.yU 0 rfl N (H.Vg [8, 9])
  try dsimp only [List.set] at H
  refine jJ true H 5 rfl 10 rfl (.slice a47 ((yM (rest[((s.qg[i]!).qy).toNat]!) ((s.qg[i]!).xB) (counts[i]!)).length) c48) 0 rfl rfl Tryz.sizeOf22 rfl rfl (i := (((s.qg[i]!).qy).toNat)) (by omega) (by omega) (by simp) fun w51 xs54 F55 hs56 H => ?_
  replace N : Fresh w.heap.size [F55, yx] := (N.pick [2, 0, 1]).repl hs56
  try dsimp only [List.set] at H
  refine ⟨H.pick [1, 2, 3, 4, 6] [3, 4, 5, 6, 7, 8, 9, 10, 11, 12, 13, 14, 15, 16, 17, 18, 19], ?_⟩
  refine xN (by kernel_rfl) (t_n ?_)
  refine qm (qm (qA ?_))
  refine sps [pp b26 (o27 + (i : Int).toNat * 9), pp b26 (o27 + (i : Int).toNat * 9)] ?_
  refine sw (qP b26 (o27 + (i : Int).toNat * 9) 0 Tryz.underlying110 rfl rfl Tryz.sizeOf2 rfl ?_)
  refine sw (qE (.int .i64 ((s.qg[i]!).qy)) Tryz.isAgg2 rfl (H.xY 9 rfl 0 rfl) ?_)
  refine sp (.bool (((s.qg[i]!).qy : Int) == 0)) ?_
  refine qx (t_n ?_)
  refine qW (((s.qg[i]!).qy : Int) == 0) rfl (fun h57 => ?_) (fun h57 => ?_)
  ·skip
   replace h57 := eq_of_beq h57
   obtain ⟨bg58, e_bg58⟩ : ∃ z, z = (rest.set (((s.qg[i]!).qy).toNat) (yM (rest[((s.qg[i]!).qy).toNat]!) ((s.qg[i]!).xB) (counts[i]!))) := ⟨_, rfl⟩
   rw [← e_bg58] at H
   have E_bg58 := Ent.addL (D := 1000000) E_rest e_bg58 (by omega) (by omega) (by first | exact bn2.mul (by omega) | exact bn3.mul (by omega) | exact bn4.mul (by omega)) (by omega)
   have z_bg58 : bg58.length = s.qf.length := by rw [e_bg58, List.length_set]; omega
   have E_cur := E_bg58
   refine Qa rfl H [0, 2, 3, 4, 5, 6] fun H => ?_
   have S := H.yG [0, 2, 3, 4, 5, 6] [0, 1, 2, 3, 4, 5, 6, 7, 8, 9, 10, 11, 12, 13, 14, 15, 16, 17, 18, 19]
   refine rt 0 (pp b19 (0 + 2)) (xG b19 (0) 2 Tryz.underlying38 rfl rfl Tryz.sizeOf22 rfl) S ?_
   refine rtp 2 (pp b26 (o27 + (i : Int).toNat * 9)) S ?_
   refine rtp 3 (pp b26 (o27 + (i : Int).toNat * 9)) S ?_
   refine rt 4 (pp b26 (o27 + (i : Int).toNat * 9 + 6)) (xG b26 (o27 + (i : Int).toNat * 9) 6 Tryz.underlying110 rfl rfl Tryz.sizeOf22 rfl) S ?_
   refine rt 5 (.slice ae29Out (((s.qg[i]!).zk).length) ce29Out) (xA Tryz.isAgg22 rfl (fun _ h => h.xY 9 rfl 6 rfl)) S ?_
   refine rtp 6 (.slice (aa b30 o31) counts.length ccounts) S ?_
   refine rtp 7 (.int .i64 i) S ?_
   refine rt 8 (pp b30 (o31 + (i : Int).toNat * 1)) (xO b30 (o31) counts.length ccounts i Tryz.underlying22 ti2 rfl rfl (by omega) (by omega)) S ?_
   refine rt 9 (.int .i64 (counts[i]!)) (xA Tryz.isAgg2 rfl (fun _ h => h.jq 19 rfl i (by omega) (by omega))) S ?_
   refine xq [1] (by kernel_rfl) (by simp) (xZ rfl ?_ xu)
   refine qE (.slice vC zM vz) Tryz.isAgg22 rfl (H.cell 1 rfl rfl) ?_
   refine ⟨H.pick [0, 2, 3, 4, 5, 6] [0, 1, 2, 3, 4, 5, 6, 7, 8, 9, 10, 11, 12, 13, 14, 15, 16, 17, 18, 19], ?_⟩
   refine xq [10] (by kernel_rfl) (by simp) (xZ rfl ?_ xu)
   obtain ⟨G60, hn61, h62⟩ := H.rowIsI 4 rfl
   obtain ⟨u1, u2⟩ := Ent.rowN E_bg58 (by omega) (by omega) (by omega)
   have u4 := (by first | exact bn2.yK (by omega) | exact bn3.yK (by omega) | exact bn4.yK (by omega) : SmallT ((s.qg[i]!).zk) (counts[i]!))
   have sz63 := H.base.size
   have lt64 := H.ltN (L := [F55, yx]) [0, 10]
   refine qZ #[.slice vC zM vz, .slice ae29Out (((s.qg[i]!).zk).length) ce29Out, .int .i64 (counts[i]!)] rfl rfl Tryz.call88 (args_eq (by rw [← hn61]) (XQ w51.drew out_Around ((s.qg[i]!).zk) (counts[i]!) vC vz G60 ae29Out ce29Out Fe29Out (hn61 ▸ h62) (H.get 7 rfl).1 (by first | assumption | omega) (by first | assumption | omega) (by first | assumption | omega))) ?_
   rintro v68 w66 r68 x67
   replace H := H.zJ x67 r68
   obtain ⟨a69, c70, rfl, hc71, hm72⟩ := H.jv 0 rfl
   refine ⟨H.pick [1, 3, 4, 5, 6, 7] [0, 1, 2, 3, 4, 5, 6, 7, 8, 9, 10, 11, 12, 13, 14, 15, 16, 17, 18, 19], ?_⟩
   refine rt 11 (pp b19 (0 + 2)) (xG b19 (0) 2 Tryz.underlying38 rfl rfl Tryz.sizeOf22 rfl) (H.pick [1, 3, 4, 5, 6, 7] [0, 1, 2, 3, 4, 5, 6, 7, 8, 9, 10, 11, 12, 13, 14, 15, 16, 17, 18, 19]) ?_
   refine xq [12] (by kernel_rfl) (by simp) (xZ rfl ?_ xu)
   refine Xq H 2 [.slice jY t.qh.length jX, .slice (aa b35 0) ((zi s t counts (vV (yJ s t counts) counts.length)).length) rc3a, .slice a69 ((yM out_Around ((s.qg[i]!).zk) (counts[i]!)).length) c70] Tryz.sizeOf22 fun w73 H => ?_
   try dsimp only [List.set] at H
   refine ⟨H.pick [1, 3, 4, 5, 6, 7] [0, 1, 2, 3, 4, 5, 6, 7, 8, 9, 10, 11, 12, 13, 14, 15, 16, 17, 18, 19], ?_⟩
   refine xN (by kernel_rfl) (t_n ?_)
   refine qm (qA ?_)
   refine sp (.int .i64 0) ?_
   refine qx (t_n (xE ?_))
   replace E_bg58 := Ent.addN (D := 1000000) (a' := yM out_Around ((s.qg[i]!).zk) (counts[i]!)) E_bg58 rfl (by omega) (by first | exact bn2.mul (by omega) | exact bn3.mul (by omega) | exact bn4.mul (by omega)) (by omega)
   have E_cur := E_bg58
   refine zU (fun m' ρ w74 => ∃ (junk : Env) (k : Nat) (out_Bags : List (List Int)) (zA : List Value) (xU : List Nat), ρ = upd (upd (upd (upd (upd (upd (upd (upd junk 0 (pp bs os)) 1 (pp bt ot)) 2 (.slice (aa b30 o31) counts.length ccounts)) 6 (pp b1 0)) 10 (pp b19 0)) 11 (.int .i64 i)) 12 (pp b26 (o27 + (i : Int).toNat * 9))) 14 (.int .i64 k) ∧ ((k : Int) ≤ (((s.qg[i]!).qC).length)) ∧ (Ent (s.qf.length + 1) (QI s) (fun p q => base0 s t p q + needS s counts s.qg.length p q + putS s t counts i p q + at' p (s.qg[i]!).qy.toNat (counts[i]! * ((s.qg[i]!).xB)[q]!) + at' p (outPl s t (s.qg[i]!)) (counts[i]! * ((s.qg[i]!).zk)[q]!) + intoF (s.qg[i]!) (counts[i]!) k p q) (22000000 + 6000000 * i + 1000000 * k) (out_Bags ++ [yM out_Around ((s.qg[i]!).zk) (counts[i]!)])) ∧ (out_Bags.length = s.qf.length) ∧ m' = ((((s.qg[i]!).qC).length) - (k : Int)).toNat ∧ Fresh w.heap.size [yx, xU] ∧ St w w74 [.row (.slice a69 ((yM out_Around ((s.qg[i]!).zk) (counts[i]!)).length) c70) 2 1 ((yM out_Around ((s.qg[i]!).zk) (counts[i]!)).length) ((yM out_Around ((s.qg[i]!).zk) (counts[i]!)).map (Value.int .i64)), .box b19 [.slice jY t.qh.length jX, .slice (aa b35 0) ((zi s t counts (vV (yJ s t counts) counts.length)).length) rc3a, .slice a69 ((yM out_Around ((s.qg[i]!).zk) (counts[i]!)).length) c70] 38, .row (.slice jY t.qh.length jX) 4 1 t.qh.length (t.qh.map (Value.bool)), .row (.slice ra11Bags t.qp.length rc11Bags) 22 1 t.qp.length Vk, .row (.slice vC zM vz) 2 1 zM (out_Around.map (Value.int .i64)), .row (.slice (aa b35 0) ((zi s t counts (vV (yJ s t counts) counts.length)).length) rc3a) 22 1 ((zi s t counts (vV (yJ s t counts) counts.length)).length) zA, .box b1 [.slice none 0 0, .slice none 0 0, .slice none 0 0] 38] [vX true xU zA out_Bags, isF false Fe29Need (.slice ae29Need (((s.qg[i]!).qR).length) ce29Need) ((s.qg[i]!).qR), isF false Fe29Have (.slice ae29Have (((s.qg[i]!).xh).length) ce29Have) ((s.qg[i]!).xh), isF false Fe29Lack (.slice ae29Lack (((s.qg[i]!).xm).length) ce29Lack) ((s.qg[i]!).xm), isF false Fe29Here (.slice ae29Here (((s.qg[i]!).xB).length) ce29Here) ((s.qg[i]!).xB), isF false Fe29Out (.slice ae29Out (((s.qg[i]!).zk).length) ce29Out) ((s.qg[i]!).zk), isF false Fe29Into (.slice ae29Into (((s.qg[i]!).qC).length) XC) ((s.qg[i]!).qC), atF b26 (o27 + (i : Int).toNat * 9) [.int .i64 ((s.qg[i]!).qy), .int .i64 ((s.qg[i]!).zh), .slice ae29Need (((s.qg[i]!).qR).length) ce29Need, .slice ae29Have (((s.qg[i]!).xh).length) ce29Have, .slice ae29Lack (((s.qg[i]!).xm).length) ce29Lack, .slice ae29Here (((s.qg[i]!).xB).length) ce29Here, .slice ae29Out (((s.qg[i]!).zk).length) ce29Out, .slice ae29Into (((s.qg[i]!).qC).length) XC, .bool ((s.qg[i]!).xQ)], vX true yx Vk t.qp, atF bs os [.int .i64 s.qJ, .slice qw s.qf.length qo, .slice (aa b26 o27) s.qg.length qB], isF false qO (.slice qw s.qf.length qo) s.qf, isF false xw (.slice (aa b26 o27) s.qg.length qB) s.qg, atF bt ot [.slice qM t.qh.length qI, .slice xF t.qp.length xn, .slice qL t.ql.length qK], isF false xJ (.slice qM t.qh.length qI) t.qh, isF false zq (.slice xF t.qp.length xn) t.qp, isF false xI (.slice qL t.ql.length qK) t.ql, isF false Fcounts (.slice (aa b30 o31) counts.length ccounts) counts]) (((((s.qg[i]!).qC).length) - (0 : Int)).toNat) ⟨_, 0, bg58, xs54, F55, (by exact qj (qj (qj (qj (qj (qj (qj (qj (rfl) rfl) rfl) rfl) rfl) rfl) rfl) rfl) rfl), (by omega), (by exact E_cur.to (fun p q => by first | (simp only [intoF, outPl_root (s := s) (t := t) (r := s.qg[i]!) ‹_›, jr]; omega) | (simp only [intoF, outPl_up (s := s) (t := t) (r := s.qg[i]!) ‹_›]; omega)) (by omega)), (by omega), rfl, (N.pick [1, 0]), H.pick [0, 2, 3, 4, 5, 6, 7] [0, 3, 4, 5, 6, 7, 8, 9, 10, 12, 13, 14, 15, 16, 17, 18, 19]⟩ ?_
   clear H N
   rintro m' ρ w75 ⟨junk, k, out_Bags, zA, xU, rfl, i0, E_out_Bags, z_out_Bags, rfl, N, H⟩
   have Vp := H.zt (α := List Int) 5 rfl 0 rfl (by decide)
   refine qm (qm (qA ?_))
   refine sps [.int .i64 k, pp b26 (o27 + (i : Int).toNat * 9), pp b26 (o27 + (i : Int).toNat * 9)] ?_
   refine sw (qP b26 (o27 + (i : Int).toNat * 9) 7 Tryz.underlying110 rfl rfl Tryz.sizeOf108 rfl ?_)
   refine sw (qE (.slice ae29Into (((s.qg[i]!).qC).length) XC) Tryz.isAgg108 rfl (H.xY 7 rfl 7 rfl) ?_)
   refine sw (zX Tryz.underlying108 ae29Into (((s.qg[i]!).qC).length) XC rfl ?_)
   refine sp (.bool (decide ((k : Int) < (((s.qg[i]!).qC).length)))) ?_
   refine qx (t_n ?_)
   refine qW (decide ((k : Int) < (((s.qg[i]!).qC).length))) rfl (fun h76 => ?_) (fun h76 => ?_)
   ·skip
    replace h76 := of_decide_eq_true h76
    have qi := q.2.2.2.2.2.2.2.2.2.2 k (by omega)
    have qi1 := qi.1
    have bn4 := qi.2.2.1
    have ln4 := bn4.len
    refine xk (t_n (qm (xE (qm (qA ?_)))))
    refine sps [pp b26 (o27 + (i : Int).toNat * 9), pp b26 (o27 + (i : Int).toNat * 9)] ?_
    refine sw (qP b26 (o27 + (i : Int).toNat * 9) 7 Tryz.underlying110 rfl rfl Tryz.sizeOf108 rfl ?_)
    refine sw (qE (.slice ae29Into (((s.qg[i]!).qC).length) XC) Tryz.isAgg108 rfl (H.xY 7 rfl 7 rfl) ?_)
    refine sp (.int .i64 k) ?_
    obtain ⟨b77, o78, rfl⟩ := H.addr 6 rfl (by omega)
    obtain ⟨ae80Bag, ce80Bag, Fe80Bag, H⟩ := H.jT 6 rfl k k (by omega) (by omega) (by omega)
    refine sw (xK k Tryz.underlying108 ti115 rfl rfl (by omega) (by omega) ?_)
    refine sw (qP b77 (o78 + (k : Int).toNat * 2) 0 Tryz.underlying115 rfl rfl Tryz.sizeOf2 rfl ?_)
    refine sw (qE (.int .i64 ((((s.qg[i]!).qC)[k]!).qy)) Tryz.isAgg2 rfl (H.xY 1 rfl 0 rfl) ?_)
    refine sp (.int .i64 ((((s.qg[i]!).qC)[k]!).qy)) ?_
    refine qx (t_n ?_)
    refine Qa rfl H [0, 1, 2, 3, 4, 6] fun H => ?_
    have S := H.yG [0, 1, 2, 3, 4, 6] [0, 1, 2, 3, 4, 5, 6, 7, 8, 9, 10, 11, 12, 13, 14, 15, 16, 17, 18]
    refine rt 0 (pp b19 (0 + 1)) (xG b19 (0) 1 Tryz.underlying38 rfl rfl Tryz.sizeOf27 rfl) S ?_
    refine rt 1 (.slice (aa b35 0) ((zi s t counts (vV (yJ s t counts) counts.length)).length) rc3a) (xA Tryz.isAgg27 rfl (fun _ h => h.cell 1 rfl rfl)) S ?_
    refine rtp 2 (.int .i64 ((((s.qg[i]!).qC)[k]!).qy)) S ?_
    refine rt 3 (pp b19 (0 + 1)) (xG b19 (0) 1 Tryz.underlying38 rfl rfl Tryz.sizeOf27 rfl) S ?_
    refine rt 4 (.slice (aa b35 0) ((zi s t counts (vV (yJ s t counts) counts.length)).length) rc3a) (xA Tryz.isAgg27 rfl (fun _ h => h.cell 1 rfl rfl)) S ?_
    refine rtp 5 (.int .i64 ((((s.qg[i]!).qC)[k]!).qy)) S ?_
    refine rt 6 (pp b35 (0 + ((((s.qg[i]!).qC)[k]!).qy : Int).toNat * 1)) (xO b35 (0) ((zi s t counts (vV (yJ s t counts) counts.length)).length) rc3a ((((s.qg[i]!).qC)[k]!).qy) Tryz.underlying27 ti22 rfl rfl (by omega) (by omega)) S ?_
    refine rtp 8 (pp b26 (o27 + (i : Int).toNat * 9)) S ?_
    refine rtp 9 (pp b26 (o27 + (i : Int).toNat * 9)) S ?_
    refine rt 10 (pp b26 (o27 + (i : Int).toNat * 9 + 7)) (xG b26 (o27 + (i : Int).toNat * 9) 7 Tryz.underlying110 rfl rfl Tryz.sizeOf108 rfl) S ?_
    refine rt 11 (.slice (aa b77 o78) (((s.qg[i]!).qC).length) XC) (xA Tryz.isAgg108 rfl (fun _ h => h.xY 9 rfl 7 rfl)) S ?_
    refine rtp 12 (.int .i64 k) S ?_
    refine rt 13 (pp b77 (o78 + (k : Int).toNat * 2)) (xO b77 (o78) (((s.qg[i]!).qC).length) XC k Tryz.underlying108 ti115 rfl rfl (by omega) (by omega)) S ?_
    refine rt 14 (pp b77 (o78 + (k : Int).toNat * 2 + 1)) (xG b77 (o78 + (k : Int).toNat * 2) 1 Tryz.underlying115 rfl rfl Tryz.sizeOf22 rfl) S ?_
    refine rt 15 (.slice ae80Bag (((((s.qg[i]!).qC)[k]!).vH).length) ce80Bag) (xA Tryz.isAgg22 rfl (fun _ h => h.xY 1 rfl 1 rfl)) S ?_
    refine rtp 16 (.slice (aa b30 o31) counts.length ccounts) S ?_
    refine rtp 17 (.int .i64 i) S ?_
    refine rt 18 (pp b30 (o31 + (i : Int).toNat * 1)) (xO b30 (o31) counts.length ccounts i Tryz.underlying22 ti2 rfl rfl (by omega) (by omega)) S ?_
    refine rt 19 (.int .i64 (counts[i]!)) (xA Tryz.isAgg2 rfl (fun _ h => h.jq 18 rfl i (by omega) (by omega))) S ?_
    refine xq [7] (by kernel_rfl) (by simp) (xZ rfl ?_ xu)
    obtain ⟨a82, c83, G84, s85, h86, H⟩ := H.jg 5 rfl 2 rfl (iv := (((s.qg[i]!).qC)[k]!).qy) (((((s.qg[i]!).qC)[k]!).qy).toNat) (by omega) (by omega)
    refine qE (.slice a82 ((out_Bags[((((s.qg[i]!).qC)[k]!).qy).toNat]!).length) c83) Tryz.isAgg22 rfl (h86) ?_
    refine ⟨H.pick [0, 1, 2, 3, 4, 6] [1, 2, 3, 4, 5, 6, 7, 8, 9, 10, 11, 12, 13, 14, 15, 16, 17, 18, 19], ?_⟩
    refine xq [20] (by kernel_rfl) (by simp) (xZ rfl ?_ xu)
    obtain ⟨u1, u2⟩ := Ent.rowL E_out_Bags (c := ((((s.qg[i]!).qC)[k]!).qy).toNat) (by omega) (by omega) (by omega) (by omega)
    have u4 := (by first | exact bn2.yK (by omega) | exact bn3.yK (by omega) | exact bn4.yK (by omega) : SmallT ((((s.qg[i]!).qC)[k]!).vH) (counts[i]!))
    have sz87 := H.base.size
    have lt88 := H.ltN (L := [yx, xU]) [11, 3]
    refine qZ #[.slice a82 ((out_Bags[((((s.qg[i]!).qC)[k]!).qy).toNat]!).length) c83, .slice ae80Bag (((((s.qg[i]!).qC)[k]!).vH).length) ce80Bag, .int .i64 (counts[i]!)] rfl rfl Tryz.call88 (XQ w75.drew (out_Bags[((((s.qg[i]!).qC)[k]!).qy).toNat]!) ((((s.qg[i]!).qC)[k]!).vH) (counts[i]!) a82 c83 G84 ae80Bag ce80Bag Fe80Bag (H.get 0 rfl).1 (H.get 1 rfl).1 (by first | assumption | omega) (by first | assumption | omega) (by first | assumption | omega)) ?_
    rintro v92 w90 r92 x91
    replace H := H.zJ x91 r92
    obtain ⟨a93, c94, rfl, hc95, hm96⟩ := H.jv 0 rfl
    refine ⟨H.pick [1, 2, 3, 4, 5, 7] [1, 2, 3, 4, 5, 6, 7, 8, 9, 10, 11, 12, 13, 14, 15, 16, 17, 18, 19], ?_⟩
    refine rt 21 (pp b35 (0 + ((((s.qg[i]!).qC)[k]!).qy : Int).toNat * 1)) (xO b35 (0) ((zi s t counts (vV (yJ s t counts) counts.length)).length) rc3a ((((s.qg[i]!).qC)[k]!).qy) Tryz.underlying27 ti22 rfl rfl (by omega) (by omega)) (H.pick [1, 2, 3, 4, 5, 7] [1, 2, 3, 4, 5, 6, 7, 8, 9, 10, 11, 12, 13, 14, 15, 16, 17, 18, 19]) ?_
    refine xq [22] (by kernel_rfl) (by simp) (xZ rfl ?_ xu)
    obtain ⟨G98, N, hn99, H⟩ := H.yU 0 rfl N (H.Vg [11, 3])
    try dsimp only [List.set] at H
    refine jJ true H 6 rfl 4 rfl (.slice a93 ((yM (out_Bags[((((s.qg[i]!).qC)[k]!).qy).toNat]!) ((((s.qg[i]!).qC)[k]!).vH) (counts[i]!)).length) c94) 0 rfl rfl Tryz.sizeOf22 rfl rfl (i := (((((s.qg[i]!).qC)[k]!).qy).toNat)) (by omega) (by omega) (by simp) fun w97 xs100 F101 hs102 H => ?_
    replace N : Fresh w.heap.size [F101, yx] := (N.pick [2, 0, 1]).repl hs102
    try dsimp only [List.set] at H
    refine ⟨H.pick [1, 2, 3, 4, 5, 7] [3, 4, 5, 6, 7, 8, 9, 10, 11, 12, 13, 14, 15, 16, 17, 18, 19, 20, 21], ?_⟩
    refine xN (by kernel_rfl) (b_n (t_n ?_))
    refine qA ?_
    refine sp (.int .i64 k) ?_
    refine sw (zZ k 1 rfl rfl (by omega) ?_)
    refine sp (.int .i64 (k + 1)) ?_
    refine qx ?_
    obtain ⟨bg103, e_bg103⟩ : ∃ z, z = (out_Bags.set (((((s.qg[i]!).qC)[k]!).qy).toNat) (yM (out_Bags[((((s.qg[i]!).qC)[k]!).qy).toNat]!) ((((s.qg[i]!).qC)[k]!).vH) (counts[i]!))) := ⟨_, rfl⟩
    rw [← e_bg103] at H
    have E_bg103 := Ent.addL (D := 1000000) E_out_Bags e_bg103 (by omega) (by omega) (by first | exact bn2.mul (by omega) | exact bn3.mul (by omega) | exact bn4.mul (by omega)) (by omega)
    have z_bg103 : bg103.length = s.qf.length := by rw [e_bg103, List.length_set]; omega
    have E_cur := E_bg103
    refine xH (m' := ((((s.qg[i]!).qC).length) - ((k + 1) : Int)).toNat) (by omega) ⟨_, k + 1, bg103, xs100, F101, (by exact qj (qj (qj (qj (qj (qj (qj (qj (rfl) rfl) rfl) rfl) rfl) rfl) rfl) rfl) rfl), ?_, ?_, ?_, rfl, (N.pick [1, 0]), H.pick [1, 2, 3, 4, 5, 6, 7] [0, 6, 7, 8, 9, 10, 11, 12, 13, 14, 15, 16, 17, 18, 19, 20, 21]⟩
    · omega
    · exact E_cur.to (fun p q => by simp only [intoF]; omega) (by omega)
    · omega
   replace h76 := of_decide_eq_false h76
   refine zK (t_x (t_x (b_x (b_n (t_n (qA ?_))))))
   refine sp (.int .i64 i) ?_
   refine sw (zZ i 1 rfl rfl (by omega) ?_)
   refine sp (.int .i64 (i + 1)) ?_
   refine qx ?_
   refine xH (m' := (counts.length - ((i + 1) : Int)).toNat) (by omega) ⟨_, i + 1, a69, (yM out_Around ((s.qg[i]!).zk) (counts[i]!)).length, c70, yM out_Around ((s.qg[i]!).zk) (counts[i]!), out_Bags, zA, xU, (by exact qj (qj (qj (qj (qj (qj (rfl) rfl) rfl) rfl) rfl) rfl) rfl), ?_, ?_, ?_, rfl, N, H.pick [1, 2, 3, 0, 5, 6] [8, 0, 9, 10, 11, 12, 13, 14, 15, 16]⟩
   · omega
   · first | exact E_rest.to (fun p q => by simp only [putS_skip (s := s) (t := t) (counts := counts) (i := i) ‹_›]) (by omega) | exact E_out_Bags.to (fun p q => by rw [show k = ((s.qg[i]!).qC).length by omega]; simp only [putS, putF]; omega) (by omega)
   · omega
  replace h57 := ne_of_beq_false h57
  obtain ⟨bg104, e_bg104⟩ : ∃ z, z = (rest.set (((s.qg[i]!).qy).toNat) (yM (rest[((s.qg[i]!).qy).toNat]!) ((s.qg[i]!).xB) (counts[i]!))) := ⟨_, rfl⟩
  rw [← e_bg104] at H
  have E_bg104 := Ent.addL (D := 1000000) E_rest e_bg104 (by omega) (by omega) (by first | exact bn2.mul (by omega) | exact bn3.mul (by omega) | exact bn4.mul (by omega)) (by omega)
  have z_bg104 : bg104.length = s.qf.length := by rw [e_bg104, List.length_set]; omega
  have E_cur := E_bg104
  refine qm (qA ?_)
  refine sps [pp bs os, pp bt ot, pp b26 (o27 + (i : Int).toNat * 9), pp b26 (o27 + (i : Int).toNat * 9)] ?_
  refine sw (qP b26 (o27 + (i : Int).toNat * 9) 0 Tryz.underlying110 rfl rfl Tryz.sizeOf2 rfl ?_)
  refine sw (qE (.int .i64 ((s.qg[i]!).qy)) Tryz.isAgg2 rfl (H.xY 9 rfl 0 rfl) ?_)
  refine sw (qZ #[pp bs os, pp bt ot, .int .i64 ((s.qg[i]!).qy)] rfl rfl Tryz.call107 (l02Parent_ok w51 s t ((s.qg[i]!).qy) bs os qw qo qO (aa b26 o27) qB xw bt ot qM qI xJ xF xn zq qL qK xI (qH (H.get 12 rfl) 0 3) (H.get 13 rfl).1 (H.get 14 rfl).1 (qH (H.get 15 rfl) 0 3) (H.get 16 rfl).1 (H.get 17 rfl).1 (H.get 18 rfl).1 (by assumption) (by assumption) (by assumption)) ?_)
  rintro _ w105 rfl x106
  replace H := H.ext x106
  have pin := Vw (s := s) (t := t) (c := ((s.qg[i]!).qy)) p0.1 p1.2.2.1 (by omega) (by omega)
  refine sp (.int .i64 (xf s t ((s.qg[i]!).qy))) ?_
  refine qx (t_n ?_)
  refine Qa rfl H [0, 1, 2, 3, 4, 6] fun H => ?_
  have S := H.yG [0, 1, 2, 3, 4, 6] [0, 1, 2, 3, 4, 5, 6, 7, 8, 9, 10, 11, 12, 13, 14, 15, 16, 17, 18, 19]
  refine rt 0 (pp b19 (0 + 1)) (xG b19 (0) 1 Tryz.underlying38 rfl rfl Tryz.sizeOf27 rfl) S ?_
  refine rt 1 (.slice (aa b35 0) ((zi s t counts (vV (yJ s t counts) counts.length)).length) rc3a) (xA Tryz.isAgg27 rfl (fun _ h => h.cell 1 rfl rfl)) S ?_
  refine rtp 2 (.int .i64 (xf s t ((s.qg[i]!).qy))) S ?_
  refine rt 3 (pp b19 (0 + 1)) (xG b19 (0) 1 Tryz.underlying38 rfl rfl Tryz.sizeOf27 rfl) S ?_
  refine rt 4 (.slice (aa b35 0) ((zi s t counts (vV (yJ s t counts) counts.length)).length) rc3a) (xA Tryz.isAgg27 rfl (fun _ h => h.cell 1 rfl rfl)) S ?_
  refine rtp 5 (.int .i64 (xf s t ((s.qg[i]!).qy))) S ?_
  refine rt 6 (pp b35 (0 + (xf s t ((s.qg[i]!).qy) : Int).toNat * 1)) (xO b35 (0) ((zi s t counts (vV (yJ s t counts) counts.length)).length) rc3a (xf s t ((s.qg[i]!).qy)) Tryz.underlying27 ti22 rfl rfl (by omega) (by omega)) S ?_
  refine rtp 8 (pp b26 (o27 + (i : Int).toNat * 9)) S ?_
  refine rtp 9 (pp b26 (o27 + (i : Int).toNat * 9)) S ?_
  refine rt 10 (pp b26 (o27 + (i : Int).toNat * 9 + 6)) (xG b26 (o27 + (i : Int).toNat * 9) 6 Tryz.underlying110 rfl rfl Tryz.sizeOf22 rfl) S ?_
  refine rt 11 (.slice ae29Out (((s.qg[i]!).zk).length) ce29Out) (xA Tryz.isAgg22 rfl (fun _ h => h.xY 9 rfl 6 rfl)) S ?_
  refine rtp 12 (.slice (aa b30 o31) counts.length ccounts) S ?_
  refine rtp 13 (.int .i64 i) S ?_
  refine rt 14 (pp b30 (o31 + (i : Int).toNat * 1)) (xO b30 (o31) counts.length ccounts i Tryz.underlying22 ti2 rfl rfl (by omega) (by omega)) S ?_
  refine rt 15 (.int .i64 (counts[i]!)) (xA Tryz.isAgg2 rfl (fun _ h => h.jq 19 rfl i (by omega) (by omega))) S ?_
  refine xq [7] (by kernel_rfl) (by simp) (xZ rfl ?_ xu)
  obtain ⟨a108, c109, G110, s111, h112, H⟩ := H.jg 5 rfl 0 rfl (iv := xf s t ((s.qg[i]!).qy)) ((xf s t ((s.qg[i]!).qy)).toNat) (by omega) (by omega)
  refine qE (.slice a108 ((bg104[(xf s t ((s.qg[i]!).qy)).toNat]!).length) c109) Tryz.isAgg22 rfl (h112) ?_
  refine ⟨H.pick [0, 1, 2, 3, 4, 6] [1, 2, 3, 4, 5, 6, 7, 8, 9, 10, 11, 12, 13, 14, 15, 16, 17, 18, 19, 20], ?_⟩
  refine xq [16] (by kernel_rfl) (by simp) (xZ rfl ?_ xu)
  obtain ⟨u1, u2⟩ := Ent.rowL E_bg104 (c := (xf s t ((s.qg[i]!).qy)).toNat) (by omega) (by omega) (by omega) (by omega)
  have u4 := (by first | exact bn2.yK (by omega) | exact bn3.yK (by omega) | exact bn4.yK (by omega) : SmallT ((s.qg[i]!).zk) (counts[i]!))
  have sz113 := H.base.size
  have lt114 := H.ltN (L := [F55, yx]) [1, 11]
  refine qZ #[.slice a108 ((bg104[(xf s t ((s.qg[i]!).qy)).toNat]!).length) c109, .slice ae29Out (((s.qg[i]!).zk).length) ce29Out, .int .i64 (counts[i]!)] rfl rfl Tryz.call88 (XQ w105.drew (bg104[(xf s t ((s.qg[i]!).qy)).toNat]!) ((s.qg[i]!).zk) (counts[i]!) a108 c109 G110 ae29Out ce29Out Fe29Out (H.get 0 rfl).1 (H.get 8 rfl).1 (by first | assumption | omega) (by first | assumption | omega) (by first | assumption | omega)) ?_
  rintro v118 w116 r118 x117
  replace H := H.zJ x117 r118
  obtain ⟨a119, c120, rfl, hc121, hm122⟩ := H.jv 0 rfl
  refine ⟨H.pick [1, 2, 3, 4, 5, 7] [1, 2, 3, 4, 5, 6, 7, 8, 9, 10, 11, 12, 13, 14, 15, 16, 17, 18, 19, 20], ?_⟩
  refine rt 17 (pp b35 (0 + (xf s t ((s.qg[i]!).qy) : Int).toNat * 1)) (xO b35 (0) ((zi s t counts (vV (yJ s t counts) counts.length)).length) rc3a (xf s t ((s.qg[i]!).qy)) Tryz.underlying27 ti22 rfl rfl (by omega) (by omega)) (H.pick [1, 2, 3, 4, 5, 7] [1, 2, 3, 4, 5, 6, 7, 8, 9, 10, 11, 12, 13, 14, 15, 16, 17, 18, 19, 20]) ?_
  refine xq [18] (by kernel_rfl) (by simp) (xZ rfl ?_ xu)
  obtain ⟨G124, N, hn125, H⟩ := H.yU 0 rfl N (H.Vg [1, 11])
  try dsimp only [List.set] at H
  refine jJ true H 6 rfl 2 rfl (.slice a119 ((yM (bg104[(xf s t ((s.qg[i]!).qy)).toNat]!) ((s.qg[i]!).zk) (counts[i]!)).length) c120) 0 rfl rfl Tryz.sizeOf22 rfl rfl (i := ((xf s t ((s.qg[i]!).qy)).toNat)) (by omega) (by omega) (by simp) fun w123 xs126 F127 hs128 H => ?_
  replace N : Fresh w.heap.size [F127, yx] := (N.pick [1, 0, 2]).repl hs128
  try dsimp only [List.set] at H
  refine ⟨H.pick [1, 2, 3, 4, 5, 7] [3, 4, 5, 6, 7, 8, 9, 10, 11, 12, 13, 14, 15, 16, 17, 18, 19, 20, 21, 22], ?_⟩
  refine xN (by kernel_rfl) (t_n ?_)
  refine qm (qA ?_)
  refine sp (.int .i64 0) ?_
  refine qx (t_n (xE ?_))
  obtain ⟨bg129, e_bg129⟩ : ∃ z, z = (bg104.set ((xf s t ((s.qg[i]!).qy)).toNat) (yM (bg104[(xf s t ((s.qg[i]!).qy)).toNat]!) ((s.qg[i]!).zk) (counts[i]!))) := ⟨_, rfl⟩
  rw [← e_bg129] at H
  have E_bg129 := Ent.addL (D := 1000000) E_bg104 e_bg129 (by omega) (by omega) (by first | exact bn2.mul (by omega) | exact bn3.mul (by omega) | exact bn4.mul (by omega)) (by omega)
  have z_bg129 : bg129.length = s.qf.length := by rw [e_bg129, List.length_set]; omega
  have E_cur := E_bg129
  refine zU (fun m' ρ w130 => ∃ (junk : Env) (k : Nat) (out_Bags : List (List Int)) (zA : List Value) (xU : List Nat), ρ = upd (upd (upd (upd (upd (upd (upd (upd junk 0 (pp bs os)) 1 (pp bt ot)) 2 (.slice (aa b30 o31) counts.length ccounts)) 6 (pp b1 0)) 10 (pp b19 0)) 11 (.int .i64 i)) 12 (pp b26 (o27 + (i : Int).toNat * 9))) 14 (.int .i64 k) ∧ ((k : Int) ≤ (((s.qg[i]!).qC).length)) ∧ (Ent (s.qf.length + 1) (QI s) (fun p q => base0 s t p q + needS s counts s.qg.length p q + putS s t counts i p q + at' p (s.qg[i]!).qy.toNat (counts[i]! * ((s.qg[i]!).xB)[q]!) + at' p (outPl s t (s.qg[i]!)) (counts[i]! * ((s.qg[i]!).zk)[q]!) + intoF (s.qg[i]!) (counts[i]!) k p q) (22000000 + 6000000 * i + 1000000 * k) (out_Bags ++ [out_Around])) ∧ (out_Bags.length = s.qf.length) ∧ m' = ((((s.qg[i]!).qC).length) - (k : Int)).toNat ∧ Fresh w.heap.size [yx, xU] ∧ St w w130 [.box b19 [.slice jY t.qh.length jX, .slice (aa b35 0) ((zi s t counts (vV (yJ s t counts) counts.length)).length) rc3a, .slice vC zM vz] 38, .row (.slice jY t.qh.length jX) 4 1 t.qh.length (t.qh.map (Value.bool)), .row (.slice ra11Bags t.qp.length rc11Bags) 22 1 t.qp.length Vk, .row (.slice vC zM vz) 2 1 zM (out_Around.map (Value.int .i64)), .row (.slice (aa b35 0) ((zi s t counts (vV (yJ s t counts) counts.length)).length) rc3a) 22 1 ((zi s t counts (vV (yJ s t counts) counts.length)).length) zA, .box b1 [.slice none 0 0, .slice none 0 0, .slice none 0 0] 38] [vX true xU zA out_Bags, isF false Fe29Need (.slice ae29Need (((s.qg[i]!).qR).length) ce29Need) ((s.qg[i]!).qR), isF false Fe29Have (.slice ae29Have (((s.qg[i]!).xh).length) ce29Have) ((s.qg[i]!).xh), isF false Fe29Lack (.slice ae29Lack (((s.qg[i]!).xm).length) ce29Lack) ((s.qg[i]!).xm), isF false Fe29Here (.slice ae29Here (((s.qg[i]!).xB).length) ce29Here) ((s.qg[i]!).xB), isF false Fe29Out (.slice ae29Out (((s.qg[i]!).zk).length) ce29Out) ((s.qg[i]!).zk), isF false Fe29Into (.slice ae29Into (((s.qg[i]!).qC).length) XC) ((s.qg[i]!).qC), atF b26 (o27 + (i : Int).toNat * 9) [.int .i64 ((s.qg[i]!).qy), .int .i64 ((s.qg[i]!).zh), .slice ae29Need (((s.qg[i]!).qR).length) ce29Need, .slice ae29Have (((s.qg[i]!).xh).length) ce29Have, .slice ae29Lack (((s.qg[i]!).xm).length) ce29Lack, .slice ae29Here (((s.qg[i]!).xB).length) ce29Here, .slice ae29Out (((s.qg[i]!).zk).length) ce29Out, .slice ae29Into (((s.qg[i]!).qC).length) XC, .bool ((s.qg[i]!).xQ)], vX true yx Vk t.qp, atF bs os [.int .i64 s.qJ, .slice qw s.qf.length qo, .slice (aa b26 o27) s.qg.length qB], isF false qO (.slice qw s.qf.length qo) s.qf, isF false xw (.slice (aa b26 o27) s.qg.length qB) s.qg, atF bt ot [.slice qM t.qh.length qI, .slice xF t.qp.length xn, .slice qL t.ql.length qK], isF false xJ (.slice qM t.qh.length qI) t.qh, isF false zq (.slice xF t.qp.length xn) t.qp, isF false xI (.slice qL t.ql.length qK) t.ql, isF false Fcounts (.slice (aa b30 o31) counts.length ccounts) counts]) (((((s.qg[i]!).qC).length) - (0 : Int)).toNat) ⟨_, 0, bg129, xs126, F127, (by exact qj (qj (qj (qj (qj (qj (qj (qj (rfl) rfl) rfl) rfl) rfl) rfl) rfl) rfl) rfl), (by omega), (by exact E_cur.to (fun p q => by first | (simp only [intoF, outPl_root (s := s) (t := t) (r := s.qg[i]!) ‹_›, jr]; omega) | (simp only [intoF, outPl_up (s := s) (t := t) (r := s.qg[i]!) ‹_›]; omega)) (by omega)), (by omega), rfl, (N.pick [1, 0]), H.pick [2, 3, 4, 5, 6, 7] [0, 6, 7, 8, 9, 10, 11, 12, 13, 15, 16, 17, 18, 19, 20, 21, 22]⟩ ?_
  clear H N
  rintro m' ρ w131 ⟨junk, k, out_Bags, zA, xU, rfl, i0, E_out_Bags, z_out_Bags, rfl, N, H⟩
  have Vp := H.zt (α := List Int) 4 rfl 0 rfl (by decide)
  refine qm (qm (qA ?_))
  refine sps [.int .i64 k, pp b26 (o27 + (i : Int).toNat * 9), pp b26 (o27 + (i : Int).toNat * 9)] ?_
  refine sw (qP b26 (o27 + (i : Int).toNat * 9) 7 Tryz.underlying110 rfl rfl Tryz.sizeOf108 rfl ?_)
  refine sw (qE (.slice ae29Into (((s.qg[i]!).qC).length) XC) Tryz.isAgg108 rfl (H.xY 7 rfl 7 rfl) ?_)
  refine sw (zX Tryz.underlying108 ae29Into (((s.qg[i]!).qC).length) XC rfl ?_)
  refine sp (.bool (decide ((k : Int) < (((s.qg[i]!).qC).length)))) ?_
  refine qx (t_n ?_)
  refine qW (decide ((k : Int) < (((s.qg[i]!).qC).length))) rfl (fun h132 => ?_) (fun h132 => ?_)
  ·skip
   replace h132 := of_decide_eq_true h132
   have qi := q.2.2.2.2.2.2.2.2.2.2 k (by omega)
   have qi1 := qi.1
   have bn4 := qi.2.2.1
   have ln4 := bn4.len
   refine xk (t_n (qm (xE (qm (qA ?_)))))
   refine sps [pp b26 (o27 + (i : Int).toNat * 9), pp b26 (o27 + (i : Int).toNat * 9)] ?_
   refine sw (qP b26 (o27 + (i : Int).toNat * 9) 7 Tryz.underlying110 rfl rfl Tryz.sizeOf108 rfl ?_)
   refine sw (qE (.slice ae29Into (((s.qg[i]!).qC).length) XC) Tryz.isAgg108 rfl (H.xY 7 rfl 7 rfl) ?_)
   refine sp (.int .i64 k) ?_
   obtain ⟨b133, o134, rfl⟩ := H.addr 6 rfl (by omega)
   obtain ⟨ae136Bag, ce136Bag, Fe136Bag, H⟩ := H.jT 6 rfl k k (by omega) (by omega) (by omega)
   refine sw (xK k Tryz.underlying108 ti115 rfl rfl (by omega) (by omega) ?_)
   refine sw (qP b133 (o134 + (k : Int).toNat * 2) 0 Tryz.underlying115 rfl rfl Tryz.sizeOf2 rfl ?_)
   refine sw (qE (.int .i64 ((((s.qg[i]!).qC)[k]!).qy)) Tryz.isAgg2 rfl (H.xY 1 rfl 0 rfl) ?_)
   refine sp (.int .i64 ((((s.qg[i]!).qC)[k]!).qy)) ?_
   refine qx (t_n ?_)
   refine Qa rfl H [0, 1, 2, 3, 5] fun H => ?_
   have S := H.yG [0, 1, 2, 3, 5] [0, 1, 2, 3, 4, 5, 6, 7, 8, 9, 10, 11, 12, 13, 14, 15, 16, 17, 18]
   refine rt 0 (pp b19 (0 + 1)) (xG b19 (0) 1 Tryz.underlying38 rfl rfl Tryz.sizeOf27 rfl) S ?_
   refine rt 1 (.slice (aa b35 0) ((zi s t counts (vV (yJ s t counts) counts.length)).length) rc3a) (xA Tryz.isAgg27 rfl (fun _ h => h.cell 0 rfl rfl)) S ?_
   refine rtp 2 (.int .i64 ((((s.qg[i]!).qC)[k]!).qy)) S ?_
   refine rt 3 (pp b19 (0 + 1)) (xG b19 (0) 1 Tryz.underlying38 rfl rfl Tryz.sizeOf27 rfl) S ?_
   refine rt 4 (.slice (aa b35 0) ((zi s t counts (vV (yJ s t counts) counts.length)).length) rc3a) (xA Tryz.isAgg27 rfl (fun _ h => h.cell 0 rfl rfl)) S ?_
   refine rtp 5 (.int .i64 ((((s.qg[i]!).qC)[k]!).qy)) S ?_
   refine rt 6 (pp b35 (0 + ((((s.qg[i]!).qC)[k]!).qy : Int).toNat * 1)) (xO b35 (0) ((zi s t counts (vV (yJ s t counts) counts.length)).length) rc3a ((((s.qg[i]!).qC)[k]!).qy) Tryz.underlying27 ti22 rfl rfl (by omega) (by omega)) S ?_
   refine rtp 8 (pp b26 (o27 + (i : Int).toNat * 9)) S ?_
   refine rtp 9 (pp b26 (o27 + (i : Int).toNat * 9)) S ?_
   refine rt 10 (pp b26 (o27 + (i : Int).toNat * 9 + 7)) (xG b26 (o27 + (i : Int).toNat * 9) 7 Tryz.underlying110 rfl rfl Tryz.sizeOf108 rfl) S ?_
   refine rt 11 (.slice (aa b133 o134) (((s.qg[i]!).qC).length) XC) (xA Tryz.isAgg108 rfl (fun _ h => h.xY 9 rfl 7 rfl)) S ?_
   refine rtp 12 (.int .i64 k) S ?_
   refine rt 13 (pp b133 (o134 + (k : Int).toNat * 2)) (xO b133 (o134) (((s.qg[i]!).qC).length) XC k Tryz.underlying108 ti115 rfl rfl (by omega) (by omega)) S ?_
   refine rt 14 (pp b133 (o134 + (k : Int).toNat * 2 + 1)) (xG b133 (o134 + (k : Int).toNat * 2) 1 Tryz.underlying115 rfl rfl Tryz.sizeOf22 rfl) S ?_
   refine rt 15 (.slice ae136Bag (((((s.qg[i]!).qC)[k]!).vH).length) ce136Bag) (xA Tryz.isAgg22 rfl (fun _ h => h.xY 1 rfl 1 rfl)) S ?_
   refine rtp 16 (.slice (aa b30 o31) counts.length ccounts) S ?_
   refine rtp 17 (.int .i64 i) S ?_
   refine rt 18 (pp b30 (o31 + (i : Int).toNat * 1)) (xO b30 (o31) counts.length ccounts i Tryz.underlying22 ti2 rfl rfl (by omega) (by omega)) S ?_
   refine rt 19 (.int .i64 (counts[i]!)) (xA Tryz.isAgg2 rfl (fun _ h => h.jq 18 rfl i (by omega) (by omega))) S ?_
   refine xq [7] (by kernel_rfl) (by simp) (xZ rfl ?_ xu)
   obtain ⟨a138, c139, G140, s141, h142, H⟩ := H.jg 4 rfl 2 rfl (iv := (((s.qg[i]!).qC)[k]!).qy) (((((s.qg[i]!).qC)[k]!).qy).toNat) (by omega) (by omega)
   refine qE (.slice a138 ((out_Bags[((((s.qg[i]!).qC)[k]!).qy).toNat]!).length) c139) Tryz.isAgg22 rfl (h142) ?_
   refine ⟨H.pick [0, 1, 2, 3, 5] [1, 2, 3, 4, 5, 6, 7, 8, 9, 10, 11, 12, 13, 14, 15, 16, 17, 18, 19], ?_⟩
   refine xq [20] (by kernel_rfl) (by simp) (xZ rfl ?_ xu)
   obtain ⟨u1, u2⟩ := Ent.rowL E_out_Bags (c := ((((s.qg[i]!).qC)[k]!).qy).toNat) (by omega) (by omega) (by omega) (by omega)
   have u4 := (by first | exact bn2.yK (by omega) | exact bn3.yK (by omega) | exact bn4.yK (by omega) : SmallT ((((s.qg[i]!).qC)[k]!).vH) (counts[i]!))
   have sz143 := H.base.size
   have lt144 := H.ltN (L := [yx, xU]) [11, 3]
   refine qZ #[.slice a138 ((out_Bags[((((s.qg[i]!).qC)[k]!).qy).toNat]!).length) c139, .slice ae136Bag (((((s.qg[i]!).qC)[k]!).vH).length) ce136Bag, .int .i64 (counts[i]!)] rfl rfl Tryz.call88 (XQ w131.drew (out_Bags[((((s.qg[i]!).qC)[k]!).qy).toNat]!) ((((s.qg[i]!).qC)[k]!).vH) (counts[i]!) a138 c139 G140 ae136Bag ce136Bag Fe136Bag (H.get 0 rfl).1 (H.get 1 rfl).1 (by first | assumption | omega) (by first | assumption | omega) (by first | assumption | omega)) ?_
   rintro v148 w146 r148 x147
   replace H := H.zJ x147 r148
   obtain ⟨a149, c150, rfl, hc151, hm152⟩ := H.jv 0 rfl
   refine ⟨H.pick [1, 2, 3, 4, 6] [1, 2, 3, 4, 5, 6, 7, 8, 9, 10, 11, 12, 13, 14, 15, 16, 17, 18, 19], ?_⟩
   refine rt 21 (pp b35 (0 + ((((s.qg[i]!).qC)[k]!).qy : Int).toNat * 1)) (xO b35 (0) ((zi s t counts (vV (yJ s t counts) counts.length)).length) rc3a ((((s.qg[i]!).qC)[k]!).qy) Tryz.underlying27 ti22 rfl rfl (by omega) (by omega)) (H.pick [1, 2, 3, 4, 6] [1, 2, 3, 4, 5, 6, 7, 8, 9, 10, 11, 12, 13, 14, 15, 16, 17, 18, 19]) ?_
   refine xq [22] (by kernel_rfl) (by simp) (xZ rfl ?_ xu)
   obtain ⟨G154, N, hn155, H⟩ := H.yU 0 rfl N (H.Vg [11, 3])
   try dsimp only [List.set] at H
   refine jJ true H 5 rfl 4 rfl (.slice a149 ((yM (out_Bags[((((s.qg[i]!).qC)[k]!).qy).toNat]!) ((((s.qg[i]!).qC)[k]!).vH) (counts[i]!)).length) c150) 0 rfl rfl Tryz.sizeOf22 rfl rfl (i := (((((s.qg[i]!).qC)[k]!).qy).toNat)) (by omega) (by omega) (by simp) fun w153 xs156 F157 hs158 H => ?_
   replace N : Fresh w.heap.size [F157, yx] := (N.pick [2, 0, 1]).repl hs158
   try dsimp only [List.set] at H
   refine ⟨H.pick [1, 2, 3, 4, 6] [3, 4, 5, 6, 7, 8, 9, 10, 11, 12, 13, 14, 15, 16, 17, 18, 19, 20, 21], ?_⟩
   refine xN (by kernel_rfl) (b_n (t_n ?_))
   refine qA ?_
   refine sp (.int .i64 k) ?_
   refine sw (zZ k 1 rfl rfl (by omega) ?_)
   refine sp (.int .i64 (k + 1)) ?_
   refine qx ?_
   obtain ⟨bg159, e_bg159⟩ : ∃ z, z = (out_Bags.set (((((s.qg[i]!).qC)[k]!).qy).toNat) (yM (out_Bags[((((s.qg[i]!).qC)[k]!).qy).toNat]!) ((((s.qg[i]!).qC)[k]!).vH) (counts[i]!))) := ⟨_, rfl⟩
   rw [← e_bg159] at H
   have E_bg159 := Ent.addL (D := 1000000) E_out_Bags e_bg159 (by omega) (by omega) (by first | exact bn2.mul (by omega) | exact bn3.mul (by omega) | exact bn4.mul (by omega)) (by omega)
   have z_bg159 : bg159.length = s.qf.length := by rw [e_bg159, List.length_set]; omega
   have E_cur := E_bg159
   refine xH (m' := ((((s.qg[i]!).qC).length) - ((k + 1) : Int)).toNat) (by omega) ⟨_, k + 1, bg159, xs156, F157, (by exact qj (qj (qj (qj (qj (qj (qj (qj (rfl) rfl) rfl) rfl) rfl) rfl) rfl) rfl) rfl), ?_, ?_, ?_, rfl, (N.pick [1, 0]), H.pick [1, 2, 3, 4, 5, 6] [0, 6, 7, 8, 9, 10, 11, 12, 13, 14, 15, 16, 17, 18, 19, 20, 21]⟩
   · omega
   · exact E_cur.to (fun p q => by simp only [intoF]; omega) (by omega)
   · omega
  replace h132 := of_decide_eq_false h132
  refine zK (t_x (t_x (b_x (b_n (t_n (qA ?_))))))
  refine sp (.int .i64 i) ?_
  refine sw (zZ i 1 rfl rfl (by omega) ?_)
  refine sp (.int .i64 (i + 1)) ?_
  refine qx ?_
  refine xH (m' := (counts.length - ((i + 1) : Int)).toNat) (by omega) ⟨_, i + 1, vC, zM, vz, out_Around, out_Bags, zA, xU, (by exact qj (qj (qj (qj (qj (qj (rfl) rfl) rfl) rfl) rfl) rfl) rfl), ?_, ?_, ?_, rfl, N, H.pick [0, 1, 2, 3, 4, 5] [8, 0, 9, 10, 11, 12, 13, 14, 15, 16]⟩
  · omega
  · first | exact E_rest.to (fun p q => by simp only [putS_skip (s := s) (t := t) (counts := counts) (i := i) ‹_›]) (by omega) | exact E_out_Bags.to (fun p q => by rw [show k = ((s.qg[i]!).qC).length by omega]; simp only [putS, putF]; omega) (by omega)
  · omega
 replace h25 := of_decide_eq_false h25
 refine zK (t_x (t_x (b_x (t_n (qm (qm (qA ?_)))))))
 refine sps [pp bs os, pp bs os] ?_
 refine sw (qP bs (os) 1 Tryz.underlying36 rfl rfl Tryz.sizeOf22 rfl ?_)
 refine sw (qE (.slice qw s.qf.length qo) Tryz.isAgg22 rfl (H.xY 2 rfl 1 rfl) ?_)
 refine sw (zX Tryz.underlying22 qw s.qf.length qo rfl ?_)
 refine sw (o_sub s.qf.length 1 rfl rfl (by omega) ?_)
 refine sp (.int .i64 (s.qf.length - 1)) ?_
 refine qx (t_n (xE ?_))
 obtain rfl : i = s.qg.length := by omega
 have hl := stepped_live (counts := counts) p1 (E_rest.to (g := fun p k => base0 s t p k + allS s t counts s.qg.length p k) (fun p k => by rw [allS_eq]; omega) (Int.le_refl _)) (by omega)
 obtain ⟨s1, s2⟩ := step_tab2 (by omega) E_rest
 subst s1 s2
 refine zU (fun m' ρ w160 => ∃ (junk : Env) (c : Int) (out_Alive : List Bool) (out_Bags : List (List Int)) (zA : List Value) (xU : List Nat) (j : Nat), ρ = upd (upd (upd (upd (upd junk 0 (pp bs os)) 2 (.slice acounts counts.length ccounts)) 6 (pp b1 0)) 10 (pp b19 0)) 16 (.int .i64 c) ∧ out_Alive = (xe s counts (stepped s t counts) j).qh ∧ out_Bags = (xe s counts (stepped s t counts) j).qp ∧ (c = (s.qf.length : Int) - 1 - j) ∧ (j + 1 ≤ s.qf.length) ∧ m' = (c : Int).toNat ∧ Fresh w.heap.size [yx, xU] ∧ St w w160 [.box b19 [.slice jY t.qh.length jX, .slice ra3a ((zi s t counts (vV (yJ s t counts) counts.length)).length) rc3a, .slice vC zM vz] 38, .row (.slice jY t.qh.length jX) 4 1 t.qh.length (out_Alive.map (Value.bool)), .row (.slice ra11Bags t.qp.length rc11Bags) 22 1 t.qp.length Vk, .row (.slice vC zM vz) 2 1 zM (((stepped s t counts).ql).map (Value.int .i64)), .row (.slice ra3a ((zi s t counts (vV (yJ s t counts) counts.length)).length) rc3a) 22 1 ((zi s t counts (vV (yJ s t counts) counts.length)).length) zA, .box b1 [.slice none 0 0, .slice none 0 0, .slice none 0 0] 38] [vX true yx Vk t.qp, vX true xU zA out_Bags, atF bs os [.int .i64 s.qJ, .slice qw s.qf.length qo, .slice qF s.qg.length qB], isF false qO (.slice qw s.qf.length qo) s.qf, isF false xw (.slice qF s.qg.length qB) s.qg, isF false Fcounts (.slice acounts counts.length ccounts) counts]) (((s.qf.length - 1) : Int).toNat) ⟨_, s.qf.length - 1, t.qh, (stepped s t counts).qp, XX, Vj, 0, (by exact qj (qj (qj (qj (qj (rfl) rfl) rfl) rfl) rfl) rfl), (by rfl), (by rfl), (by omega), (by omega), rfl, N, H.pick [0, 1, 2, 3, 4, 5] [0, 1, 2, 3, 4, 9]⟩ ?_
 clear H N
 rintro m' ρ w161 ⟨junk, c, out_Alive, out_Bags, zA, xU, j, rfl, rfl, rfl, ic, jc, rfl, N, H⟩
 have hn_out_Alive := H.QA 1 rfl
 have Vp := H.zt (α := List Int) 4 rfl 1 rfl (by decide)
 have L := meltDown_live (counts := counts) p0 hl j (by omega)
 have L1 := L.alive
 have L2 := L.root
 have L3 := L.bags.1
 rw [← Qr s counts (stepped s t counts) j] at H
 refine qm (qm (qA ?_))
 refine sps [.int .i64 c, .bool (decide ((c : Int) > 0))] ?_
 refine qx (t_n ?_)
 refine qW (decide ((c : Int) > 0)) rfl (fun h162 => ?_) (fun h162 => ?_)
 ·skip
  replace h162 := of_decide_eq_true h162
  have cin : CellIn s c := ⟨by omega, by omega⟩
  refine xk (t_n (qm (xE (qm (qA ?_)))))
  refine sp (.bool false) ?_
  refine qx (t_n (qm (qm (qA ?_))))
  refine sp (.int .i64 0) ?_
  refine qx (t_n (xE ?_))
  refine zU (fun m' ρ w163 => ∃ (junk : Env) (melts : Bool) (i_1 : Nat), ρ = upd (upd (upd (upd (upd (upd (upd junk 0 (pp bs os)) 2 (.slice acounts counts.length ccounts)) 6 (pp b1 0)) 10 (pp b19 0)) 16 (.int .i64 c)) 17 (.bool melts)) 18 (.int .i64 i_1) ∧ melts = dec (QU s counts c i_1) ∧ ((i_1 : Int) ≤ counts.length) ∧ m' = (counts.length - (i_1 : Int)).toNat ∧ Fresh w.heap.size [yx, xU] ∧ St w w163 [.box b19 [.slice jY t.qh.length jX, .slice ra3a ((zi s t counts (vV (yJ s t counts) counts.length)).length) rc3a, .slice vC zM vz] 38, .row (.slice jY t.qh.length jX) 4 1 t.qh.length (((xe s counts (stepped s t counts) j).qh).map (Value.bool)), .row (.slice ra11Bags t.qp.length rc11Bags) 22 1 t.qp.length Vk, .row (.slice vC zM vz) 2 1 zM (((xe s counts (stepped s t counts) j).ql).map (Value.int .i64)), .row (.slice ra3a ((zi s t counts (vV (yJ s t counts) counts.length)).length) rc3a) 22 1 ((zi s t counts (vV (yJ s t counts) counts.length)).length) zA, .box b1 [.slice none 0 0, .slice none 0 0, .slice none 0 0] 38] [vX true yx Vk t.qp, vX true xU zA ((xe s counts (stepped s t counts) j).qp), atF bs os [.int .i64 s.qJ, .slice qw s.qf.length qo, .slice qF s.qg.length qB], isF false qO (.slice qw s.qf.length qo) s.qf, isF false xw (.slice qF s.qg.length qB) s.qg, isF false Fcounts (.slice acounts counts.length ccounts) counts]) ((counts.length - (0 : Int)).toNat) ⟨_, false, 0, (by exact qj (qj (qj (qj (qj (qj (qj (rfl) rfl) rfl) rfl) rfl) rfl) rfl) rfl), (by exact (xy (melts_zero _ _ _)).symm), (by omega), rfl, N, H⟩ ?_
  clear H N
  rintro m' ρ w164 ⟨junk, melts, i_1, rfl, rfl, i0, rfl, N, H⟩
  refine qm (qm (qA ?_))
  refine sps [.int .i64 i_1, .slice acounts counts.length ccounts] ?_
  refine sw (zX Tryz.underlying22 acounts counts.length ccounts rfl ?_)
  refine sp (.bool (decide ((i_1 : Int) < counts.length))) ?_
  refine qx (t_n ?_)
  refine qW (decide ((i_1 : Int) < counts.length)) rfl (fun h165 => ?_) (fun h165 => ?_)
  ·skip
   replace h165 := of_decide_eq_true h165
   refine xk (t_n (qm (xE (qA ?_))))
   refine sps [.bool (dec (QU s counts c i_1)), .bool (dec (QU s counts c i_1))] ?_
   cases h166 : ((dec (QU s counts c i_1)))
   ·skip
    refine qQ 172 rfl rfl ?_
    refine sp (.slice acounts counts.length ccounts) ?_
    refine qQ 172 rfl rfl ?_
    refine sp (.int .i64 i_1) ?_
    refine qQ 172 rfl rfl ?_
    obtain ⟨b167, o168, rfl⟩ := H.addr 5 rfl (by omega)
    refine sw (xK i_1 Tryz.underlying22 ti2 rfl rfl (by omega) (by omega) ?_)
    refine qQ 172 rfl rfl ?_
    refine sw (qE (.int .i64 (counts[i_1]!)) Tryz.isAgg2 rfl (H.jq 5 rfl i_1 (by omega) (by omega)) ?_)
    refine qQ 172 rfl rfl ?_
    refine sp (.bool (decide ((counts[i_1]! : Int) > 0))) ?_
    refine qQ 172 rfl rfl ?_
    refine sp (.bool (decide ((counts[i_1]! : Int) > 0))) ?_
    cases h170 : (decide ((counts[i_1]! : Int) > 0))
    ·skip
     replace h170 := of_decide_eq_false h170
     refine zf [179, 180, 181, 182, 183, 184, 185, 186] ?_
     refine qQ 172 rfl rfl ?_
     refine sp (.bool false) ?_
     refine qQ 172 rfl rfl ?_
     refine sp (.bool false) ?_
     refine zf [189, 190, 191, 192, 193, 194, 195, 196, 197, 198] ?_
     refine qQ 172 rfl rfl ?_
     refine sps [.bool false, .bool false, .bool false] ?_
     refine qx (b_n (t_n (qA ?_)))
     refine sp (.int .i64 i_1) ?_
     refine sw (zZ i_1 1 rfl rfl (by omega) ?_)
     refine sp (.int .i64 (i_1 + 1)) ?_
     refine qx ?_
     refine xH (m' := (counts.length - ((i_1 + 1) : Int)).toNat) (by omega) ⟨_, false, i_1 + 1, (by exact qj (qj (qj (qj (qj (qj (qj (rfl) rfl) rfl) rfl) rfl) rfl) rfl) rfl), ?_, ?_, rfl, N, H⟩
     · first | exact melts_1 ‹_› | exact melts_2 ‹_› (by omega) | exact melts_3 ‹_› ‹_› | exact melts_4 ‹_› (by omega) ‹_›
     · omega
    replace h170 := of_decide_eq_true h170
    refine qQ 178 rfl rfl ?_
    refine sp (pp bs os) ?_
    refine qQ 178 rfl rfl ?_
    refine sp (pp bs os) ?_
    refine qQ 178 rfl rfl ?_
    refine sw (qP bs (os) 2 Tryz.underlying36 rfl rfl Tryz.sizeOf34 rfl ?_)
    refine qQ 178 rfl rfl ?_
    refine sw (qE (.slice qF s.qg.length qB) Tryz.isAgg34 rfl (H.xY 2 rfl 2 rfl) ?_)
    refine qQ 178 rfl rfl ?_
    refine sp (.int .i64 i_1) ?_
    refine qQ 178 rfl rfl ?_
    obtain ⟨b171, o172, rfl⟩ := H.addr 4 rfl (by omega)
    obtain ⟨ae174Need, ce174Need, Fe174Need, ae174Have, ce174Have, Fe174Have, ae174Lack, ce174Lack, Fe174Lack, ae174Here, ce174Here, Fe174Here, ae174Out, ce174Out, Fe174Out, ae174Into, ce174Into, Fe174Into, H⟩ := H.yB 4 rfl i_1 i_1 (by omega) (by omega) (by omega)
    refine sw (xK i_1 Tryz.underlying34 ti110 rfl rfl (by omega) (by omega) ?_)
    refine qQ 178 rfl rfl ?_
    refine sw (qP b171 (o172 + (i_1 : Int).toNat * 9) 8 Tryz.underlying110 rfl rfl Tryz.sizeOf4 rfl ?_)
    refine qQ 178 rfl rfl ?_
    refine sw (qE (.bool ((s.qg[i_1]!).xQ)) Tryz.isAgg4 rfl (H.xY 6 rfl 8 rfl) ?_)
    refine qQ 172 rfl rfl ?_
    refine sp (.bool ((s.qg[i_1]!).xQ)) ?_
    refine qQ 172 rfl rfl ?_
    refine sp (.bool ((s.qg[i_1]!).xQ)) ?_
    cases h175 : ((s.qg[i_1]!).xQ)
    ·skip
     rw [h175] at H
     refine zf [189, 190, 191, 192, 193, 194, 195, 196, 197, 198] ?_
     refine qQ 172 rfl rfl ?_
     refine sps [.bool false, .bool false, .bool false] ?_
     refine qx (b_n (t_n (qA ?_)))
     refine sp (.int .i64 i_1) ?_
     refine sw (zZ i_1 1 rfl rfl (by omega) ?_)
     refine sp (.int .i64 (i_1 + 1)) ?_
     refine qx ?_
     refine xH (m' := (counts.length - ((i_1 + 1) : Int)).toNat) (by omega) ⟨_, false, i_1 + 1, (by exact qj (qj (qj (qj (qj (qj (qj (rfl) rfl) rfl) rfl) rfl) rfl) rfl) rfl), ?_, ?_, rfl, N, H.pick [0, 1, 2, 3, 4, 5] [7, 8, 9, 10, 11, 12]⟩
     · first | exact melts_1 ‹_› | exact melts_2 ‹_› (by omega) | exact melts_3 ‹_› ‹_› | exact melts_4 ‹_› (by omega) ‹_›
     · omega
    rw [h175] at H
    refine qQ 188 rfl rfl ?_
    refine sp (pp bs os) ?_
    refine qQ 188 rfl rfl ?_
    refine sp (pp bs os) ?_
    refine qQ 188 rfl rfl ?_
    refine sw (qP bs (os) 2 Tryz.underlying36 rfl rfl Tryz.sizeOf34 rfl ?_)
    refine qQ 188 rfl rfl ?_
    refine sw (qE (.slice (aa b171 o172) s.qg.length qB) Tryz.isAgg34 rfl (H.xY 9 rfl 2 rfl) ?_)
    refine qQ 188 rfl rfl ?_
    refine sp (.int .i64 i_1) ?_
    refine qQ 188 rfl rfl ?_
    refine sw (xK i_1 Tryz.underlying34 ti110 rfl rfl (by omega) (by omega) ?_)
    refine qQ 188 rfl rfl ?_
    refine sw (qP b171 (o172 + (i_1 : Int).toNat * 9) 0 Tryz.underlying110 rfl rfl Tryz.sizeOf2 rfl ?_)
    refine qQ 188 rfl rfl ?_
    refine sw (qE (.int .i64 ((s.qg[i_1]!).qy)) Tryz.isAgg2 rfl (H.xY 6 rfl 0 rfl) ?_)
    refine qQ 188 rfl rfl ?_
    refine sp (.int .i64 c) ?_
    refine qQ 188 rfl rfl ?_
    refine sp (.bool (((s.qg[i_1]!).qy : Int) == c)) ?_
    refine qQ 172 rfl rfl ?_
    refine sps [.bool (((s.qg[i_1]!).qy : Int) == c), .bool (((s.qg[i_1]!).qy : Int) == c), .bool (((s.qg[i_1]!).qy : Int) == c)] ?_
    refine qx (b_n (t_n (qA ?_)))
    refine sp (.int .i64 i_1) ?_
    refine sw (zZ i_1 1 rfl rfl (by omega) ?_)
    refine sp (.int .i64 (i_1 + 1)) ?_
    refine qx ?_
    refine xH (m' := (counts.length - ((i_1 + 1) : Int)).toNat) (by omega) ⟨_, ((s.qg[i_1]!).qy : Int) == c, i_1 + 1, (by exact qj (qj (qj (qj (qj (qj (qj (rfl) rfl) rfl) rfl) rfl) rfl) rfl) rfl), ?_, ?_, rfl, N, H.pick [0, 1, 2, 3, 4, 5] [7, 8, 9, 10, 11, 12]⟩
    · first | exact melts_1 ‹_› | exact melts_2 ‹_› (by omega) | exact melts_3 ‹_› ‹_› | exact melts_4 ‹_› (by omega) ‹_›
    · omega
   refine zf [173, 174, 175, 176, 177, 178, 179, 180, 181, 182, 183, 184, 185, 186, 187, 188, 189, 190, 191, 192, 193, 194, 195, 196, 197, 198, 199] ?_
   refine sps [.bool true, .bool true] ?_
   refine qx (b_n (t_n (qA ?_)))
   refine sp (.int .i64 i_1) ?_
   refine sw (zZ i_1 1 rfl rfl (by omega) ?_)
   refine sp (.int .i64 (i_1 + 1)) ?_
   refine qx ?_
   refine xH (m' := (counts.length - ((i_1 + 1) : Int)).toNat) (by omega) ⟨_, true, i_1 + 1, (by exact qj (qj (qj (qj (qj (qj (qj (rfl) rfl) rfl) rfl) rfl) rfl) rfl) rfl), ?_, ?_, rfl, N, H⟩
   · first | exact melts_1 ‹_› | exact melts_2 ‹_› (by omega) | exact melts_3 ‹_› ‹_› | exact melts_4 ‹_› (by omega) ‹_›
   · omega
  replace h165 := of_decide_eq_false h165
  refine zK (t_x (t_x (b_x (t_n (qm (qA ?_))))))
  refine sp (.bool (dec (QU s counts c i_1))) ?_
  refine qx (t_n ?_)
  refine qW ((dec (QU s counts c i_1))) rfl (fun h176 => ?_) (fun h176 => ?_)
  ·skip
   refine qA ?_
   refine sps [pp bs os, .int .i64 c] ?_
   refine sw (yS #[pp bs os, pp b19 0, .int .i64 c] rfl rfl Tryz.call108 ?_)
   refine enter (n := 49) Tryz.func108 rfl Tryz.ntmps108 (Nat.le_of_ble_eq_true rfl) ?_
   refine qm (qA ?_)
   refine sps [pp bs os, pp b19 0, .int .i64 c] ?_
   obtain ⟨G177, hn178, h179⟩ := H.rowIsB 1 rfl
   obtain ⟨G180, hn181, h182⟩ := H.QW (α := List Int) 4 rfl 1 rfl (by decide)
   obtain ⟨G183, hn184, h185⟩ := H.rowIsI 3 rfl
   refine sw (qZ #[pp bs os, pp b19 0, .int .i64 c] rfl rfl Tryz.call107 (l02Parent_ok w164 s (xe s counts (stepped s t counts) j) c bs os qw qo qO qF qB xw b19 0 jY jX G177 ra3a rc3a G180 vC vz G183 (qH (H.get 2 rfl) 0 3) (H.get 3 rfl).1 (H.get 4 rfl).1 (by have hz := (qH (H.cells 0 rfl) 0 3); rw [hn178, hn181, hn184] at hz; exact hz) (hn178 ▸ h179) (hn181 ▸ h182) (hn184 ▸ h185) (by assumption) (by assumption) (by assumption)) ?_)
   rintro _ w186 rfl x187
   replace H := H.ext x187
   have pin := Vw (s := s) (t := (xe s counts (stepped s t counts) j)) (c := c) p0.1 L2 (by omega) (by omega)
   refine sp (.int .i64 (xf s (xe s counts (stepped s t counts) j) c)) ?_
   refine qx (t_n (qm ?_))
   obtain ⟨b188, rfl⟩ := H.Xa 4 rfl (by omega)
   refine c_cut (fun ρ w189 => ∃ (junk : Env) (xs190 : List Value) (F191 : List Nat), ρ = upd (upd (upd junk 0 (pp bs os)) 1 (pp b19 0)) 2 (.int .i64 c) ∧ Fresh w.heap.size [F191, yx] ∧ St w w189 [.box b19 [.slice jY t.qh.length jX, .slice (aa b188 0) ((zi s t counts (vV (yJ s t counts) counts.length)).length) rc3a, .slice vC zM vz] 38, .row (.slice jY t.qh.length jX) 4 1 t.qh.length (((xe s counts (stepped s t counts) j).qh).map (Value.bool)), .row (.slice ra11Bags t.qp.length rc11Bags) 22 1 t.qp.length Vk, .row (.slice vC zM vz) 2 1 zM (((xe s counts (stepped s t counts) j).ql).map (Value.int .i64)), .row (.slice (aa b188 0) ((zi s t counts (vV (yJ s t counts) counts.length)).length) rc3a) 22 1 ((zi s t counts (vV (yJ s t counts) counts.length)).length) xs190, .box b1 [.slice none 0 0, .slice none 0 0, .slice none 0 0] 38] [vX true F191 xs190 (((xe s counts (stepped s t counts) j).qp).set ((xf s (xe s counts (stepped s t counts) j) c).toNat) (yM (((xe s counts (stepped s t counts) j).qp)[(xf s (xe s counts (stepped s t counts) j) c).toNat]!) (((xe s counts (stepped s t counts) j).qp)[c.toNat]!) 1)), vX true yx Vk t.qp, atF bs os [.int .i64 s.qJ, .slice qw s.qf.length qo, .slice qF s.qg.length qB], isF false qO (.slice qw s.qf.length qo) s.qf, isF false xw (.slice qF s.qg.length qB) s.qg, isF false Fcounts (.slice acounts counts.length ccounts) counts]) ?_ ?_
   ·skip
    refine Qa rfl H [0, 1, 2, 3, 5] fun H => ?_
    have S := H.yG [0, 1, 2, 3, 5] [0, 1, 2, 3, 4, 5]
    refine rtp 0 (pp b19 0) S ?_
    refine rtp 1 (pp b19 0) S ?_
    refine rt 2 (pp b19 (0 + 1)) (xG b19 (0) 1 Tryz.underlying38 rfl rfl Tryz.sizeOf27 rfl) S ?_
    refine rt 3 (.slice (aa b188 0) ((zi s t counts (vV (yJ s t counts) counts.length)).length) rc3a) (xA Tryz.isAgg27 rfl (fun _ h => h.cell 0 rfl rfl)) S ?_
    refine rtp 4 (.int .i64 (xf s (xe s counts (stepped s t counts) j) c)) S ?_
    refine rtp 5 (pp b19 0) S ?_
    refine rtp 6 (pp b19 0) S ?_
    refine rt 7 (pp b19 (0 + 1)) (xG b19 (0) 1 Tryz.underlying38 rfl rfl Tryz.sizeOf27 rfl) S ?_
    refine rt 8 (.slice (aa b188 0) ((zi s t counts (vV (yJ s t counts) counts.length)).length) rc3a) (xA Tryz.isAgg27 rfl (fun _ h => h.cell 0 rfl rfl)) S ?_
    refine rtp 9 (.int .i64 (xf s (xe s counts (stepped s t counts) j) c)) S ?_
    refine rt 10 (pp b188 (0 + (xf s (xe s counts (stepped s t counts) j) c : Int).toNat * 1)) (xO b188 (0) ((zi s t counts (vV (yJ s t counts) counts.length)).length) rc3a (xf s (xe s counts (stepped s t counts) j) c) Tryz.underlying27 ti22 rfl rfl (by omega) (by omega)) S ?_
    refine rtp 12 (pp b19 0) S ?_
    refine rtp 13 (pp b19 0) S ?_
    refine rt 14 (pp b19 (0 + 1)) (xG b19 (0) 1 Tryz.underlying38 rfl rfl Tryz.sizeOf27 rfl) S ?_
    refine rt 15 (.slice (aa b188 0) ((zi s t counts (vV (yJ s t counts) counts.length)).length) rc3a) (xA Tryz.isAgg27 rfl (fun _ h => h.cell 0 rfl rfl)) S ?_
    refine rtp 16 (.int .i64 c) S ?_
    refine rt 17 (pp b188 (0 + (c : Int).toNat * 1)) (xO b188 (0) ((zi s t counts (vV (yJ s t counts) counts.length)).length) rc3a c Tryz.underlying27 ti22 rfl rfl (by omega) (by omega)) S ?_
    refine xq [11, 18] (by kernel_rfl) (by simp) (xZ rfl ?_ (xZ rfl ?_ xu))
    ·skip
     obtain ⟨a193, c194, G195, s196, h197, H⟩ := H.jg 4 rfl 1 rfl (iv := xf s (xe s counts (stepped s t counts) j) c) ((xf s (xe s counts (stepped s t counts) j) c).toNat) (by omega) (by omega)
     refine qE (.slice a193 ((((xe s counts (stepped s t counts) j).qp)[(xf s (xe s counts (stepped s t counts) j) c).toNat]!).length) c194) Tryz.isAgg22 rfl (h197) ?_
     refine ⟨H.pick [0, 1, 2, 3, 5] [1, 2, 3, 4, 5, 6], ?_⟩
     refine xq [18] (by kernel_rfl) (by simp) (xZ rfl ?_ xu)
     obtain ⟨a198, c199, G200, s201, h202, H⟩ := H.jg 4 rfl 2 rfl (iv := c) c.toNat (by omega) (by omega)
     refine qE (.slice a198 ((((xe s counts (stepped s t counts) j).qp)[c.toNat]!).length) c199) Tryz.isAgg22 rfl (h202) ?_
     refine ⟨H.pick [0, 1, 2, 3, 5] [2, 3, 4, 5, 6, 7], ?_⟩
     refine xq [19] (by kernel_rfl) (by simp) (xZ rfl ?_ xu)
     obtain ⟨u1, u2, u4⟩ := L.rows p0 (bnd_le (by omega)) (p := (xf s (xe s counts (stepped s t counts) j) c).toNat) (c := c.toNat) (by omega) (by omega)
     have sz203 := H.base.size
     have lt204 := H.ltN (L := [yx, xU]) [2, 3]
     refine qZ #[.slice a193 ((((xe s counts (stepped s t counts) j).qp)[(xf s (xe s counts (stepped s t counts) j) c).toNat]!).length) c194, .slice a198 ((((xe s counts (stepped s t counts) j).qp)[c.toNat]!).length) c199, .int .i64 1] rfl rfl Tryz.call88 (XQ w186.drew (((xe s counts (stepped s t counts) j).qp)[(xf s (xe s counts (stepped s t counts) j) c).toNat]!) (((xe s counts (stepped s t counts) j).qp)[c.toNat]!) 1 a193 c194 G195 a198 c199 G200 (H.get 1 rfl).1 (H.get 0 rfl).1 (by first | assumption | omega) (by first | assumption | omega) (by first | assumption | omega)) ?_
     rintro v208 w206 r208 x207
     replace H := H.zJ x207 r208
     obtain ⟨a209, c210, rfl, hc211, hm212⟩ := H.jv 0 rfl
     refine ⟨H.pick [1, 2, 3, 4, 6] [2, 3, 4, 5, 6, 7], ?_⟩
     refine rt 20 (pp b188 (0 + (xf s (xe s counts (stepped s t counts) j) c : Int).toNat * 1)) (xO b188 (0) ((zi s t counts (vV (yJ s t counts) counts.length)).length) rc3a (xf s (xe s counts (stepped s t counts) j) c) Tryz.underlying27 ti22 rfl rfl (by omega) (by omega)) (H.pick [1, 2, 3, 4, 6] [2, 3, 4, 5, 6, 7]) ?_
     refine xq [21] (by kernel_rfl) (by simp) (xZ rfl ?_ xu)
     obtain ⟨G214, N, hn215, H⟩ := H.yU 0 rfl N (H.Vg [2, 3])
     try dsimp only [List.set] at H
     refine jJ true H 5 rfl 4 rfl (.slice a209 ((yM (((xe s counts (stepped s t counts) j).qp)[(xf s (xe s counts (stepped s t counts) j) c).toNat]!) (((xe s counts (stepped s t counts) j).qp)[c.toNat]!) 1).length) c210) 0 rfl rfl Tryz.sizeOf22 rfl rfl (i := ((xf s (xe s counts (stepped s t counts) j) c).toNat)) (by omega) (by omega) (by simp) fun w213 xs216 F217 hs218 H => ?_
     replace N : Fresh w.heap.size [F217, yx] := (N.pick [2, 0, 1]).repl hs218
     try dsimp only [List.set] at H
     refine ⟨H.pick [1, 2, 3, 4, 6] [4, 5, 6, 7, 8, 9], ?_⟩
     refine xN (by kernel_rfl) (?_)
     exact meet ⟨_, xs216, F217, (by exact qj (qj (qj (rfl) rfl) rfl) rfl), N, H.pick [1, 2, 3, 4, 5, 6] [0, 4, 6, 7, 8, 9]⟩
    obtain ⟨a219, c220, G221, s222, h223, H⟩ := H.jg 4 rfl 1 rfl (iv := c) c.toNat (by omega) (by omega)
    refine qE (.slice a219 ((((xe s counts (stepped s t counts) j).qp)[c.toNat]!).length) c220) Tryz.isAgg22 rfl (h223) ?_
    refine ⟨H.pick [0, 1, 2, 3, 5] [1, 2, 3, 4, 5, 6], ?_⟩
    refine xq [11] (by kernel_rfl) (by simp) (xZ rfl ?_ xu)
    obtain ⟨a224, c225, G226, s227, h228, H⟩ := H.jg 4 rfl 2 rfl (iv := xf s (xe s counts (stepped s t counts) j) c) ((xf s (xe s counts (stepped s t counts) j) c).toNat) (by omega) (by omega)
    refine qE (.slice a224 ((((xe s counts (stepped s t counts) j).qp)[(xf s (xe s counts (stepped s t counts) j) c).toNat]!).length) c225) Tryz.isAgg22 rfl (h228) ?_
    refine ⟨H.pick [0, 1, 2, 3, 5] [2, 3, 4, 5, 6, 7], ?_⟩
    refine xq [19] (by kernel_rfl) (by simp) (xZ rfl ?_ xu)
    obtain ⟨u1, u2, u4⟩ := L.rows p0 (bnd_le (by omega)) (p := (xf s (xe s counts (stepped s t counts) j) c).toNat) (c := c.toNat) (by omega) (by omega)
    have sz229 := H.base.size
    have lt230 := H.ltN (L := [yx, xU]) [2, 3]
    refine qZ #[.slice a224 ((((xe s counts (stepped s t counts) j).qp)[(xf s (xe s counts (stepped s t counts) j) c).toNat]!).length) c225, .slice a219 ((((xe s counts (stepped s t counts) j).qp)[c.toNat]!).length) c220, .int .i64 1] rfl rfl Tryz.call88 (XQ w186.drew (((xe s counts (stepped s t counts) j).qp)[(xf s (xe s counts (stepped s t counts) j) c).toNat]!) (((xe s counts (stepped s t counts) j).qp)[c.toNat]!) 1 a224 c225 G226 a219 c220 G221 (H.get 0 rfl).1 (H.get 1 rfl).1 (by first | assumption | omega) (by first | assumption | omega) (by first | assumption | omega)) ?_
    rintro v234 w232 r234 x233
    replace H := H.zJ x233 r234
    obtain ⟨a235, c236, rfl, hc237, hm238⟩ := H.jv 0 rfl
    refine ⟨H.pick [1, 2, 3, 4, 6] [2, 3, 4, 5, 6, 7], ?_⟩
    refine rt 20 (pp b188 (0 + (xf s (xe s counts (stepped s t counts) j) c : Int).toNat * 1)) (xO b188 (0) ((zi s t counts (vV (yJ s t counts) counts.length)).length) rc3a (xf s (xe s counts (stepped s t counts) j) c) Tryz.underlying27 ti22 rfl rfl (by omega) (by omega)) (H.pick [1, 2, 3, 4, 6] [2, 3, 4, 5, 6, 7]) ?_
    refine xq [21] (by kernel_rfl) (by simp) (xZ rfl ?_ xu)
    obtain ⟨G240, N, hn241, H⟩ := H.yU 0 rfl N (H.Vg [2, 3])
    try dsimp only [List.set] at H
    refine jJ true H 5 rfl 4 rfl (.slice a235 ((yM (((xe s counts (stepped s t counts) j).qp)[(xf s (xe s counts (stepped s t counts) j) c).toNat]!) (((xe s counts (stepped s t counts) j).qp)[c.toNat]!) 1).length) c236) 0 rfl rfl Tryz.sizeOf22 rfl rfl (i := ((xf s (xe s counts (stepped s t counts) j) c).toNat)) (by omega) (by omega) (by simp) fun w239 xs242 F243 hs244 H => ?_
    replace N : Fresh w.heap.size [F243, yx] := (N.pick [2, 0, 1]).repl hs244
    try dsimp only [List.set] at H
    refine ⟨H.pick [1, 2, 3, 4, 6] [4, 5, 6, 7, 8, 9], ?_⟩
    refine xN (by kernel_rfl) (?_)
    exact meet ⟨_, xs242, F243, (by exact qj (qj (qj (rfl) rfl) rfl) rfl), N, H.pick [1, 2, 3, 4, 5, 6] [0, 4, 6, 7, 8, 9]⟩
   clear H N
   rintro ρ w245 ⟨junk, xs190, F191, rfl, N, H⟩
   refine t_n (qm ?_)
   refine Qa rfl H [0, 1, 2, 3, 5] fun H => ?_
   have S := H.yG [0, 1, 2, 3, 5] [0, 1, 2, 3, 4, 5]
   refine rtp 0 (pp b19 0) S ?_
   refine rtp 1 (pp b19 0) S ?_
   refine rt 2 (pp b19 (0 + 1)) (xG b19 (0) 1 Tryz.underlying38 rfl rfl Tryz.sizeOf27 rfl) S ?_
   refine rt 3 (.slice (aa b188 0) ((zi s t counts (vV (yJ s t counts) counts.length)).length) rc3a) (xA Tryz.isAgg27 rfl (fun _ h => h.cell 0 rfl rfl)) S ?_
   refine rtp 4 (.int .i64 c) S ?_
   refine rtp 5 (pp bs os) S ?_
   refine rtp 6 (pp bs os) S ?_
   refine rt 7 (pp bs (os + 0)) (xG bs (os) 0 Tryz.underlying36 rfl rfl Tryz.sizeOf2 rfl) S ?_
   refine rt 8 (.int .i64 s.qJ) (xA Tryz.isAgg2 rfl (fun _ h => h.xY 2 rfl 0 rfl)) S ?_
   refine xq [9] (by kernel_rfl) (by simp) (xZ rfl ?_ xu)
   refine o_makeI H Tryz.underlying22 ti2 s.qJ.toNat rfl rfl (by omega) (by omega) (by omega) fun b247 w248 H => ?_
   refine ⟨H.pick [1, 2, 3, 4, 6] [0, 1, 2, 3, 4, 5], ?_⟩
   refine rt 10 (pp b188 (0 + (c : Int).toNat * 1)) (xO b188 (0) ((zi s t counts (vV (yJ s t counts) counts.length)).length) rc3a c Tryz.underlying27 ti22 rfl rfl (by omega) (by omega)) (H.pick [1, 2, 3, 4, 6] [0, 1, 2, 3, 4, 5]) ?_
   refine xq [11] (by kernel_rfl) (by simp) (xZ rfl ?_ xu)
   obtain ⟨G250, N, hn251, H⟩ := H.yU 0 rfl N (H.Vg [0, 1])
   try dsimp only [List.set] at H
   refine jJ true H 5 rfl 1 rfl (.slice (aa b247 0) s.qJ.toNat s.qJ.toNat) 0 rfl rfl Tryz.sizeOf22 rfl rfl (i := c.toNat) (by omega) (by omega) (by simp) fun w249 xs252 F253 hs254 H => ?_
   replace N : Fresh w.heap.size [F253, yx] := (N.pick [1, 0, 2]).repl hs254
   try dsimp only [List.set] at H
   refine ⟨H.pick [1, 2, 3, 4, 6] [2, 3, 4, 5, 6, 7], ?_⟩
   refine xN (by kernel_rfl) (t_n ?_)
   refine qA ?_
   refine sps [pp b19 0, pp b19 0] ?_
   refine sw (qP b19 (0) 0 Tryz.underlying38 rfl rfl Tryz.sizeOf26 rfl ?_)
   refine sw (qE (.slice jY t.qh.length jX) Tryz.isAgg26 rfl (H.cell 1 rfl rfl) ?_)
   refine sp (.int .i64 c) ?_
   obtain ⟨b255, rfl⟩ := H.Xa 2 rfl (by omega)
   refine sw (xK c Tryz.underlying26 ti4 rfl rfl (by omega) (by omega) ?_)
   refine sw (QM H 2 rfl false Tryz.sizeOf4 rfl rfl (i := c.toNat) (by omega) (by omega) fun w256 H => ?_)
   try dsimp only [List.set] at H
   refine qx ?_
   refine ret0 rfl ⟨_, rfl, ?_⟩
   replace H := H.erases [0]
   dsimp only [yV, List.eraseIdx] at H
   refine qx (b_n (t_n (qA ?_)))
   refine sp (.int .i64 c) ?_
   refine sw (o_sub c 1 rfl rfl (by omega) ?_)
   refine sp (.int .i64 (c - 1)) ?_
   refine qx ?_
   rw [Qr] at H
   refine xH (m' := ((c - 1) : Int).toNat) (by omega) ⟨_, c - 1, (((xe s counts (stepped s t counts) j).qh).set c.toNat false), ((((xe s counts (stepped s t counts) j).qp).set ((xf s (xe s counts (stepped s t counts) j) c).toNat) (yM (((xe s counts (stepped s t counts) j).qp)[(xf s (xe s counts (stepped s t counts) j) c).toNat]!) (((xe s counts (stepped s t counts) j).qp)[c.toNat]!) 1)).set c.toNat (List.replicate s.qJ.toNat (0 : Int))), xs252, F253, j + 1, (by exact qj (qj (qj (qj (qj (rfl) rfl) rfl) rfl) rfl) rfl), ?_, ?_, ?_, ?_, rfl, (N.pick [1, 0]), H.pick [0, 1, 2, 3, 4, 5] [3, 0, 4, 5, 6, 7]⟩
   · first | (rw [QC (c := c) (i := i_1) ‹_› (by omega) ic]; done) | (rw [QC (c := c) (i := i_1) ‹_› (by omega) ic]; rfl) | rw [meltDown_no' (c := c) (i := i_1) ‹_› (by omega) ic]
   · first | (rw [QC (c := c) (i := i_1) ‹_› (by omega) ic]; done) | (rw [QC (c := c) (i := i_1) ‹_› (by omega) ic]; rfl) | rw [meltDown_no' (c := c) (i := i_1) ‹_› (by omega) ic]
   · omega
   · omega
  refine xk (b_n (t_n (qA ?_)))
  refine sp (.int .i64 c) ?_
  refine sw (o_sub c 1 rfl rfl (by omega) ?_)
  refine sp (.int .i64 (c - 1)) ?_
  refine qx ?_
  rw [Qr] at H
  refine xH (m' := ((c - 1) : Int).toNat) (by omega) ⟨_, c - 1, ((xe s counts (stepped s t counts) j).qh), ((xe s counts (stepped s t counts) j).qp), zA, xU, j + 1, (by exact qj (qj (qj (qj (qj (rfl) rfl) rfl) rfl) rfl) rfl), ?_, ?_, ?_, ?_, rfl, N, H⟩
  · first | (rw [QC (c := c) (i := i_1) ‹_› (by omega) ic]; done) | (rw [QC (c := c) (i := i_1) ‹_› (by omega) ic]; rfl) | rw [meltDown_no' (c := c) (i := i_1) ‹_› (by omega) ic]
  · first | (rw [QC (c := c) (i := i_1) ‹_› (by omega) ic]; done) | (rw [QC (c := c) (i := i_1) ‹_› (by omega) ic]; rfl) | rw [meltDown_no' (c := c) (i := i_1) ‹_› (by omega) ic]
  · omega
  · omega
 replace h162 := of_decide_eq_false h162
 refine zK (t_x (t_x (b_x (t_n (qm (qA ?_))))))
 refine sp (pp bs os) ?_
 refine sw (yS #[pp bs os, pp b19 0] rfl rfl Tryz.call109 ?_)
 refine enter (n := 14) Tryz.func109 rfl Tryz.ntmps109 (Nat.le_of_ble_eq_true rfl) ?_
 refine qm (qA ?_)
 refine sw (zn H ti38 [.slice none 0 0, .slice none 0 0, .slice none 0 0] fun b257 w258 H => ?_)
 refine sp (.int .i64 0) ?_
 refine qx (t_n (qm (qm (qA ?_))))
 refine sps [pp bs os, pp b19 0] ?_
 obtain ⟨G259, hn260, h261⟩ := H.rowIsB 2 rfl
 obtain ⟨G262, hn263, h264⟩ := H.QW (α := List Int) 5 rfl 1 rfl (by decide)
 obtain ⟨G265, hn266, h267⟩ := H.rowIsI 4 rfl
 refine sw (qZ #[pp bs os, pp b19 0] rfl rfl Tryz.call85 (l02State_ok w258 s (xe s counts (stepped s t counts) j) bs os qw qo qO qF qB xw b19 0 jY jX G259 ra3a rc3a G262 vC vz G265 (qH (H.get 2 rfl) 0 3) (H.get 3 rfl).1 (H.get 4 rfl).1 (by have hz := (qH (H.cells 1 rfl) 0 3); rw [hn260, hn263, hn266] at hz; exact hz) (hn260 ▸ h261) (hn263 ▸ h264) (hn266 ▸ h267) (by first | assumption | exact (And.left (by assumption : yI _)))) ?_)
 rintro _ w268 rfl x269
 replace H := H.ext x269
 refine sp (.bool (!(dec (zu s (xe s counts (stepped s t counts) j))))) ?_
 refine qx (t_n ?_)
 refine qW (!(dec (zu s (xe s counts (stepped s t counts) j)))) rfl (fun h270 => ?_) (fun h270 => ?_)
 ·skip
  replace h270 := xg h270
  replace h270 := xX h270
  refine qm (qA ?_)
  refine sw (jo [.slice none 0 0, .slice none 0 0, .slice none 0 0] [] ?_)
  refine sw (xP H 0 [.slice none 0 0, .slice none 0 0, .slice none 0 0] Tryz.sizeOf38 fun w271 H => ?_)
  try dsimp only [List.set] at H
  refine sp (.int .i64 3) ?_
  refine qx (t_n (xC (t_r ?_)))
  refine retC2 H 0 rfl (.int .i64 3) rfl Tryz.isAgg38 Tryz.sizeOf38 rfl rfl ⟨_, rfl, ?_⟩
  replace H := H.erases [0]
  dsimp only [yV, List.eraseIdx] at H
  refine sps [.agg #[.slice none 0 0, .slice none 0 0, .slice none 0 0], .int .i64 3] ?_
  refine sw (xP H 5 [.slice none 0 0, .slice none 0 0, .slice none 0 0] Tryz.sizeOf38 fun w272 H => ?_)
  try dsimp only [List.set] at H
  refine sp (.int .i64 3) ?_
  refine qx (t_n (xC ?_))
  replace H := H.Va 4
  replace H := H.nilRow 22 1
  replace H := H.Qw (α := List Int)
  replace H := H.Vo 2
  refine retC2 H 8 rfl (.int .i64 3) rfl Tryz.isAgg38 Tryz.sizeOf38 rfl rfl ⟨_, rfl, ?_, H.base⟩
  rw [stepBy_yes ‹_›, stepRes, show jr s - 1 = j by omega, told_no ‹_›]
  exact ⟨none, 0, 0, none, 0, 0, [], [], none, 0, 0, rfl, (N.emp.pick [0]), H.pick [2, 1, 0] [0]⟩
 replace h270 := qY h270
 replace h270 := jG h270
 refine xk (t_n (qm (qA ?_)))
 refine sps [pp b19 0, pp b19 0] ?_
 refine sw (zg [.slice jY t.qh.length jX, .slice ra3a ((zi s t counts (vV (yJ s t counts) counts.length)).length) rc3a, .slice vC zM vz] Tryz.isAgg38 Tryz.sizeOf38 rfl (qH (H.cells 1 rfl) 0 3) ?_)
 refine sw (xP H 0 [.slice jY t.qh.length jX, .slice ra3a ((zi s t counts (vV (yJ s t counts) counts.length)).length) rc3a, .slice vC zM vz] Tryz.sizeOf38 fun w273 H => ?_)
 try dsimp only [List.set] at H
 refine sp (.int .i64 0) ?_
 refine qx (t_n (xC ?_))
 refine retC2 H 0 rfl (.int .i64 0) rfl Tryz.isAgg38 Tryz.sizeOf38 rfl rfl ⟨_, rfl, ?_⟩
 replace H := H.erases [0]
 dsimp only [yV, List.eraseIdx] at H
 refine sps [.agg #[.slice jY t.qh.length jX, .slice ra3a ((zi s t counts (vV (yJ s t counts) counts.length)).length) rc3a, .slice vC zM vz], .int .i64 0] ?_
 refine sw (xP H 5 [.slice jY t.qh.length jX, .slice ra3a ((zi s t counts (vV (yJ s t counts) counts.length)).length) rc3a, .slice vC zM vz] Tryz.sizeOf38 fun w274 H => ?_)
 try dsimp only [List.set] at H
 refine sp (.int .i64 0) ?_
 refine qx (t_n (xC ?_))
 refine retC2 H 5 rfl (.int .i64 0) rfl Tryz.isAgg38 Tryz.sizeOf38 rfl rfl ⟨_, rfl, ?_, H.base⟩
 rw [stepBy_yes ‹_›, stepRes, show jr s - 1 = j by omega, told_yes ‹_›]
 exact ⟨jY, t.qh.length, jX, ra3a, (zi s t counts (vV (yJ s t counts) counts.length)).length, rc3a, zA, xU, vC, zM, vz, rfl, (N.pick [1]), H.pick [1, 4, 3] [1]⟩

end Go.Proofs.YtkmlihdacnfhdaaGreat
