/- Walks, printed by program (wip/tools/gv.py): what each function comes to, for all arguments. -/
import Derived.Test.YtkmlihdacnfhdaaGreatG10
namespace Go.Proofs.YtkmlihdacnfhdaaGreat
open Go.Proofs.YtkmlihdacnfhdaaGreat.Tot (tot)
open Go.Proofs.YtkmlihdacnfhdaaGreat.Mark (cnt mrk mkd mkd_mark cnt_mark)
open Go.RowKit
set_option linter.unusedVariables false
set_option linter.unusedSimpArgs false
set_option maxRecDepth 100000
set_option maxHeartbeats 4000000



theorem l03Step_ok (w : World) (s : qU) (t : qP) (counts : List Int) (bs os : Nat) (qp : Option Addr) (qo : Nat) (qO : List Nat) (qF : Option Addr) (qC : Nat) (xq : List Nat) (bt ot : Nat) (qN : Option Addr) (qH : Nat) (xK : List Nat) (xG : Option Addr) (xy : Nat) (zk : List Nat) (qL : Option Addr) (qK : Nat) (xH : List Nat) (acounts : Option Addr) (ccounts : Nat) (Fcounts : List Nat) (hs : vz w bs os [.int .i64 s.qI, .slice qp s.qf.length qo, .slice qF s.qg.length qC]) (xn : qQ.rep w qO [.slice qp s.qf.length qo] s.qf) (xM : qQ.rep w xq [.slice qF s.qg.length qC] s.qg) (ht : vz w bt ot [.slice qN t.qh.length qH, .slice xG t.qx.length xy, .slice qL t.ql.length qK]) (zl : qQ.rep w xK [.slice qN t.qh.length qH] t.qh) (zV : qQ.rep w zk [.slice xG t.qx.length xy] t.qx) (xX : qQ.rep w xH [.slice qL t.ql.length qK] t.ql) (hcounts : qQ.rep w Fcounts [.slice acounts counts.length ccounts] counts) (p0 : Qb s) (p1 : zM s t) (p2 : CntOk s counts) : Calls Tryz.prog 61 #[pp bs os, pp bt ot, .slice acounts counts.length ccounts] w (Ret (fun v w' => ∃ (ra0Alive : Option Addr) (rn0Alive : Nat) (rc0Alive : Nat) (ra0Bags : Option Addr) (rn0Bags : Nat) (rc0Bags : Nat) (rx0Bags : List Value) (rF0Bags : List Nat) (ra0Around : Option Addr) (rn0Around : Nat) (rc0Around : Nat), v = .tuple #[.agg #[.slice ra0Alive rn0Alive rc0Alive, .slice ra0Bags rn0Bags rc0Bags, .slice ra0Around rn0Around rc0Around], .int .i64 ((xU s t counts).2)] ∧ Fresh w.heap.size [rF0Bags] ∧ St w w' [.row (.slice ra0Alive rn0Alive rc0Alive) 4 1 rn0Alive ((((xU s t counts).1).qh).map (Value.bool)), .row (.slice ra0Bags rn0Bags rc0Bags) 22 1 rn0Bags rx0Bags, .row (.slice ra0Around rn0Around rc0Around) 2 1 rn0Around ((((xU s t counts).1).ql).map (Value.int .i64))] [vK true rF0Bags rx0Bags (((xU s t counts).1).qx)]) w) := by
 refine enter (n := 209) Tryz.func61 rfl Tryz.ntmps61 (Nat.le_of_ble_eq_true rfl) ?_
 have H := ((((((((St.start w).arg hcounts).arg xX).arg zV).arg zl).argAt ht).arg xM).arg xn).argAt hs
 have vk := qJ xn
 have jr := qJ xM
 have QX := qJ zl
 have XH := qJ zV
 have yZ := qJ xX
 have nhcounts := qJ hcounts
 clear hs xn xM ht zl zV xX hcounts
 have N := Fresh.nil w.heap.size
 have p3 := p0.2.1
 have p6 := p2.1
 have p7 := p1.2.1
 have p8 := kinds_le p0
 have p9 := p0.1.2.1
 have p11 : vY s = s.qf.length := rfl
 have p12 := p1.1
 have p15 := p0.1
 have p16 := p0.1.1
 obtain ⟨q7, q8, q9, q10⟩ := p1.sizes p0.1
 have q13 := fun k hk => Nat.le_trans (q10 k hk) (by decide : 8 ≤ 1000000)
 have p14 := restR_len (s := s) (t := t) (counts := counts)
 refine qm (qy ?_)
 refine sw (zL H ti38 [.slice none 0 0, .slice none 0 0, .slice none 0 0] fun b1 w2 H => ?_)
 refine sp (.int .i64 0) ?_
 refine qw (t_n (qm (qy ?_)))
 refine sps [pp bs os, pp bt ot, .slice acounts counts.length ccounts] ?_
 have sz6 := H.base.size
 refine sw (xf #[pp bs os, pp bt ot, .slice acounts counts.length ccounts] rfl rfl Tryz.call106 (l03Rest_ok w2 s t counts bs os qp qo qO qF qC xq bt ot qN qH xK xG xy zk qL qK xH acounts ccounts Fcounts (qG (H.get 0 rfl) 0 3) (H.get 1 rfl).1 (H.get 2 rfl).1 (qG (H.get 3 rfl) 0 3) (H.get 4 rfl).1 (H.get 5 rfl).1 (H.get 6 rfl).1 (H.get 7 rfl).1 (by first | assumption | omega) (by first | assumption | omega) (by first | assumption | omega)) ?_)
 rintro _ w4 ⟨ra3a, rn3a, rc3a, rx3a, rF3a, rfl, M, K⟩ _
 replace N := N.merge sz6 (by simp) M
 replace H := H.merge K M
 dsimp only [List.cons_append, List.nil_append] at H
 obtain rfl := H.zB (α := List Int) 0 rfl 0 rfl (by decide)
 refine sps [.tuple #[.slice ra3a ((vg s t counts (vH (yu s t counts) counts.length)).length) rc3a, .bool (dec (IsCh s t counts))], .slice ra3a ((vg s t counts (vH (yu s t counts) counts.length)).length) rc3a, .bool (dec (IsCh s t counts)), .slice ra3a ((vg s t counts (vH (yu s t counts) counts.length)).length) rc3a, .bool (dec (IsCh s t counts))] ?_
 refine qw (t_n (qm (qm (qy ?_))))
 refine sps [.bool (dec (IsCh s t counts)), .bool (!(dec (IsCh s t counts)))] ?_
 refine qw (t_n ?_)
 refine qV (!(dec (IsCh s t counts))) rfl (fun h9 => ?_) (fun h9 => ?_)
 ·skip
  replace h9 := xe h9
  replace h9 := zg h9
  refine qm (qy ?_)
  refine sw (jQ [.slice none 0 0, .slice none 0 0, .slice none 0 0] [] ?_)
  refine sw (zn H 1 [.slice none 0 0, .slice none 0 0, .slice none 0 0] Tryz.sizeOf38 fun w10 H => ?_)
  try dsimp only [List.set] at H
  refine sp (.int .i64 4) ?_
  refine qw (t_n (xx (t_r ?_)))
  replace H := H.nilRowB 4
  replace H := H.nilRow 22 1
  replace H := H.Q5 (α := List Int)
  replace H := H.nilRowI 2
  refine retC2 H 4 rfl (.int .i64 4) rfl Tryz.isAgg38 Tryz.sizeOf38 rfl rfl ⟨_, rfl, ?_, H.base⟩
  rw [stepBy_no ‹_›]
  exact ⟨none, 0, 0, none, 0, 0, [], [], none, 0, 0, rfl, (N.emp.pick [0]), H.pick [2, 1, 0] [0]⟩
 replace h9 := qX h9
 replace h9 := jA h9
 have st := stop_none (n := counts.length) (P := yu s t counts) (‹IsCh s t counts›).1
 have r1 := restR_len (s := s) (t := t) (counts := counts) (vH (yu s t counts) counts.length)
 refine xh (t_n (qm (qy ?_)))
 refine sp (pp bt ot) ?_
 have sz14 := H.base.size
 have lt15 := H.ltN (L := [rF3a]) [0]
 refine sw (xf #[pp bt ot] rfl rfl Tryz.call73 (l02Own_ok w4 t bt ot qN qH xK xG xy zk qL qK xH (qG (H.get 4 rfl) 0 3) (H.get 5 rfl).1 (H.get 6 rfl).1 (H.get 7 rfl).1 (by first | assumption | omega) (by first | assumption | omega) (by first | assumption | omega) (by first | assumption | omega)) ?_)
 rintro _ w12 ⟨jw, rn11Alive, jv, ra11Bags, rn11Bags, rc11Bags, Vo, jJ, ra11Around, rn11Around, rc11Around, rfl, M, K⟩ _
 replace N := N.merge sz14 lt15 M
 replace H := H.merge K M
 dsimp only [List.cons_append, List.nil_append] at H
 obtain rfl := H.Vb 0 rfl
 obtain rfl := H.zB (α := List Int) 1 rfl 0 rfl (by decide)
 obtain rfl := H.VB 2 rfl
 refine sw (zL H ti38 [.slice none 0 0, .slice none 0 0, .slice none 0 0] fun b19 w20 H => ?_)
 refine sw (zn H 0 [.slice jw t.qh.length jv, .slice ra11Bags t.qx.length rc11Bags, .slice ra11Around t.ql.length rc11Around] Tryz.sizeOf38 fun w21 H => ?_)
 try dsimp only [List.set] at H
 refine qw (t_n (qm (qy ?_)))
 refine sp (.slice ra3a ((vg s t counts (vH (yu s t counts) counts.length)).length) rc3a) ?_
 refine sw (qM b19 (0) 1 Tryz.underlying38 rfl rfl Tryz.sizeOf27 rfl ?_)
 refine sw (o_store1C H 0 [.slice jw t.qh.length jv, .slice ra3a ((vg s t counts (vH (yu s t counts) counts.length)).length) rc3a, .slice ra11Around t.ql.length rc11Around] Tryz.sizeOf27 fun w22 H => ?_)
 try dsimp only [List.set] at H
 refine qw (t_n (qm (qm (qy ?_))))
 refine sp (.int .i64 0) ?_
 refine qw (t_n (xu ?_))
 refine zG (fun m' ρ w23 => ∃ (junk : Env) (i : Nat) (zT : Option Addr) (zH : Nat) (zQ : Nat) (out_Around : List Int) (rest : List (List Int)) (x_rest : List Value) (F_rest : List Nat), ρ = upd (upd (upd (upd (upd (upd junk 0 (pp bs os)) 1 (pp bt ot)) 2 (.slice acounts counts.length ccounts)) 6 (pp b1 0)) 10 (pp b19 0)) 11 (.int .i64 i) ∧ ((i : Int) ≤ counts.length) ∧ (Ent (s.qf.length + 1) (QR s) (fun p q => base0 s t p q + needS s counts s.qg.length p q + putS s t counts i p q) (20000000 + 6000000 * i) (rest ++ [out_Around])) ∧ (rest.length = s.qf.length) ∧ m' = (counts.length - (i : Int)).toNat ∧ Fresh w.heap.size [jJ, F_rest] ∧ St w w23 [.box b19 [.slice jw t.qh.length jv, .slice ra3a ((vg s t counts (vH (yu s t counts) counts.length)).length) rc3a, .slice zT zH zQ] 38, .row (.slice jw t.qh.length jv) 4 1 t.qh.length (t.qh.map (Value.bool)), .row (.slice ra11Bags t.qx.length rc11Bags) 22 1 t.qx.length Vo, .row (.slice zT zH zQ) 2 1 zH (out_Around.map (Value.int .i64)), .row (.slice ra3a ((vg s t counts (vH (yu s t counts) counts.length)).length) rc3a) 22 1 ((vg s t counts (vH (yu s t counts) counts.length)).length) x_rest, .box b1 [.slice none 0 0, .slice none 0 0, .slice none 0 0] 38] [vK true jJ Vo t.qx, vK true F_rest x_rest rest, atF bs os [.int .i64 s.qI, .slice qp s.qf.length qo, .slice qF s.qg.length qC], isF false qO (.slice qp s.qf.length qo) s.qf, isF false xq (.slice qF s.qg.length qC) s.qg, atF bt ot [.slice qN t.qh.length qH, .slice xG t.qx.length xy, .slice qL t.ql.length qK], isF false xK (.slice qN t.qh.length qH) t.qh, isF false zk (.slice xG t.qx.length xy) t.qx, isF false xH (.slice qL t.ql.length qK) t.ql, isF false Fcounts (.slice acounts counts.length ccounts) counts]) ((counts.length - (0 : Int)).toNat) ⟨_, 0, ra11Around, t.ql.length, rc11Around, t.ql, vg s t counts (vH (yu s t counts) counts.length), rx3a, rF3a, (by exact qj (qj (qj (qj (qj (qj (rfl) rfl) rfl) rfl) rfl) rfl) rfl), (by omega), (by rw [st, p6]; exact (rest_ent p0 p1 p2).to (fun _ _ => rfl) (by omega)), (by omega), rfl, N, H⟩ ?_
 clear H N
 rintro m' ρ w24 ⟨junk, i, zT, zH, zQ, out_Around, rest, x_rest, F_rest, rfl, i0, E_rest, z_rest, rfl, N, H⟩
 have hn_out_Around := H.VB 3 rfl
 have hn_rest := H.zB (α := List Int) 4 rfl 1 rfl (by decide)
 refine qm (qm (qy ?_))
 refine sps [.int .i64 i, .slice acounts counts.length ccounts] ?_
 refine sw (zD Tryz.underlying22 acounts counts.length ccounts rfl ?_)
 refine sp (.bool (decide ((i : Int) < counts.length))) ?_
 refine qw (t_n ?_)
 refine qV (decide ((i : Int) < counts.length)) rfl (fun h25 => ?_) (fun h25 => ?_)
 ·skip
  replace h25 := of_decide_eq_true h25
  have q := p0.rule (i := i) (by omega)
  have qc := q.1
  have qk := q.cell
  have qr := q.2.1
  have bn1 := q.2.2.2.2.1
  have bn2 := q.2.2.2.2.2.2.2.1
  have bn3 := q.2.2.2.2.2.2.2.2.1
  have ln1 := bn1.len
  have ln2 := bn2.len
  have ln3 := bn3.len
  have p10 := p2.bd (i := i) (by omega)
  have qn := q.2.2.2.1
  refine xh (t_n (qm (xu (qm (qy ?_)))))
  refine sps [pp bs os, pp bs os] ?_
  refine sw (qM bs (os) 2 Tryz.underlying36 rfl rfl Tryz.sizeOf34 rfl ?_)
  refine sw (qE (.slice qF s.qg.length qC) Tryz.isAgg34 rfl (H.xR 2 rfl 2 rfl) ?_)
  refine sp (.int .i64 i) ?_
  obtain ⟨b26, o27, rfl⟩ := H.addr 4 rfl (by omega)
  obtain ⟨ae29Need, ce29Need, Fe29Need, ae29Have, ce29Have, Fe29Have, ae29Lack, ce29Lack, Fe29Lack, ae29Here, ce29Here, Fe29Here, ae29Out, ce29Out, Fe29Out, ae29Into, Xz, Fe29Into, H⟩ := H.yE 4 rfl i i (by omega) (by omega) (by omega)
  refine sw (xJ i Tryz.underlying34 ti110 rfl rfl (by omega) (by omega) ?_)
  refine sp (pp b26 (o27 + (i : Int).toNat * 9)) ?_
  refine qw (t_n (qm (qm (qy ?_))))
  refine sps [.slice acounts counts.length ccounts, .int .i64 i] ?_
  obtain ⟨b30, o31, rfl⟩ := H.addr 16 rfl (by omega)
  refine sw (xJ i Tryz.underlying22 ti2 rfl rfl (by omega) (by omega) ?_)
  refine sw (qE (.int .i64 (counts[i]!)) Tryz.isAgg2 rfl (H.vP 16 rfl i (by omega) (by omega)) ?_)
  refine sp (.bool ((counts[i]! : Int) == 0)) ?_
  refine qw (t_n ?_)
  refine qV ((counts[i]! : Int) == 0) rfl (fun h33 => ?_) (fun h33 => ?_)
  ·skip
   replace h33 := eq_of_beq h33
   refine zy (t_x (b_x (t_n (qy ?_))))
   refine sp (.int .i64 i) ?_
   refine sw (zJ i 1 rfl rfl (by omega) ?_)
   refine sp (.int .i64 (i + 1)) ?_
   refine qw ?_
   refine xF (m' := (counts.length - ((i + 1) : Int)).toNat) (by omega) ⟨_, i + 1, zT, zH, zQ, out_Around, rest, x_rest, F_rest, (by exact qj (qj (qj (qj (qj (qj (rfl) rfl) rfl) rfl) rfl) rfl) rfl), ?_, ?_, ?_, rfl, N, H.pick [0, 1, 2, 3, 4, 5] [7, 8, 9, 10, 11, 12, 13, 14, 15, 16]⟩
   · omega
   · first | exact E_rest.to (fun p q => by simp only [putS_skip (s := s) (t := t) (counts := counts) (i := i) ‹_›]) (by omega) | exact E_out_Bags.to (fun p q => by rw [show k = ((s.qg[i]!).qB).length by omega]; simp only [putS, putF]; omega) (by omega)
   · omega
  replace h33 := ne_of_beq_false h33
  refine xh (t_n (qm ?_))
  refine Qa rfl H [0, 1, 2, 3, 5] fun H => ?_
  have S := H.Qc [0, 1, 2, 3, 5] [0, 1, 2, 3, 4, 5, 6, 7, 8, 9, 10, 11, 12, 13, 14, 15, 16]
  refine rt 0 (pp b19 (0 + 1)) (xE b19 (0) 1 Tryz.underlying38 rfl rfl Tryz.sizeOf27 rfl) S ?_
  refine rt 1 (.slice ra3a ((vg s t counts (vH (yu s t counts) counts.length)).length) rc3a) (xm Tryz.isAgg27 rfl (fun _ h => h.cell 0 rfl rfl)) S ?_
  refine rtp 2 (pp b26 (o27 + (i : Int).toNat * 9)) S ?_
  refine rtp 3 (pp b26 (o27 + (i : Int).toNat * 9)) S ?_
  refine rt 4 (pp b26 (o27 + (i : Int).toNat * 9 + 0)) (xE b26 (o27 + (i : Int).toNat * 9) 0 Tryz.underlying110 rfl rfl Tryz.sizeOf2 rfl) S ?_
  refine rt 5 (.int .i64 ((s.qg[i]!).qA)) (xm Tryz.isAgg2 rfl (fun _ h => h.xR 6 rfl 0 rfl)) S ?_
  refine rt 6 (pp b19 (0 + 1)) (xE b19 (0) 1 Tryz.underlying38 rfl rfl Tryz.sizeOf27 rfl) S ?_
  refine rt 7 (.slice ra3a ((vg s t counts (vH (yu s t counts) counts.length)).length) rc3a) (xm Tryz.isAgg27 rfl (fun _ h => h.cell 0 rfl rfl)) S ?_
  refine rtp 8 (pp b26 (o27 + (i : Int).toNat * 9)) S ?_
  refine rtp 9 (pp b26 (o27 + (i : Int).toNat * 9)) S ?_
  refine rt 10 (pp b26 (o27 + (i : Int).toNat * 9 + 0)) (xE b26 (o27 + (i : Int).toNat * 9) 0 Tryz.underlying110 rfl rfl Tryz.sizeOf2 rfl) S ?_
  refine rt 11 (.int .i64 ((s.qg[i]!).qA)) (xm Tryz.isAgg2 rfl (fun _ h => h.xR 6 rfl 0 rfl)) S ?_
  obtain ⟨b35, rfl⟩ := H.Vr 4 rfl (by omega)
  have S := H.Qc [0, 1, 2, 3, 5] [0, 1, 2, 3, 4, 5, 6, 7, 8, 9, 10, 11, 12, 13, 14, 15, 16]
  refine rt 12 (pp b35 (0 + ((s.qg[i]!).qA : Int).toNat * 1)) (xN b35 (0) ((vg s t counts (vH (yu s t counts) counts.length)).length) rc3a ((s.qg[i]!).qA) Tryz.underlying27 ti22 rfl rfl (by omega) (by omega)) S ?_
  refine rtp 14 (pp b26 (o27 + (i : Int).toNat * 9)) S ?_
  refine rtp 15 (pp b26 (o27 + (i : Int).toNat * 9)) S ?_
  refine rt 16 (pp b26 (o27 + (i : Int).toNat * 9 + 5)) (xE b26 (o27 + (i : Int).toNat * 9) 5 Tryz.underlying110 rfl rfl Tryz.sizeOf22 rfl) S ?_
  refine rt 17 (.slice ae29Here (((s.qg[i]!).xw).length) ce29Here) (xm Tryz.isAgg22 rfl (fun _ h => h.xR 6 rfl 5 rfl)) S ?_
  refine rtp 18 (.slice (aa b30 o31) counts.length ccounts) S ?_
  refine rtp 19 (.int .i64 i) S ?_
  refine rt 20 (pp b30 (o31 + (i : Int).toNat * 1)) (xN b30 (o31) counts.length ccounts i Tryz.underlying22 ti2 rfl rfl (by omega) (by omega)) S ?_
  refine rt 21 (.int .i64 (counts[i]!)) (xm Tryz.isAgg2 rfl (fun _ h => h.vP 16 rfl i (by omega) (by omega))) S ?_
  refine xB [13] (by kernel_rfl) (by simp) (zh rfl ?_ xC)
  obtain ⟨a36, c37, G38, s39, h40, H⟩ := H.jq 4 rfl 8 rfl (iv := (s.qg[i]!).qA) (((s.qg[i]!).qA).toNat) (by omega) (by omega)
  refine qE (.slice a36 ((rest[((s.qg[i]!).qA).toNat]!).length) c37) Tryz.isAgg22 rfl (h40) ?_
  refine ⟨H.pick [0, 1, 2, 3, 5] [1, 2, 3, 4, 5, 6, 7, 8, 9, 10, 11, 12, 13, 14, 15, 16, 17], ?_⟩
  refine xB [22] (by kernel_rfl) (by simp) (zh rfl ?_ xC)
  obtain ⟨u1, u2⟩ := Ent.rowL E_rest (c := ((s.qg[i]!).qA).toNat) (by omega) (by omega) (by omega) (by omega)
  have u4 := (by first | exact bn2.jU (by omega) | exact bn3.jU (by omega) | exact bn4.jU (by omega) : SmallT ((s.qg[i]!).xw) (counts[i]!))
  have sz41 := H.base.size
  have lt42 := H.ltN (L := [jJ, F_rest]) [8, 9]
  refine xf #[.slice a36 ((rest[((s.qg[i]!).qA).toNat]!).length) c37, .slice ae29Here (((s.qg[i]!).xw).length) ce29Here, .int .i64 (counts[i]!)] rfl rfl Tryz.call88 (XP w24.drew (rest[((s.qg[i]!).qA).toNat]!) ((s.qg[i]!).xw) (counts[i]!) a36 c37 G38 ae29Here ce29Here Fe29Here (H.get 0 rfl).1 (H.get 4 rfl).1 (by first | assumption | omega) (by first | assumption | omega) (by first | assumption | omega)) ?_
  rintro v46 w44 r46 x45
  replace H := H.zF x45 r46
  obtain ⟨a47, c48, rfl, hc49, hm50⟩ := H.jP 0 rfl
  refine ⟨H.pick [1, 2, 3, 4, 6] [1, 2, 3, 4, 5, 6, 7, 8, 9, 10, 11, 12, 13, 14, 15, 16, 17], ?_⟩
  refine rt 23 (pp b35 (0 + ((s.qg[i]!).qA : Int).toNat * 1)) (xN b35 (0) ((vg s t counts (vH (yu s t counts) counts.length)).length) rc3a ((s.qg[i]!).qA) Tryz.underlying27 ti22 rfl rfl (by omega) (by omega)) (H.pick [1, 2, 3, 4, 6] [1, 2, 3, 4, 5, 6, 7, 8, 9, 10, 11, 12, 13, 14, 15, 16, 17]) ?_
  refine xB [24] (by kernel_rfl) (by simp) (zh rfl ?_ xC)
  obtain ⟨G52, N, hn53, H⟩ := H.yh 0 rfl N (H.XF [8, 9])
  try dsimp only [List.set] at H
  refine jh true H 5 rfl 10 rfl (.slice a47 ((jV (rest[((s.qg[i]!).qA).toNat]!) ((s.qg[i]!).xw) (counts[i]!)).length) c48) 0 rfl rfl Tryz.sizeOf22 rfl rfl (i := (((s.qg[i]!).qA).toNat)) (by omega) (by omega) (by simp) fun w51 xs54 F55 hs56 H => ?_
  replace N : Fresh w.heap.size [F55, jJ] := (N.pick [2, 0, 1]).repl hs56
  try dsimp only [List.set] at H
  refine ⟨H.pick [1, 2, 3, 4, 6] [3, 4, 5, 6, 7, 8, 9, 10, 11, 12, 13, 14, 15, 16, 17, 18, 19], ?_⟩
  refine xO (by kernel_rfl) (t_n ?_)
  refine qm (qm (qy ?_))
  refine sps [pp b26 (o27 + (i : Int).toNat * 9), pp b26 (o27 + (i : Int).toNat * 9)] ?_
  refine sw (qM b26 (o27 + (i : Int).toNat * 9) 0 Tryz.underlying110 rfl rfl Tryz.sizeOf2 rfl ?_)
  refine sw (qE (.int .i64 ((s.qg[i]!).qA)) Tryz.isAgg2 rfl (H.xR 9 rfl 0 rfl) ?_)
  refine sp (.bool (((s.qg[i]!).qA : Int) == 0)) ?_
  refine qw (t_n ?_)
  refine qV (((s.qg[i]!).qA : Int) == 0) rfl (fun h57 => ?_) (fun h57 => ?_)
  ·skip
   replace h57 := eq_of_beq h57
   obtain ⟨bg58, e_bg58⟩ : ∃ z, z = (rest.set (((s.qg[i]!).qA).toNat) (jV (rest[((s.qg[i]!).qA).toNat]!) ((s.qg[i]!).xw) (counts[i]!))) := ⟨_, rfl⟩
   rw [← e_bg58] at H
   have E_bg58 := Ent.addL (D := 1000000) E_rest e_bg58 (by omega) (by omega) (by first | exact bn2.mul (by omega) | exact bn3.mul (by omega) | exact bn4.mul (by omega)) (by omega)
   have z_bg58 : bg58.length = s.qf.length := by rw [e_bg58, List.length_set]; omega
   have E_cur := E_bg58
   refine Qa rfl H [0, 2, 3, 4, 5, 6] fun H => ?_
   have S := H.Qc [0, 2, 3, 4, 5, 6] [0, 1, 2, 3, 4, 5, 6, 7, 8, 9, 10, 11, 12, 13, 14, 15, 16, 17, 18, 19]
   refine rt 0 (pp b19 (0 + 2)) (xE b19 (0) 2 Tryz.underlying38 rfl rfl Tryz.sizeOf22 rfl) S ?_
   refine rtp 2 (pp b26 (o27 + (i : Int).toNat * 9)) S ?_
   refine rtp 3 (pp b26 (o27 + (i : Int).toNat * 9)) S ?_
   refine rt 4 (pp b26 (o27 + (i : Int).toNat * 9 + 6)) (xE b26 (o27 + (i : Int).toNat * 9) 6 Tryz.underlying110 rfl rfl Tryz.sizeOf22 rfl) S ?_
   refine rt 5 (.slice ae29Out (((s.qg[i]!).zf).length) ce29Out) (xm Tryz.isAgg22 rfl (fun _ h => h.xR 9 rfl 6 rfl)) S ?_
   refine rtp 6 (.slice (aa b30 o31) counts.length ccounts) S ?_
   refine rtp 7 (.int .i64 i) S ?_
   refine rt 8 (pp b30 (o31 + (i : Int).toNat * 1)) (xN b30 (o31) counts.length ccounts i Tryz.underlying22 ti2 rfl rfl (by omega) (by omega)) S ?_
   refine rt 9 (.int .i64 (counts[i]!)) (xm Tryz.isAgg2 rfl (fun _ h => h.vP 19 rfl i (by omega) (by omega))) S ?_
   refine xB [1] (by kernel_rfl) (by simp) (zh rfl ?_ xC)
   refine qE (.slice zT zH zQ) Tryz.isAgg22 rfl (H.cell 1 rfl rfl) ?_
   refine ⟨H.pick [0, 2, 3, 4, 5, 6] [0, 1, 2, 3, 4, 5, 6, 7, 8, 9, 10, 11, 12, 13, 14, 15, 16, 17, 18, 19], ?_⟩
   refine xB [10] (by kernel_rfl) (by simp) (zh rfl ?_ xC)
   obtain ⟨G60, hn61, h62⟩ := H.rowIsI 4 rfl
   obtain ⟨u1, u2⟩ := Ent.rowN E_bg58 (by omega) (by omega) (by omega)
   have u4 := (by first | exact bn2.jU (by omega) | exact bn3.jU (by omega) | exact bn4.jU (by omega) : SmallT ((s.qg[i]!).zf) (counts[i]!))
   have sz63 := H.base.size
   have lt64 := H.ltN (L := [F55, jJ]) [0, 10]
   refine xf #[.slice zT zH zQ, .slice ae29Out (((s.qg[i]!).zf).length) ce29Out, .int .i64 (counts[i]!)] rfl rfl Tryz.call88 (args_eq (by rw [← hn61]) (XP w51.drew out_Around ((s.qg[i]!).zf) (counts[i]!) zT zQ G60 ae29Out ce29Out Fe29Out (hn61 ▸ h62) (H.get 7 rfl).1 (by first | assumption | omega) (by first | assumption | omega) (by first | assumption | omega))) ?_
   rintro v68 w66 r68 x67
   replace H := H.zF x67 r68
   obtain ⟨a69, c70, rfl, hc71, hm72⟩ := H.jP 0 rfl
   refine ⟨H.pick [1, 3, 4, 5, 6, 7] [0, 1, 2, 3, 4, 5, 6, 7, 8, 9, 10, 11, 12, 13, 14, 15, 16, 17, 18, 19], ?_⟩
   refine rt 11 (pp b19 (0 + 2)) (xE b19 (0) 2 Tryz.underlying38 rfl rfl Tryz.sizeOf22 rfl) (H.pick [1, 3, 4, 5, 6, 7] [0, 1, 2, 3, 4, 5, 6, 7, 8, 9, 10, 11, 12, 13, 14, 15, 16, 17, 18, 19]) ?_
   refine xB [12] (by kernel_rfl) (by simp) (zh rfl ?_ xC)
   refine o_store1C H 2 [.slice jw t.qh.length jv, .slice (aa b35 0) ((vg s t counts (vH (yu s t counts) counts.length)).length) rc3a, .slice a69 ((jV out_Around ((s.qg[i]!).zf) (counts[i]!)).length) c70] Tryz.sizeOf22 fun w73 H => ?_
   try dsimp only [List.set] at H
   refine ⟨H.pick [1, 3, 4, 5, 6, 7] [0, 1, 2, 3, 4, 5, 6, 7, 8, 9, 10, 11, 12, 13, 14, 15, 16, 17, 18, 19], ?_⟩
   refine xO (by kernel_rfl) (t_n ?_)
   refine qm (qy ?_)
   refine sp (.int .i64 0) ?_
   refine qw (t_n (xu ?_))
   replace E_bg58 := Ent.addN (D := 1000000) (a' := jV out_Around ((s.qg[i]!).zf) (counts[i]!)) E_bg58 rfl (by omega) (by first | exact bn2.mul (by omega) | exact bn3.mul (by omega) | exact bn4.mul (by omega)) (by omega)
   have E_cur := E_bg58
   refine zG (fun m' ρ w74 => ∃ (junk : Env) (k : Nat) (out_Bags : List (List Int)) (zq : List Value) (xQ : List Nat), ρ = upd (upd (upd (upd (upd (upd (upd (upd junk 0 (pp bs os)) 1 (pp bt ot)) 2 (.slice (aa b30 o31) counts.length ccounts)) 6 (pp b1 0)) 10 (pp b19 0)) 11 (.int .i64 i)) 12 (pp b26 (o27 + (i : Int).toNat * 9))) 14 (.int .i64 k) ∧ ((k : Int) ≤ (((s.qg[i]!).qB).length)) ∧ (Ent (s.qf.length + 1) (QR s) (fun p q => base0 s t p q + needS s counts s.qg.length p q + putS s t counts i p q + at' p (s.qg[i]!).qA.toNat (counts[i]! * ((s.qg[i]!).xw)[q]!) + at' p (outPl s t (s.qg[i]!)) (counts[i]! * ((s.qg[i]!).zf)[q]!) + intoF (s.qg[i]!) (counts[i]!) k p q) (22000000 + 6000000 * i + 1000000 * k) (out_Bags ++ [jV out_Around ((s.qg[i]!).zf) (counts[i]!)])) ∧ (out_Bags.length = s.qf.length) ∧ m' = ((((s.qg[i]!).qB).length) - (k : Int)).toNat ∧ Fresh w.heap.size [jJ, xQ] ∧ St w w74 [.row (.slice a69 ((jV out_Around ((s.qg[i]!).zf) (counts[i]!)).length) c70) 2 1 ((jV out_Around ((s.qg[i]!).zf) (counts[i]!)).length) ((jV out_Around ((s.qg[i]!).zf) (counts[i]!)).map (Value.int .i64)), .box b19 [.slice jw t.qh.length jv, .slice (aa b35 0) ((vg s t counts (vH (yu s t counts) counts.length)).length) rc3a, .slice a69 ((jV out_Around ((s.qg[i]!).zf) (counts[i]!)).length) c70] 38, .row (.slice jw t.qh.length jv) 4 1 t.qh.length (t.qh.map (Value.bool)), .row (.slice ra11Bags t.qx.length rc11Bags) 22 1 t.qx.length Vo, .row (.slice zT zH zQ) 2 1 zH (out_Around.map (Value.int .i64)), .row (.slice (aa b35 0) ((vg s t counts (vH (yu s t counts) counts.length)).length) rc3a) 22 1 ((vg s t counts (vH (yu s t counts) counts.length)).length) zq, .box b1 [.slice none 0 0, .slice none 0 0, .slice none 0 0] 38] [vK true xQ zq out_Bags, isF false Fe29Need (.slice ae29Need (((s.qg[i]!).qW).length) ce29Need) ((s.qg[i]!).qW), isF false Fe29Have (.slice ae29Have (((s.qg[i]!).xg).length) ce29Have) ((s.qg[i]!).xg), isF false Fe29Lack (.slice ae29Lack (((s.qg[i]!).xk).length) ce29Lack) ((s.qg[i]!).xk), isF false Fe29Here (.slice ae29Here (((s.qg[i]!).xw).length) ce29Here) ((s.qg[i]!).xw), isF false Fe29Out (.slice ae29Out (((s.qg[i]!).zf).length) ce29Out) ((s.qg[i]!).zf), isF false Fe29Into (.slice ae29Into (((s.qg[i]!).qB).length) Xz) ((s.qg[i]!).qB), atF b26 (o27 + (i : Int).toNat * 9) [.int .i64 ((s.qg[i]!).qA), .int .i64 ((s.qg[i]!).xZ), .slice ae29Need (((s.qg[i]!).qW).length) ce29Need, .slice ae29Have (((s.qg[i]!).xg).length) ce29Have, .slice ae29Lack (((s.qg[i]!).xk).length) ce29Lack, .slice ae29Here (((s.qg[i]!).xw).length) ce29Here, .slice ae29Out (((s.qg[i]!).zf).length) ce29Out, .slice ae29Into (((s.qg[i]!).qB).length) Xz, .bool ((s.qg[i]!).xP)], vK true jJ Vo t.qx, atF bs os [.int .i64 s.qI, .slice qp s.qf.length qo, .slice (aa b26 o27) s.qg.length qC], isF false qO (.slice qp s.qf.length qo) s.qf, isF false xq (.slice (aa b26 o27) s.qg.length qC) s.qg, atF bt ot [.slice qN t.qh.length qH, .slice xG t.qx.length xy, .slice qL t.ql.length qK], isF false xK (.slice qN t.qh.length qH) t.qh, isF false zk (.slice xG t.qx.length xy) t.qx, isF false xH (.slice qL t.ql.length qK) t.ql, isF false Fcounts (.slice (aa b30 o31) counts.length ccounts) counts]) (((((s.qg[i]!).qB).length) - (0 : Int)).toNat) ⟨_, 0, bg58, xs54, F55, (by exact qj (qj (qj (qj (qj (qj (qj (qj (rfl) rfl) rfl) rfl) rfl) rfl) rfl) rfl) rfl), (by omega), (by exact E_cur.to (fun p q => by first | (simp only [intoF, outPl_root (s := s) (t := t) (r := s.qg[i]!) ‹_›, vY]; omega) | (simp only [intoF, outPl_up (s := s) (t := t) (r := s.qg[i]!) ‹_›]; omega)) (by omega)), (by omega), rfl, (N.pick [1, 0]), H.pick [0, 2, 3, 4, 5, 6, 7] [0, 3, 4, 5, 6, 7, 8, 9, 10, 12, 13, 14, 15, 16, 17, 18, 19]⟩ ?_
   clear H N
   rintro m' ρ w75 ⟨junk, k, out_Bags, zq, xQ, rfl, i0, E_out_Bags, z_out_Bags, rfl, N, H⟩
   have Vs := H.zB (α := List Int) 5 rfl 0 rfl (by decide)
   refine qm (qm (qy ?_))
   refine sps [.int .i64 k, pp b26 (o27 + (i : Int).toNat * 9), pp b26 (o27 + (i : Int).toNat * 9)] ?_
   refine sw (qM b26 (o27 + (i : Int).toNat * 9) 7 Tryz.underlying110 rfl rfl Tryz.sizeOf108 rfl ?_)
   refine sw (qE (.slice ae29Into (((s.qg[i]!).qB).length) Xz) Tryz.isAgg108 rfl (H.xR 7 rfl 7 rfl) ?_)
   refine sw (zD Tryz.underlying108 ae29Into (((s.qg[i]!).qB).length) Xz rfl ?_)
   refine sp (.bool (decide ((k : Int) < (((s.qg[i]!).qB).length)))) ?_
   refine qw (t_n ?_)
   refine qV (decide ((k : Int) < (((s.qg[i]!).qB).length))) rfl (fun h76 => ?_) (fun h76 => ?_)
   ·skip
    replace h76 := of_decide_eq_true h76
    have qi := q.2.2.2.2.2.2.2.2.2.2 k (by omega)
    have qi1 := qi.1
    have bn4 := qi.2.2.1
    have ln4 := bn4.len
    refine xh (t_n (qm (xu (qm (qy ?_)))))
    refine sps [pp b26 (o27 + (i : Int).toNat * 9), pp b26 (o27 + (i : Int).toNat * 9)] ?_
    refine sw (qM b26 (o27 + (i : Int).toNat * 9) 7 Tryz.underlying110 rfl rfl Tryz.sizeOf108 rfl ?_)
    refine sw (qE (.slice ae29Into (((s.qg[i]!).qB).length) Xz) Tryz.isAgg108 rfl (H.xR 7 rfl 7 rfl) ?_)
    refine sp (.int .i64 k) ?_
    obtain ⟨b77, o78, rfl⟩ := H.addr 6 rfl (by omega)
    obtain ⟨ae80Bag, ce80Bag, Fe80Bag, H⟩ := H.jl 6 rfl k k (by omega) (by omega) (by omega)
    refine sw (xJ k Tryz.underlying108 ti115 rfl rfl (by omega) (by omega) ?_)
    refine sw (qM b77 (o78 + (k : Int).toNat * 2) 0 Tryz.underlying115 rfl rfl Tryz.sizeOf2 rfl ?_)
    refine sw (qE (.int .i64 ((((s.qg[i]!).qB)[k]!).qA)) Tryz.isAgg2 rfl (H.xR 1 rfl 0 rfl) ?_)
    refine sp (.int .i64 ((((s.qg[i]!).qB)[k]!).qA)) ?_
    refine qw (t_n ?_)
    refine Qa rfl H [0, 1, 2, 3, 4, 6] fun H => ?_
    have S := H.Qc [0, 1, 2, 3, 4, 6] [0, 1, 2, 3, 4, 5, 6, 7, 8, 9, 10, 11, 12, 13, 14, 15, 16, 17, 18]
    refine rt 0 (pp b19 (0 + 1)) (xE b19 (0) 1 Tryz.underlying38 rfl rfl Tryz.sizeOf27 rfl) S ?_
    refine rt 1 (.slice (aa b35 0) ((vg s t counts (vH (yu s t counts) counts.length)).length) rc3a) (xm Tryz.isAgg27 rfl (fun _ h => h.cell 1 rfl rfl)) S ?_
    refine rtp 2 (.int .i64 ((((s.qg[i]!).qB)[k]!).qA)) S ?_
    refine rt 3 (pp b19 (0 + 1)) (xE b19 (0) 1 Tryz.underlying38 rfl rfl Tryz.sizeOf27 rfl) S ?_
    refine rt 4 (.slice (aa b35 0) ((vg s t counts (vH (yu s t counts) counts.length)).length) rc3a) (xm Tryz.isAgg27 rfl (fun _ h => h.cell 1 rfl rfl)) S ?_
    refine rtp 5 (.int .i64 ((((s.qg[i]!).qB)[k]!).qA)) S ?_
    refine rt 6 (pp b35 (0 + ((((s.qg[i]!).qB)[k]!).qA : Int).toNat * 1)) (xN b35 (0) ((vg s t counts (vH (yu s t counts) counts.length)).length) rc3a ((((s.qg[i]!).qB)[k]!).qA) Tryz.underlying27 ti22 rfl rfl (by omega) (by omega)) S ?_
    refine rtp 8 (pp b26 (o27 + (i : Int).toNat * 9)) S ?_
    refine rtp 9 (pp b26 (o27 + (i : Int).toNat * 9)) S ?_
    refine rt 10 (pp b26 (o27 + (i : Int).toNat * 9 + 7)) (xE b26 (o27 + (i : Int).toNat * 9) 7 Tryz.underlying110 rfl rfl Tryz.sizeOf108 rfl) S ?_
    refine rt 11 (.slice (aa b77 o78) (((s.qg[i]!).qB).length) Xz) (xm Tryz.isAgg108 rfl (fun _ h => h.xR 9 rfl 7 rfl)) S ?_
    refine rtp 12 (.int .i64 k) S ?_
    refine rt 13 (pp b77 (o78 + (k : Int).toNat * 2)) (xN b77 (o78) (((s.qg[i]!).qB).length) Xz k Tryz.underlying108 ti115 rfl rfl (by omega) (by omega)) S ?_
    refine rt 14 (pp b77 (o78 + (k : Int).toNat * 2 + 1)) (xE b77 (o78 + (k : Int).toNat * 2) 1 Tryz.underlying115 rfl rfl Tryz.sizeOf22 rfl) S ?_
    refine rt 15 (.slice ae80Bag (((((s.qg[i]!).qB)[k]!).zW).length) ce80Bag) (xm Tryz.isAgg22 rfl (fun _ h => h.xR 1 rfl 1 rfl)) S ?_
    refine rtp 16 (.slice (aa b30 o31) counts.length ccounts) S ?_
    refine rtp 17 (.int .i64 i) S ?_
    refine rt 18 (pp b30 (o31 + (i : Int).toNat * 1)) (xN b30 (o31) counts.length ccounts i Tryz.underlying22 ti2 rfl rfl (by omega) (by omega)) S ?_
    refine rt 19 (.int .i64 (counts[i]!)) (xm Tryz.isAgg2 rfl (fun _ h => h.vP 18 rfl i (by omega) (by omega))) S ?_
    refine xB [7] (by kernel_rfl) (by simp) (zh rfl ?_ xC)
    obtain ⟨a82, c83, G84, s85, h86, H⟩ := H.jq 5 rfl 2 rfl (iv := (((s.qg[i]!).qB)[k]!).qA) (((((s.qg[i]!).qB)[k]!).qA).toNat) (by omega) (by omega)
    refine qE (.slice a82 ((out_Bags[((((s.qg[i]!).qB)[k]!).qA).toNat]!).length) c83) Tryz.isAgg22 rfl (h86) ?_
    refine ⟨H.pick [0, 1, 2, 3, 4, 6] [1, 2, 3, 4, 5, 6, 7, 8, 9, 10, 11, 12, 13, 14, 15, 16, 17, 18, 19], ?_⟩
    refine xB [20] (by kernel_rfl) (by simp) (zh rfl ?_ xC)
    obtain ⟨u1, u2⟩ := Ent.rowL E_out_Bags (c := ((((s.qg[i]!).qB)[k]!).qA).toNat) (by omega) (by omega) (by omega) (by omega)
    have u4 := (by first | exact bn2.jU (by omega) | exact bn3.jU (by omega) | exact bn4.jU (by omega) : SmallT ((((s.qg[i]!).qB)[k]!).zW) (counts[i]!))
    have sz87 := H.base.size
    have lt88 := H.ltN (L := [jJ, xQ]) [11, 3]
    refine xf #[.slice a82 ((out_Bags[((((s.qg[i]!).qB)[k]!).qA).toNat]!).length) c83, .slice ae80Bag (((((s.qg[i]!).qB)[k]!).zW).length) ce80Bag, .int .i64 (counts[i]!)] rfl rfl Tryz.call88 (XP w75.drew (out_Bags[((((s.qg[i]!).qB)[k]!).qA).toNat]!) ((((s.qg[i]!).qB)[k]!).zW) (counts[i]!) a82 c83 G84 ae80Bag ce80Bag Fe80Bag (H.get 0 rfl).1 (H.get 1 rfl).1 (by first | assumption | omega) (by first | assumption | omega) (by first | assumption | omega)) ?_
    rintro v92 w90 r92 x91
    replace H := H.zF x91 r92
    obtain ⟨a93, c94, rfl, hc95, hm96⟩ := H.jP 0 rfl
    refine ⟨H.pick [1, 2, 3, 4, 5, 7] [1, 2, 3, 4, 5, 6, 7, 8, 9, 10, 11, 12, 13, 14, 15, 16, 17, 18, 19], ?_⟩
    refine rt 21 (pp b35 (0 + ((((s.qg[i]!).qB)[k]!).qA : Int).toNat * 1)) (xN b35 (0) ((vg s t counts (vH (yu s t counts) counts.length)).length) rc3a ((((s.qg[i]!).qB)[k]!).qA) Tryz.underlying27 ti22 rfl rfl (by omega) (by omega)) (H.pick [1, 2, 3, 4, 5, 7] [1, 2, 3, 4, 5, 6, 7, 8, 9, 10, 11, 12, 13, 14, 15, 16, 17, 18, 19]) ?_
    refine xB [22] (by kernel_rfl) (by simp) (zh rfl ?_ xC)
    obtain ⟨G98, N, hn99, H⟩ := H.yh 0 rfl N (H.XF [11, 3])
    try dsimp only [List.set] at H
    refine jh true H 6 rfl 4 rfl (.slice a93 ((jV (out_Bags[((((s.qg[i]!).qB)[k]!).qA).toNat]!) ((((s.qg[i]!).qB)[k]!).zW) (counts[i]!)).length) c94) 0 rfl rfl Tryz.sizeOf22 rfl rfl (i := (((((s.qg[i]!).qB)[k]!).qA).toNat)) (by omega) (by omega) (by simp) fun w97 xs100 F101 hs102 H => ?_
    replace N : Fresh w.heap.size [F101, jJ] := (N.pick [2, 0, 1]).repl hs102
    try dsimp only [List.set] at H
    refine ⟨H.pick [1, 2, 3, 4, 5, 7] [3, 4, 5, 6, 7, 8, 9, 10, 11, 12, 13, 14, 15, 16, 17, 18, 19, 20, 21], ?_⟩
    refine xO (by kernel_rfl) (b_n (t_n ?_))
    refine qy ?_
    refine sp (.int .i64 k) ?_
    refine sw (zJ k 1 rfl rfl (by omega) ?_)
    refine sp (.int .i64 (k + 1)) ?_
    refine qw ?_
    obtain ⟨bg103, e_bg103⟩ : ∃ z, z = (out_Bags.set (((((s.qg[i]!).qB)[k]!).qA).toNat) (jV (out_Bags[((((s.qg[i]!).qB)[k]!).qA).toNat]!) ((((s.qg[i]!).qB)[k]!).zW) (counts[i]!))) := ⟨_, rfl⟩
    rw [← e_bg103] at H
    have E_bg103 := Ent.addL (D := 1000000) E_out_Bags e_bg103 (by omega) (by omega) (by first | exact bn2.mul (by omega) | exact bn3.mul (by omega) | exact bn4.mul (by omega)) (by omega)
    have z_bg103 : bg103.length = s.qf.length := by rw [e_bg103, List.length_set]; omega
    have E_cur := E_bg103
    refine xF (m' := ((((s.qg[i]!).qB).length) - ((k + 1) : Int)).toNat) (by omega) ⟨_, k + 1, bg103, xs100, F101, (by exact qj (qj (qj (qj (qj (qj (qj (qj (rfl) rfl) rfl) rfl) rfl) rfl) rfl) rfl) rfl), ?_, ?_, ?_, rfl, (N.pick [1, 0]), H.pick [1, 2, 3, 4, 5, 6, 7] [0, 6, 7, 8, 9, 10, 11, 12, 13, 14, 15, 16, 17, 18, 19, 20, 21]⟩
    · omega
    · exact E_cur.to (fun p q => by simp only [intoF]; omega) (by omega)
    · omega
   replace h76 := of_decide_eq_false h76
   refine zy (t_x (t_x (b_x (b_n (t_n (qy ?_))))))
   refine sp (.int .i64 i) ?_
   refine sw (zJ i 1 rfl rfl (by omega) ?_)
   refine sp (.int .i64 (i + 1)) ?_
   refine qw ?_
   refine xF (m' := (counts.length - ((i + 1) : Int)).toNat) (by omega) ⟨_, i + 1, a69, (jV out_Around ((s.qg[i]!).zf) (counts[i]!)).length, c70, jV out_Around ((s.qg[i]!).zf) (counts[i]!), out_Bags, zq, xQ, (by exact qj (qj (qj (qj (qj (qj (rfl) rfl) rfl) rfl) rfl) rfl) rfl), ?_, ?_, ?_, rfl, N, H.pick [1, 2, 3, 0, 5, 6] [8, 0, 9, 10, 11, 12, 13, 14, 15, 16]⟩
   · omega
   · first | exact E_rest.to (fun p q => by simp only [putS_skip (s := s) (t := t) (counts := counts) (i := i) ‹_›]) (by omega) | exact E_out_Bags.to (fun p q => by rw [show k = ((s.qg[i]!).qB).length by omega]; simp only [putS, putF]; omega) (by omega)
   · omega
  replace h57 := ne_of_beq_false h57
  obtain ⟨bg104, e_bg104⟩ : ∃ z, z = (rest.set (((s.qg[i]!).qA).toNat) (jV (rest[((s.qg[i]!).qA).toNat]!) ((s.qg[i]!).xw) (counts[i]!))) := ⟨_, rfl⟩
  rw [← e_bg104] at H
  have E_bg104 := Ent.addL (D := 1000000) E_rest e_bg104 (by omega) (by omega) (by first | exact bn2.mul (by omega) | exact bn3.mul (by omega) | exact bn4.mul (by omega)) (by omega)
  have z_bg104 : bg104.length = s.qf.length := by rw [e_bg104, List.length_set]; omega
  have E_cur := E_bg104
  refine qm (qy ?_)
  refine sps [pp bs os, pp bt ot, pp b26 (o27 + (i : Int).toNat * 9), pp b26 (o27 + (i : Int).toNat * 9)] ?_
  refine sw (qM b26 (o27 + (i : Int).toNat * 9) 0 Tryz.underlying110 rfl rfl Tryz.sizeOf2 rfl ?_)
  refine sw (qE (.int .i64 ((s.qg[i]!).qA)) Tryz.isAgg2 rfl (H.xR 9 rfl 0 rfl) ?_)
  refine sw (xf #[pp bs os, pp bt ot, .int .i64 ((s.qg[i]!).qA)] rfl rfl Tryz.call107 (l02Parent_ok w51 s t ((s.qg[i]!).qA) bs os qp qo qO (aa b26 o27) qC xq bt ot qN qH xK xG xy zk qL qK xH (qG (H.get 12 rfl) 0 3) (H.get 13 rfl).1 (H.get 14 rfl).1 (qG (H.get 15 rfl) 0 3) (H.get 16 rfl).1 (H.get 17 rfl).1 (H.get 18 rfl).1 (by assumption) (by assumption) (by assumption)) ?_)
  rintro _ w105 rfl x106
  replace H := H.ext x106
  have pin := Vy (s := s) (t := t) (c := ((s.qg[i]!).qA)) p0.1 p1.2.2.1 (by omega) (by omega)
  refine sp (.int .i64 (qZ s t ((s.qg[i]!).qA))) ?_
  refine qw (t_n ?_)
  refine Qa rfl H [0, 1, 2, 3, 4, 6] fun H => ?_
  have S := H.Qc [0, 1, 2, 3, 4, 6] [0, 1, 2, 3, 4, 5, 6, 7, 8, 9, 10, 11, 12, 13, 14, 15, 16, 17, 18, 19]
  refine rt 0 (pp b19 (0 + 1)) (xE b19 (0) 1 Tryz.underlying38 rfl rfl Tryz.sizeOf27 rfl) S ?_
  refine rt 1 (.slice (aa b35 0) ((vg s t counts (vH (yu s t counts) counts.length)).length) rc3a) (xm Tryz.isAgg27 rfl (fun _ h => h.cell 1 rfl rfl)) S ?_
  refine rtp 2 (.int .i64 (qZ s t ((s.qg[i]!).qA))) S ?_
  refine rt 3 (pp b19 (0 + 1)) (xE b19 (0) 1 Tryz.underlying38 rfl rfl Tryz.sizeOf27 rfl) S ?_
  refine rt 4 (.slice (aa b35 0) ((vg s t counts (vH (yu s t counts) counts.length)).length) rc3a) (xm Tryz.isAgg27 rfl (fun _ h => h.cell 1 rfl rfl)) S ?_
  refine rtp 5 (.int .i64 (qZ s t ((s.qg[i]!).qA))) S ?_
  refine rt 6 (pp b35 (0 + (qZ s t ((s.qg[i]!).qA) : Int).toNat * 1)) (xN b35 (0) ((vg s t counts (vH (yu s t counts) counts.length)).length) rc3a (qZ s t ((s.qg[i]!).qA)) Tryz.underlying27 ti22 rfl rfl (by omega) (by omega)) S ?_
  refine rtp 8 (pp b26 (o27 + (i : Int).toNat * 9)) S ?_
  refine rtp 9 (pp b26 (o27 + (i : Int).toNat * 9)) S ?_
  refine rt 10 (pp b26 (o27 + (i : Int).toNat * 9 + 6)) (xE b26 (o27 + (i : Int).toNat * 9) 6 Tryz.underlying110 rfl rfl Tryz.sizeOf22 rfl) S ?_
  refine rt 11 (.slice ae29Out (((s.qg[i]!).zf).length) ce29Out) (xm Tryz.isAgg22 rfl (fun _ h => h.xR 9 rfl 6 rfl)) S ?_
  refine rtp 12 (.slice (aa b30 o31) counts.length ccounts) S ?_
  refine rtp 13 (.int .i64 i) S ?_
  refine rt 14 (pp b30 (o31 + (i : Int).toNat * 1)) (xN b30 (o31) counts.length ccounts i Tryz.underlying22 ti2 rfl rfl (by omega) (by omega)) S ?_
  refine rt 15 (.int .i64 (counts[i]!)) (xm Tryz.isAgg2 rfl (fun _ h => h.vP 19 rfl i (by omega) (by omega))) S ?_
  refine xB [7] (by kernel_rfl) (by simp) (zh rfl ?_ xC)
  obtain ⟨a108, c109, G110, s111, h112, H⟩ := H.jq 5 rfl 0 rfl (iv := qZ s t ((s.qg[i]!).qA)) ((qZ s t ((s.qg[i]!).qA)).toNat) (by omega) (by omega)
  refine qE (.slice a108 ((bg104[(qZ s t ((s.qg[i]!).qA)).toNat]!).length) c109) Tryz.isAgg22 rfl (h112) ?_
  refine ⟨H.pick [0, 1, 2, 3, 4, 6] [1, 2, 3, 4, 5, 6, 7, 8, 9, 10, 11, 12, 13, 14, 15, 16, 17, 18, 19, 20], ?_⟩
  refine xB [16] (by kernel_rfl) (by simp) (zh rfl ?_ xC)
  obtain ⟨u1, u2⟩ := Ent.rowL E_bg104 (c := (qZ s t ((s.qg[i]!).qA)).toNat) (by omega) (by omega) (by omega) (by omega)
  have u4 := (by first | exact bn2.jU (by omega) | exact bn3.jU (by omega) | exact bn4.jU (by omega) : SmallT ((s.qg[i]!).zf) (counts[i]!))
  have sz113 := H.base.size
  have lt114 := H.ltN (L := [F55, jJ]) [1, 11]
  refine xf #[.slice a108 ((bg104[(qZ s t ((s.qg[i]!).qA)).toNat]!).length) c109, .slice ae29Out (((s.qg[i]!).zf).length) ce29Out, .int .i64 (counts[i]!)] rfl rfl Tryz.call88 (XP w105.drew (bg104[(qZ s t ((s.qg[i]!).qA)).toNat]!) ((s.qg[i]!).zf) (counts[i]!) a108 c109 G110 ae29Out ce29Out Fe29Out (H.get 0 rfl).1 (H.get 8 rfl).1 (by first | assumption | omega) (by first | assumption | omega) (by first | assumption | omega)) ?_
  rintro v118 w116 r118 x117
  replace H := H.zF x117 r118
  obtain ⟨a119, c120, rfl, hc121, hm122⟩ := H.jP 0 rfl
  refine ⟨H.pick [1, 2, 3, 4, 5, 7] [1, 2, 3, 4, 5, 6, 7, 8, 9, 10, 11, 12, 13, 14, 15, 16, 17, 18, 19, 20], ?_⟩
  refine rt 17 (pp b35 (0 + (qZ s t ((s.qg[i]!).qA) : Int).toNat * 1)) (xN b35 (0) ((vg s t counts (vH (yu s t counts) counts.length)).length) rc3a (qZ s t ((s.qg[i]!).qA)) Tryz.underlying27 ti22 rfl rfl (by omega) (by omega)) (H.pick [1, 2, 3, 4, 5, 7] [1, 2, 3, 4, 5, 6, 7, 8, 9, 10, 11, 12, 13, 14, 15, 16, 17, 18, 19, 20]) ?_
  refine xB [18] (by kernel_rfl) (by simp) (zh rfl ?_ xC)
  obtain ⟨G124, N, hn125, H⟩ := H.yh 0 rfl N (H.XF [1, 11])
  try dsimp only [List.set] at H
  refine jh true H 6 rfl 2 rfl (.slice a119 ((jV (bg104[(qZ s t ((s.qg[i]!).qA)).toNat]!) ((s.qg[i]!).zf) (counts[i]!)).length) c120) 0 rfl rfl Tryz.sizeOf22 rfl rfl (i := ((qZ s t ((s.qg[i]!).qA)).toNat)) (by omega) (by omega) (by simp) fun w123 xs126 F127 hs128 H => ?_
  replace N : Fresh w.heap.size [F127, jJ] := (N.pick [1, 0, 2]).repl hs128
  try dsimp only [List.set] at H
  refine ⟨H.pick [1, 2, 3, 4, 5, 7] [3, 4, 5, 6, 7, 8, 9, 10, 11, 12, 13, 14, 15, 16, 17, 18, 19, 20, 21, 22], ?_⟩
  refine xO (by kernel_rfl) (t_n ?_)
  refine qm (qy ?_)
  refine sp (.int .i64 0) ?_
  refine qw (t_n (xu ?_))
  obtain ⟨bg129, e_bg129⟩ : ∃ z, z = (bg104.set ((qZ s t ((s.qg[i]!).qA)).toNat) (jV (bg104[(qZ s t ((s.qg[i]!).qA)).toNat]!) ((s.qg[i]!).zf) (counts[i]!))) := ⟨_, rfl⟩
  rw [← e_bg129] at H
  have E_bg129 := Ent.addL (D := 1000000) E_bg104 e_bg129 (by omega) (by omega) (by first | exact bn2.mul (by omega) | exact bn3.mul (by omega) | exact bn4.mul (by omega)) (by omega)
  have z_bg129 : bg129.length = s.qf.length := by rw [e_bg129, List.length_set]; omega
  have E_cur := E_bg129
  refine zG (fun m' ρ w130 => ∃ (junk : Env) (k : Nat) (out_Bags : List (List Int)) (zq : List Value) (xQ : List Nat), ρ = upd (upd (upd (upd (upd (upd (upd (upd junk 0 (pp bs os)) 1 (pp bt ot)) 2 (.slice (aa b30 o31) counts.length ccounts)) 6 (pp b1 0)) 10 (pp b19 0)) 11 (.int .i64 i)) 12 (pp b26 (o27 + (i : Int).toNat * 9))) 14 (.int .i64 k) ∧ ((k : Int) ≤ (((s.qg[i]!).qB).length)) ∧ (Ent (s.qf.length + 1) (QR s) (fun p q => base0 s t p q + needS s counts s.qg.length p q + putS s t counts i p q + at' p (s.qg[i]!).qA.toNat (counts[i]! * ((s.qg[i]!).xw)[q]!) + at' p (outPl s t (s.qg[i]!)) (counts[i]! * ((s.qg[i]!).zf)[q]!) + intoF (s.qg[i]!) (counts[i]!) k p q) (22000000 + 6000000 * i + 1000000 * k) (out_Bags ++ [out_Around])) ∧ (out_Bags.length = s.qf.length) ∧ m' = ((((s.qg[i]!).qB).length) - (k : Int)).toNat ∧ Fresh w.heap.size [jJ, xQ] ∧ St w w130 [.box b19 [.slice jw t.qh.length jv, .slice (aa b35 0) ((vg s t counts (vH (yu s t counts) counts.length)).length) rc3a, .slice zT zH zQ] 38, .row (.slice jw t.qh.length jv) 4 1 t.qh.length (t.qh.map (Value.bool)), .row (.slice ra11Bags t.qx.length rc11Bags) 22 1 t.qx.length Vo, .row (.slice zT zH zQ) 2 1 zH (out_Around.map (Value.int .i64)), .row (.slice (aa b35 0) ((vg s t counts (vH (yu s t counts) counts.length)).length) rc3a) 22 1 ((vg s t counts (vH (yu s t counts) counts.length)).length) zq, .box b1 [.slice none 0 0, .slice none 0 0, .slice none 0 0] 38] [vK true xQ zq out_Bags, isF false Fe29Need (.slice ae29Need (((s.qg[i]!).qW).length) ce29Need) ((s.qg[i]!).qW), isF false Fe29Have (.slice ae29Have (((s.qg[i]!).xg).length) ce29Have) ((s.qg[i]!).xg), isF false Fe29Lack (.slice ae29Lack (((s.qg[i]!).xk).length) ce29Lack) ((s.qg[i]!).xk), isF false Fe29Here (.slice ae29Here (((s.qg[i]!).xw).length) ce29Here) ((s.qg[i]!).xw), isF false Fe29Out (.slice ae29Out (((s.qg[i]!).zf).length) ce29Out) ((s.qg[i]!).zf), isF false Fe29Into (.slice ae29Into (((s.qg[i]!).qB).length) Xz) ((s.qg[i]!).qB), atF b26 (o27 + (i : Int).toNat * 9) [.int .i64 ((s.qg[i]!).qA), .int .i64 ((s.qg[i]!).xZ), .slice ae29Need (((s.qg[i]!).qW).length) ce29Need, .slice ae29Have (((s.qg[i]!).xg).length) ce29Have, .slice ae29Lack (((s.qg[i]!).xk).length) ce29Lack, .slice ae29Here (((s.qg[i]!).xw).length) ce29Here, .slice ae29Out (((s.qg[i]!).zf).length) ce29Out, .slice ae29Into (((s.qg[i]!).qB).length) Xz, .bool ((s.qg[i]!).xP)], vK true jJ Vo t.qx, atF bs os [.int .i64 s.qI, .slice qp s.qf.length qo, .slice (aa b26 o27) s.qg.length qC], isF false qO (.slice qp s.qf.length qo) s.qf, isF false xq (.slice (aa b26 o27) s.qg.length qC) s.qg, atF bt ot [.slice qN t.qh.length qH, .slice xG t.qx.length xy, .slice qL t.ql.length qK], isF false xK (.slice qN t.qh.length qH) t.qh, isF false zk (.slice xG t.qx.length xy) t.qx, isF false xH (.slice qL t.ql.length qK) t.ql, isF false Fcounts (.slice (aa b30 o31) counts.length ccounts) counts]) (((((s.qg[i]!).qB).length) - (0 : Int)).toNat) ⟨_, 0, bg129, xs126, F127, (by exact qj (qj (qj (qj (qj (qj (qj (qj (rfl) rfl) rfl) rfl) rfl) rfl) rfl) rfl) rfl), (by omega), (by exact E_cur.to (fun p q => by first | (simp only [intoF, outPl_root (s := s) (t := t) (r := s.qg[i]!) ‹_›, vY]; omega) | (simp only [intoF, outPl_up (s := s) (t := t) (r := s.qg[i]!) ‹_›]; omega)) (by omega)), (by omega), rfl, (N.pick [1, 0]), H.pick [2, 3, 4, 5, 6, 7] [0, 6, 7, 8, 9, 10, 11, 12, 13, 15, 16, 17, 18, 19, 20, 21, 22]⟩ ?_
  clear H N
  rintro m' ρ w131 ⟨junk, k, out_Bags, zq, xQ, rfl, i0, E_out_Bags, z_out_Bags, rfl, N, H⟩
  have Vs := H.zB (α := List Int) 4 rfl 0 rfl (by decide)
  refine qm (qm (qy ?_))
  refine sps [.int .i64 k, pp b26 (o27 + (i : Int).toNat * 9), pp b26 (o27 + (i : Int).toNat * 9)] ?_
  refine sw (qM b26 (o27 + (i : Int).toNat * 9) 7 Tryz.underlying110 rfl rfl Tryz.sizeOf108 rfl ?_)
  refine sw (qE (.slice ae29Into (((s.qg[i]!).qB).length) Xz) Tryz.isAgg108 rfl (H.xR 7 rfl 7 rfl) ?_)
  refine sw (zD Tryz.underlying108 ae29Into (((s.qg[i]!).qB).length) Xz rfl ?_)
  refine sp (.bool (decide ((k : Int) < (((s.qg[i]!).qB).length)))) ?_
  refine qw (t_n ?_)
  refine qV (decide ((k : Int) < (((s.qg[i]!).qB).length))) rfl (fun h132 => ?_) (fun h132 => ?_)
  ·skip
   replace h132 := of_decide_eq_true h132
   have qi := q.2.2.2.2.2.2.2.2.2.2 k (by omega)
   have qi1 := qi.1
   have bn4 := qi.2.2.1
   have ln4 := bn4.len
   refine xh (t_n (qm (xu (qm (qy ?_)))))
   refine sps [pp b26 (o27 + (i : Int).toNat * 9), pp b26 (o27 + (i : Int).toNat * 9)] ?_
   refine sw (qM b26 (o27 + (i : Int).toNat * 9) 7 Tryz.underlying110 rfl rfl Tryz.sizeOf108 rfl ?_)
   refine sw (qE (.slice ae29Into (((s.qg[i]!).qB).length) Xz) Tryz.isAgg108 rfl (H.xR 7 rfl 7 rfl) ?_)
   refine sp (.int .i64 k) ?_
   obtain ⟨b133, o134, rfl⟩ := H.addr 6 rfl (by omega)
   obtain ⟨ae136Bag, ce136Bag, Fe136Bag, H⟩ := H.jl 6 rfl k k (by omega) (by omega) (by omega)
   refine sw (xJ k Tryz.underlying108 ti115 rfl rfl (by omega) (by omega) ?_)
   refine sw (qM b133 (o134 + (k : Int).toNat * 2) 0 Tryz.underlying115 rfl rfl Tryz.sizeOf2 rfl ?_)
   refine sw (qE (.int .i64 ((((s.qg[i]!).qB)[k]!).qA)) Tryz.isAgg2 rfl (H.xR 1 rfl 0 rfl) ?_)
   refine sp (.int .i64 ((((s.qg[i]!).qB)[k]!).qA)) ?_
   refine qw (t_n ?_)
   refine Qa rfl H [0, 1, 2, 3, 5] fun H => ?_
   have S := H.Qc [0, 1, 2, 3, 5] [0, 1, 2, 3, 4, 5, 6, 7, 8, 9, 10, 11, 12, 13, 14, 15, 16, 17, 18]
   refine rt 0 (pp b19 (0 + 1)) (xE b19 (0) 1 Tryz.underlying38 rfl rfl Tryz.sizeOf27 rfl) S ?_
   refine rt 1 (.slice (aa b35 0) ((vg s t counts (vH (yu s t counts) counts.length)).length) rc3a) (xm Tryz.isAgg27 rfl (fun _ h => h.cell 0 rfl rfl)) S ?_
   refine rtp 2 (.int .i64 ((((s.qg[i]!).qB)[k]!).qA)) S ?_
   refine rt 3 (pp b19 (0 + 1)) (xE b19 (0) 1 Tryz.underlying38 rfl rfl Tryz.sizeOf27 rfl) S ?_
   refine rt 4 (.slice (aa b35 0) ((vg s t counts (vH (yu s t counts) counts.length)).length) rc3a) (xm Tryz.isAgg27 rfl (fun _ h => h.cell 0 rfl rfl)) S ?_
   refine rtp 5 (.int .i64 ((((s.qg[i]!).qB)[k]!).qA)) S ?_
   refine rt 6 (pp b35 (0 + ((((s.qg[i]!).qB)[k]!).qA : Int).toNat * 1)) (xN b35 (0) ((vg s t counts (vH (yu s t counts) counts.length)).length) rc3a ((((s.qg[i]!).qB)[k]!).qA) Tryz.underlying27 ti22 rfl rfl (by omega) (by omega)) S ?_
   refine rtp 8 (pp b26 (o27 + (i : Int).toNat * 9)) S ?_
   refine rtp 9 (pp b26 (o27 + (i : Int).toNat * 9)) S ?_
   refine rt 10 (pp b26 (o27 + (i : Int).toNat * 9 + 7)) (xE b26 (o27 + (i : Int).toNat * 9) 7 Tryz.underlying110 rfl rfl Tryz.sizeOf108 rfl) S ?_
   refine rt 11 (.slice (aa b133 o134) (((s.qg[i]!).qB).length) Xz) (xm Tryz.isAgg108 rfl (fun _ h => h.xR 9 rfl 7 rfl)) S ?_
   refine rtp 12 (.int .i64 k) S ?_
   refine rt 13 (pp b133 (o134 + (k : Int).toNat * 2)) (xN b133 (o134) (((s.qg[i]!).qB).length) Xz k Tryz.underlying108 ti115 rfl rfl (by omega) (by omega)) S ?_
   refine rt 14 (pp b133 (o134 + (k : Int).toNat * 2 + 1)) (xE b133 (o134 + (k : Int).toNat * 2) 1 Tryz.underlying115 rfl rfl Tryz.sizeOf22 rfl) S ?_
   refine rt 15 (.slice ae136Bag (((((s.qg[i]!).qB)[k]!).zW).length) ce136Bag) (xm Tryz.isAgg22 rfl (fun _ h => h.xR 1 rfl 1 rfl)) S ?_
   refine rtp 16 (.slice (aa b30 o31) counts.length ccounts) S ?_
   refine rtp 17 (.int .i64 i) S ?_
   refine rt 18 (pp b30 (o31 + (i : Int).toNat * 1)) (xN b30 (o31) counts.length ccounts i Tryz.underlying22 ti2 rfl rfl (by omega) (by omega)) S ?_
   refine rt 19 (.int .i64 (counts[i]!)) (xm Tryz.isAgg2 rfl (fun _ h => h.vP 18 rfl i (by omega) (by omega))) S ?_
   refine xB [7] (by kernel_rfl) (by simp) (zh rfl ?_ xC)
   obtain ⟨a138, c139, G140, s141, h142, H⟩ := H.jq 4 rfl 2 rfl (iv := (((s.qg[i]!).qB)[k]!).qA) (((((s.qg[i]!).qB)[k]!).qA).toNat) (by omega) (by omega)
   refine qE (.slice a138 ((out_Bags[((((s.qg[i]!).qB)[k]!).qA).toNat]!).length) c139) Tryz.isAgg22 rfl (h142) ?_
   refine ⟨H.pick [0, 1, 2, 3, 5] [1, 2, 3, 4, 5, 6, 7, 8, 9, 10, 11, 12, 13, 14, 15, 16, 17, 18, 19], ?_⟩
   refine xB [20] (by kernel_rfl) (by simp) (zh rfl ?_ xC)
   obtain ⟨u1, u2⟩ := Ent.rowL E_out_Bags (c := ((((s.qg[i]!).qB)[k]!).qA).toNat) (by omega) (by omega) (by omega) (by omega)
   have u4 := (by first | exact bn2.jU (by omega) | exact bn3.jU (by omega) | exact bn4.jU (by omega) : SmallT ((((s.qg[i]!).qB)[k]!).zW) (counts[i]!))
   have sz143 := H.base.size
   have lt144 := H.ltN (L := [jJ, xQ]) [11, 3]
   refine xf #[.slice a138 ((out_Bags[((((s.qg[i]!).qB)[k]!).qA).toNat]!).length) c139, .slice ae136Bag (((((s.qg[i]!).qB)[k]!).zW).length) ce136Bag, .int .i64 (counts[i]!)] rfl rfl Tryz.call88 (XP w131.drew (out_Bags[((((s.qg[i]!).qB)[k]!).qA).toNat]!) ((((s.qg[i]!).qB)[k]!).zW) (counts[i]!) a138 c139 G140 ae136Bag ce136Bag Fe136Bag (H.get 0 rfl).1 (H.get 1 rfl).1 (by first | assumption | omega) (by first | assumption | omega) (by first | assumption | omega)) ?_
   rintro v148 w146 r148 x147
   replace H := H.zF x147 r148
   obtain ⟨a149, c150, rfl, hc151, hm152⟩ := H.jP 0 rfl
   refine ⟨H.pick [1, 2, 3, 4, 6] [1, 2, 3, 4, 5, 6, 7, 8, 9, 10, 11, 12, 13, 14, 15, 16, 17, 18, 19], ?_⟩
   refine rt 21 (pp b35 (0 + ((((s.qg[i]!).qB)[k]!).qA : Int).toNat * 1)) (xN b35 (0) ((vg s t counts (vH (yu s t counts) counts.length)).length) rc3a ((((s.qg[i]!).qB)[k]!).qA) Tryz.underlying27 ti22 rfl rfl (by omega) (by omega)) (H.pick [1, 2, 3, 4, 6] [1, 2, 3, 4, 5, 6, 7, 8, 9, 10, 11, 12, 13, 14, 15, 16, 17, 18, 19]) ?_
   refine xB [22] (by kernel_rfl) (by simp) (zh rfl ?_ xC)
   obtain ⟨G154, N, hn155, H⟩ := H.yh 0 rfl N (H.XF [11, 3])
   try dsimp only [List.set] at H
   refine jh true H 5 rfl 4 rfl (.slice a149 ((jV (out_Bags[((((s.qg[i]!).qB)[k]!).qA).toNat]!) ((((s.qg[i]!).qB)[k]!).zW) (counts[i]!)).length) c150) 0 rfl rfl Tryz.sizeOf22 rfl rfl (i := (((((s.qg[i]!).qB)[k]!).qA).toNat)) (by omega) (by omega) (by simp) fun w153 xs156 F157 hs158 H => ?_
   replace N : Fresh w.heap.size [F157, jJ] := (N.pick [2, 0, 1]).repl hs158
   try dsimp only [List.set] at H
   refine ⟨H.pick [1, 2, 3, 4, 6] [3, 4, 5, 6, 7, 8, 9, 10, 11, 12, 13, 14, 15, 16, 17, 18, 19, 20, 21], ?_⟩
   refine xO (by kernel_rfl) (b_n (t_n ?_))
   refine qy ?_
   refine sp (.int .i64 k) ?_
   refine sw (zJ k 1 rfl rfl (by omega) ?_)
   refine sp (.int .i64 (k + 1)) ?_
   refine qw ?_
   obtain ⟨bg159, e_bg159⟩ : ∃ z, z = (out_Bags.set (((((s.qg[i]!).qB)[k]!).qA).toNat) (jV (out_Bags[((((s.qg[i]!).qB)[k]!).qA).toNat]!) ((((s.qg[i]!).qB)[k]!).zW) (counts[i]!))) := ⟨_, rfl⟩
   rw [← e_bg159] at H
   have E_bg159 := Ent.addL (D := 1000000) E_out_Bags e_bg159 (by omega) (by omega) (by first | exact bn2.mul (by omega) | exact bn3.mul (by omega) | exact bn4.mul (by omega)) (by omega)
   have z_bg159 : bg159.length = s.qf.length := by rw [e_bg159, List.length_set]; omega
   have E_cur := E_bg159
   refine xF (m' := ((((s.qg[i]!).qB).length) - ((k + 1) : Int)).toNat) (by omega) ⟨_, k + 1, bg159, xs156, F157, (by exact qj (qj (qj (qj (qj (qj (qj (qj (rfl) rfl) rfl) rfl) rfl) rfl) rfl) rfl) rfl), ?_, ?_, ?_, rfl, (N.pick [1, 0]), H.pick [1, 2, 3, 4, 5, 6] [0, 6, 7, 8, 9, 10, 11, 12, 13, 14, 15, 16, 17, 18, 19, 20, 21]⟩
   · omega
   · exact E_cur.to (fun p q => by simp only [intoF]; omega) (by omega)
   · omega
  replace h132 := of_decide_eq_false h132
  refine zy (t_x (t_x (b_x (b_n (t_n (qy ?_))))))
  refine sp (.int .i64 i) ?_
  refine sw (zJ i 1 rfl rfl (by omega) ?_)
  refine sp (.int .i64 (i + 1)) ?_
  refine qw ?_
  refine xF (m' := (counts.length - ((i + 1) : Int)).toNat) (by omega) ⟨_, i + 1, zT, zH, zQ, out_Around, out_Bags, zq, xQ, (by exact qj (qj (qj (qj (qj (qj (rfl) rfl) rfl) rfl) rfl) rfl) rfl), ?_, ?_, ?_, rfl, N, H.pick [0, 1, 2, 3, 4, 5] [8, 0, 9, 10, 11, 12, 13, 14, 15, 16]⟩
  · omega
  · first | exact E_rest.to (fun p q => by simp only [putS_skip (s := s) (t := t) (counts := counts) (i := i) ‹_›]) (by omega) | exact E_out_Bags.to (fun p q => by rw [show k = ((s.qg[i]!).qB).length by omega]; simp only [putS, putF]; omega) (by omega)
  · omega
 replace h25 := of_decide_eq_false h25
 refine zy (t_x (t_x (b_x (t_n (qm (qm (qy ?_)))))))
 refine sps [pp bs os, pp bs os] ?_
 refine sw (qM bs (os) 1 Tryz.underlying36 rfl rfl Tryz.sizeOf22 rfl ?_)
 refine sw (qE (.slice qp s.qf.length qo) Tryz.isAgg22 rfl (H.xR 2 rfl 1 rfl) ?_)
 refine sw (zD Tryz.underlying22 qp s.qf.length qo rfl ?_)
 refine sw (o_sub s.qf.length 1 rfl rfl (by omega) ?_)
 refine sp (.int .i64 (s.qf.length - 1)) ?_
 refine qw (t_n (xu ?_))
 obtain rfl : i = s.qg.length := by omega
 have hl := stepped_live (counts := counts) p1 (E_rest.to (g := fun p k => base0 s t p k + allS s t counts s.qg.length p k) (fun p k => by rw [allS_eq]; omega) (Int.le_refl _)) (by omega)
 obtain ⟨s1, s2⟩ := step_tab2 (by omega) E_rest
 subst s1 s2
 refine zG (fun m' ρ w160 => ∃ (junk : Env) (c : Int) (out_Alive : List Bool) (out_Bags : List (List Int)) (zq : List Value) (xQ : List Nat) (j : Nat), ρ = upd (upd (upd (upd (upd junk 0 (pp bs os)) 2 (.slice acounts counts.length ccounts)) 6 (pp b1 0)) 10 (pp b19 0)) 16 (.int .i64 c) ∧ out_Alive = (qY s counts (stepped s t counts) j).qh ∧ out_Bags = (qY s counts (stepped s t counts) j).qx ∧ (c = (s.qf.length : Int) - 1 - j) ∧ (j + 1 ≤ s.qf.length) ∧ m' = (c : Int).toNat ∧ Fresh w.heap.size [jJ, xQ] ∧ St w w160 [.box b19 [.slice jw t.qh.length jv, .slice ra3a ((vg s t counts (vH (yu s t counts) counts.length)).length) rc3a, .slice zT zH zQ] 38, .row (.slice jw t.qh.length jv) 4 1 t.qh.length (out_Alive.map (Value.bool)), .row (.slice ra11Bags t.qx.length rc11Bags) 22 1 t.qx.length Vo, .row (.slice zT zH zQ) 2 1 zH (((stepped s t counts).ql).map (Value.int .i64)), .row (.slice ra3a ((vg s t counts (vH (yu s t counts) counts.length)).length) rc3a) 22 1 ((vg s t counts (vH (yu s t counts) counts.length)).length) zq, .box b1 [.slice none 0 0, .slice none 0 0, .slice none 0 0] 38] [vK true jJ Vo t.qx, vK true xQ zq out_Bags, atF bs os [.int .i64 s.qI, .slice qp s.qf.length qo, .slice qF s.qg.length qC], isF false qO (.slice qp s.qf.length qo) s.qf, isF false xq (.slice qF s.qg.length qC) s.qg, isF false Fcounts (.slice acounts counts.length ccounts) counts]) (((s.qf.length - 1) : Int).toNat) ⟨_, s.qf.length - 1, t.qh, (stepped s t counts).qx, x_rest, F_rest, 0, (by exact qj (qj (qj (qj (qj (rfl) rfl) rfl) rfl) rfl) rfl), (by rfl), (by rfl), (by omega), (by omega), rfl, N, H.pick [0, 1, 2, 3, 4, 5] [0, 1, 2, 3, 4, 9]⟩ ?_
 clear H N
 rintro m' ρ w161 ⟨junk, c, out_Alive, out_Bags, zq, xQ, j, rfl, rfl, rfl, ic, jc, rfl, N, H⟩
 have hn_out_Alive := H.Vb 1 rfl
 have Vs := H.zB (α := List Int) 4 rfl 1 rfl (by decide)
 have L := meltDown_live (counts := counts) p0 hl j (by omega)
 have L1 := L.alive
 have L2 := L.root
 have L3 := L.bags.1
 rw [← y9 s counts (stepped s t counts) j] at H
 refine qm (qm (qy ?_))
 refine sps [.int .i64 c, .bool (decide ((c : Int) > 0))] ?_
 refine qw (t_n ?_)
 refine qV (decide ((c : Int) > 0)) rfl (fun h162 => ?_) (fun h162 => ?_)
 ·skip
  replace h162 := of_decide_eq_true h162
  have cin : CellIn s c := ⟨by omega, by omega⟩
  refine xh (t_n (qm (xu (qm (qy ?_)))))
  refine sp (.bool false) ?_
  refine qw (t_n (qm (qm (qy ?_))))
  refine sp (.int .i64 0) ?_
  refine qw (t_n (xu ?_))
  refine zG (fun m' ρ w163 => ∃ (junk : Env) (melts : Bool) (i_1 : Nat), ρ = upd (upd (upd (upd (upd (upd (upd junk 0 (pp bs os)) 2 (.slice acounts counts.length ccounts)) 6 (pp b1 0)) 10 (pp b19 0)) 16 (.int .i64 c)) 17 (.bool melts)) 18 (.int .i64 i_1) ∧ melts = dec (QU s counts c i_1) ∧ ((i_1 : Int) ≤ counts.length) ∧ m' = (counts.length - (i_1 : Int)).toNat ∧ Fresh w.heap.size [jJ, xQ] ∧ St w w163 [.box b19 [.slice jw t.qh.length jv, .slice ra3a ((vg s t counts (vH (yu s t counts) counts.length)).length) rc3a, .slice zT zH zQ] 38, .row (.slice jw t.qh.length jv) 4 1 t.qh.length (((qY s counts (stepped s t counts) j).qh).map (Value.bool)), .row (.slice ra11Bags t.qx.length rc11Bags) 22 1 t.qx.length Vo, .row (.slice zT zH zQ) 2 1 zH (((qY s counts (stepped s t counts) j).ql).map (Value.int .i64)), .row (.slice ra3a ((vg s t counts (vH (yu s t counts) counts.length)).length) rc3a) 22 1 ((vg s t counts (vH (yu s t counts) counts.length)).length) zq, .box b1 [.slice none 0 0, .slice none 0 0, .slice none 0 0] 38] [vK true jJ Vo t.qx, vK true xQ zq ((qY s counts (stepped s t counts) j).qx), atF bs os [.int .i64 s.qI, .slice qp s.qf.length qo, .slice qF s.qg.length qC], isF false qO (.slice qp s.qf.length qo) s.qf, isF false xq (.slice qF s.qg.length qC) s.qg, isF false Fcounts (.slice acounts counts.length ccounts) counts]) ((counts.length - (0 : Int)).toNat) ⟨_, false, 0, (by exact qj (qj (qj (qj (qj (qj (qj (rfl) rfl) rfl) rfl) rfl) rfl) rfl) rfl), (by exact (xA (melts_zero _ _ _)).symm), (by omega), rfl, N, H⟩ ?_
  clear H N
  rintro m' ρ w164 ⟨junk, melts, i_1, rfl, rfl, i0, rfl, N, H⟩
  refine qm (qm (qy ?_))
  refine sps [.int .i64 i_1, .slice acounts counts.length ccounts] ?_
  refine sw (zD Tryz.underlying22 acounts counts.length ccounts rfl ?_)
  refine sp (.bool (decide ((i_1 : Int) < counts.length))) ?_
  refine qw (t_n ?_)
  refine qV (decide ((i_1 : Int) < counts.length)) rfl (fun h165 => ?_) (fun h165 => ?_)
  ·skip
   replace h165 := of_decide_eq_true h165
   refine xh (t_n (qm (xu (qy ?_))))
   refine sps [.bool (dec (QU s counts c i_1)), .bool (dec (QU s counts c i_1))] ?_
   cases h166 : ((dec (QU s counts c i_1)))
   ·skip
    refine qR 172 rfl rfl ?_
    refine sp (.slice acounts counts.length ccounts) ?_
    refine qR 172 rfl rfl ?_
    refine sp (.int .i64 i_1) ?_
    refine qR 172 rfl rfl ?_
    obtain ⟨b167, o168, rfl⟩ := H.addr 5 rfl (by omega)
    refine sw (xJ i_1 Tryz.underlying22 ti2 rfl rfl (by omega) (by omega) ?_)
    refine qR 172 rfl rfl ?_
    refine sw (qE (.int .i64 (counts[i_1]!)) Tryz.isAgg2 rfl (H.vP 5 rfl i_1 (by omega) (by omega)) ?_)
    refine qR 172 rfl rfl ?_
    refine sp (.bool (decide ((counts[i_1]! : Int) > 0))) ?_
    refine qR 172 rfl rfl ?_
    refine sp (.bool (decide ((counts[i_1]! : Int) > 0))) ?_
    cases h170 : (decide ((counts[i_1]! : Int) > 0))
    ·skip
     replace h170 := of_decide_eq_false h170
     refine xY [179, 180, 181, 182, 183, 184, 185, 186] ?_
     refine qR 172 rfl rfl ?_
     refine sp (.bool false) ?_
     refine qR 172 rfl rfl ?_
     refine sp (.bool false) ?_
     refine xY [189, 190, 191, 192, 193, 194, 195, 196, 197, 198] ?_
     refine qR 172 rfl rfl ?_
     refine sps [.bool false, .bool false, .bool false] ?_
     refine qw (b_n (t_n (qy ?_)))
     refine sp (.int .i64 i_1) ?_
     refine sw (zJ i_1 1 rfl rfl (by omega) ?_)
     refine sp (.int .i64 (i_1 + 1)) ?_
     refine qw ?_
     refine xF (m' := (counts.length - ((i_1 + 1) : Int)).toNat) (by omega) ⟨_, false, i_1 + 1, (by exact qj (qj (qj (qj (qj (qj (qj (rfl) rfl) rfl) rfl) rfl) rfl) rfl) rfl), ?_, ?_, rfl, N, H⟩
     · first | exact melts_1 ‹_› | exact melts_2 ‹_› (by omega) | exact melts_3 ‹_› ‹_› | exact melts_4 ‹_› (by omega) ‹_›
     · omega
    replace h170 := of_decide_eq_true h170
    refine qR 178 rfl rfl ?_
    refine sp (pp bs os) ?_
    refine qR 178 rfl rfl ?_
    refine sp (pp bs os) ?_
    refine qR 178 rfl rfl ?_
    refine sw (qM bs (os) 2 Tryz.underlying36 rfl rfl Tryz.sizeOf34 rfl ?_)
    refine qR 178 rfl rfl ?_
    refine sw (qE (.slice qF s.qg.length qC) Tryz.isAgg34 rfl (H.xR 2 rfl 2 rfl) ?_)
    refine qR 178 rfl rfl ?_
    refine sp (.int .i64 i_1) ?_
    refine qR 178 rfl rfl ?_
    obtain ⟨b171, o172, rfl⟩ := H.addr 4 rfl (by omega)
    obtain ⟨ae174Need, ce174Need, Fe174Need, ae174Have, ce174Have, Fe174Have, ae174Lack, ce174Lack, Fe174Lack, ae174Here, ce174Here, Fe174Here, ae174Out, ce174Out, Fe174Out, ae174Into, ce174Into, Fe174Into, H⟩ := H.yE 4 rfl i_1 i_1 (by omega) (by omega) (by omega)
    refine sw (xJ i_1 Tryz.underlying34 ti110 rfl rfl (by omega) (by omega) ?_)
    refine qR 178 rfl rfl ?_
    refine sw (qM b171 (o172 + (i_1 : Int).toNat * 9) 8 Tryz.underlying110 rfl rfl Tryz.sizeOf4 rfl ?_)
    refine qR 178 rfl rfl ?_
    refine sw (qE (.bool ((s.qg[i_1]!).xP)) Tryz.isAgg4 rfl (H.xR 6 rfl 8 rfl) ?_)
    refine qR 172 rfl rfl ?_
    refine sp (.bool ((s.qg[i_1]!).xP)) ?_
    refine qR 172 rfl rfl ?_
    refine sp (.bool ((s.qg[i_1]!).xP)) ?_
    cases h175 : ((s.qg[i_1]!).xP)
    ·skip
     rw [h175] at H
     refine xY [189, 190, 191, 192, 193, 194, 195, 196, 197, 198] ?_
     refine qR 172 rfl rfl ?_
     refine sps [.bool false, .bool false, .bool false] ?_
     refine qw (b_n (t_n (qy ?_)))
     refine sp (.int .i64 i_1) ?_
     refine sw (zJ i_1 1 rfl rfl (by omega) ?_)
     refine sp (.int .i64 (i_1 + 1)) ?_
     refine qw ?_
     refine xF (m' := (counts.length - ((i_1 + 1) : Int)).toNat) (by omega) ⟨_, false, i_1 + 1, (by exact qj (qj (qj (qj (qj (qj (qj (rfl) rfl) rfl) rfl) rfl) rfl) rfl) rfl), ?_, ?_, rfl, N, H.pick [0, 1, 2, 3, 4, 5] [7, 8, 9, 10, 11, 12]⟩
     · first | exact melts_1 ‹_› | exact melts_2 ‹_› (by omega) | exact melts_3 ‹_› ‹_› | exact melts_4 ‹_› (by omega) ‹_›
     · omega
    rw [h175] at H
    refine qR 188 rfl rfl ?_
    refine sp (pp bs os) ?_
    refine qR 188 rfl rfl ?_
    refine sp (pp bs os) ?_
    refine qR 188 rfl rfl ?_
    refine sw (qM bs (os) 2 Tryz.underlying36 rfl rfl Tryz.sizeOf34 rfl ?_)
    refine qR 188 rfl rfl ?_
    refine sw (qE (.slice (aa b171 o172) s.qg.length qC) Tryz.isAgg34 rfl (H.xR 9 rfl 2 rfl) ?_)
    refine qR 188 rfl rfl ?_
    refine sp (.int .i64 i_1) ?_
    refine qR 188 rfl rfl ?_
    refine sw (xJ i_1 Tryz.underlying34 ti110 rfl rfl (by omega) (by omega) ?_)
    refine qR 188 rfl rfl ?_
    refine sw (qM b171 (o172 + (i_1 : Int).toNat * 9) 0 Tryz.underlying110 rfl rfl Tryz.sizeOf2 rfl ?_)
    refine qR 188 rfl rfl ?_
    refine sw (qE (.int .i64 ((s.qg[i_1]!).qA)) Tryz.isAgg2 rfl (H.xR 6 rfl 0 rfl) ?_)
    refine qR 188 rfl rfl ?_
    refine sp (.int .i64 c) ?_
    refine qR 188 rfl rfl ?_
    refine sp (.bool (((s.qg[i_1]!).qA : Int) == c)) ?_
    refine qR 172 rfl rfl ?_
    refine sps [.bool (((s.qg[i_1]!).qA : Int) == c), .bool (((s.qg[i_1]!).qA : Int) == c), .bool (((s.qg[i_1]!).qA : Int) == c)] ?_
    refine qw (b_n (t_n (qy ?_)))
    refine sp (.int .i64 i_1) ?_
    refine sw (zJ i_1 1 rfl rfl (by omega) ?_)
    refine sp (.int .i64 (i_1 + 1)) ?_
    refine qw ?_
    refine xF (m' := (counts.length - ((i_1 + 1) : Int)).toNat) (by omega) ⟨_, ((s.qg[i_1]!).qA : Int) == c, i_1 + 1, (by exact qj (qj (qj (qj (qj (qj (qj (rfl) rfl) rfl) rfl) rfl) rfl) rfl) rfl), ?_, ?_, rfl, N, H.pick [0, 1, 2, 3, 4, 5] [7, 8, 9, 10, 11, 12]⟩
    · first | exact melts_1 ‹_› | exact melts_2 ‹_› (by omega) | exact melts_3 ‹_› ‹_› | exact melts_4 ‹_› (by omega) ‹_›
    · omega
   refine xY [173, 174, 175, 176, 177, 178, 179, 180, 181, 182, 183, 184, 185, 186, 187, 188, 189, 190, 191, 192, 193, 194, 195, 196, 197, 198, 199] ?_
   refine sps [.bool true, .bool true] ?_
   refine qw (b_n (t_n (qy ?_)))
   refine sp (.int .i64 i_1) ?_
   refine sw (zJ i_1 1 rfl rfl (by omega) ?_)
   refine sp (.int .i64 (i_1 + 1)) ?_
   refine qw ?_
   refine xF (m' := (counts.length - ((i_1 + 1) : Int)).toNat) (by omega) ⟨_, true, i_1 + 1, (by exact qj (qj (qj (qj (qj (qj (qj (rfl) rfl) rfl) rfl) rfl) rfl) rfl) rfl), ?_, ?_, rfl, N, H⟩
   · first | exact melts_1 ‹_› | exact melts_2 ‹_› (by omega) | exact melts_3 ‹_› ‹_› | exact melts_4 ‹_› (by omega) ‹_›
   · omega
  replace h165 := of_decide_eq_false h165
  refine zy (t_x (t_x (b_x (t_n (qm (qy ?_))))))
  refine sp (.bool (dec (QU s counts c i_1))) ?_
  refine qw (t_n ?_)
  refine qV ((dec (QU s counts c i_1))) rfl (fun h176 => ?_) (fun h176 => ?_)
  ·skip
   refine qy ?_
   refine sps [pp bs os, .int .i64 c] ?_
   refine sw (Qd #[pp bs os, pp b19 0, .int .i64 c] rfl rfl Tryz.call108 ?_)
   refine enter (n := 49) Tryz.func108 rfl Tryz.ntmps108 (Nat.le_of_ble_eq_true rfl) ?_
   refine qm (qy ?_)
   refine sps [pp bs os, pp b19 0, .int .i64 c] ?_
   obtain ⟨G177, hn178, h179⟩ := H.rowIsB 1 rfl
   obtain ⟨G180, hn181, h182⟩ := H.rowIsR (α := List Int) 4 rfl 1 rfl (by decide)
   obtain ⟨G183, hn184, h185⟩ := H.rowIsI 3 rfl
   refine sw (xf #[pp bs os, pp b19 0, .int .i64 c] rfl rfl Tryz.call107 (l02Parent_ok w164 s (qY s counts (stepped s t counts) j) c bs os qp qo qO qF qC xq b19 0 jw jv G177 ra3a rc3a G180 zT zQ G183 (qG (H.get 2 rfl) 0 3) (H.get 3 rfl).1 (H.get 4 rfl).1 (by have hz := (qG (H.cells 0 rfl) 0 3); rw [hn178, hn181, hn184] at hz; exact hz) (hn178 ▸ h179) (hn181 ▸ h182) (hn184 ▸ h185) (by assumption) (by assumption) (by assumption)) ?_)
   rintro _ w186 rfl x187
   replace H := H.ext x187
   have pin := Vy (s := s) (t := (qY s counts (stepped s t counts) j)) (c := c) p0.1 L2 (by omega) (by omega)
   refine sp (.int .i64 (qZ s (qY s counts (stepped s t counts) j) c)) ?_
   refine qw (t_n (qm ?_))
   obtain ⟨b188, rfl⟩ := H.Vr 4 rfl (by omega)
   refine c_cut (fun ρ w189 => ∃ (junk : Env) (xs190 : List Value) (F191 : List Nat), ρ = upd (upd (upd junk 0 (pp bs os)) 1 (pp b19 0)) 2 (.int .i64 c) ∧ Fresh w.heap.size [F191, jJ] ∧ St w w189 [.box b19 [.slice jw t.qh.length jv, .slice (aa b188 0) ((vg s t counts (vH (yu s t counts) counts.length)).length) rc3a, .slice zT zH zQ] 38, .row (.slice jw t.qh.length jv) 4 1 t.qh.length (((qY s counts (stepped s t counts) j).qh).map (Value.bool)), .row (.slice ra11Bags t.qx.length rc11Bags) 22 1 t.qx.length Vo, .row (.slice zT zH zQ) 2 1 zH (((qY s counts (stepped s t counts) j).ql).map (Value.int .i64)), .row (.slice (aa b188 0) ((vg s t counts (vH (yu s t counts) counts.length)).length) rc3a) 22 1 ((vg s t counts (vH (yu s t counts) counts.length)).length) xs190, .box b1 [.slice none 0 0, .slice none 0 0, .slice none 0 0] 38] [vK true F191 xs190 (((qY s counts (stepped s t counts) j).qx).set ((qZ s (qY s counts (stepped s t counts) j) c).toNat) (jV (((qY s counts (stepped s t counts) j).qx)[(qZ s (qY s counts (stepped s t counts) j) c).toNat]!) (((qY s counts (stepped s t counts) j).qx)[c.toNat]!) 1)), vK true jJ Vo t.qx, atF bs os [.int .i64 s.qI, .slice qp s.qf.length qo, .slice qF s.qg.length qC], isF false qO (.slice qp s.qf.length qo) s.qf, isF false xq (.slice qF s.qg.length qC) s.qg, isF false Fcounts (.slice acounts counts.length ccounts) counts]) ?_ ?_
   ·skip
    refine Qa rfl H [0, 1, 2, 3, 5] fun H => ?_
    have S := H.Qc [0, 1, 2, 3, 5] [0, 1, 2, 3, 4, 5]
    refine rtp 0 (pp b19 0) S ?_
    refine rtp 1 (pp b19 0) S ?_
    refine rt 2 (pp b19 (0 + 1)) (xE b19 (0) 1 Tryz.underlying38 rfl rfl Tryz.sizeOf27 rfl) S ?_
    refine rt 3 (.slice (aa b188 0) ((vg s t counts (vH (yu s t counts) counts.length)).length) rc3a) (xm Tryz.isAgg27 rfl (fun _ h => h.cell 0 rfl rfl)) S ?_
    refine rtp 4 (.int .i64 (qZ s (qY s counts (stepped s t counts) j) c)) S ?_
    refine rtp 5 (pp b19 0) S ?_
    refine rtp 6 (pp b19 0) S ?_
    refine rt 7 (pp b19 (0 + 1)) (xE b19 (0) 1 Tryz.underlying38 rfl rfl Tryz.sizeOf27 rfl) S ?_
    refine rt 8 (.slice (aa b188 0) ((vg s t counts (vH (yu s t counts) counts.length)).length) rc3a) (xm Tryz.isAgg27 rfl (fun _ h => h.cell 0 rfl rfl)) S ?_
    refine rtp 9 (.int .i64 (qZ s (qY s counts (stepped s t counts) j) c)) S ?_
    refine rt 10 (pp b188 (0 + (qZ s (qY s counts (stepped s t counts) j) c : Int).toNat * 1)) (xN b188 (0) ((vg s t counts (vH (yu s t counts) counts.length)).length) rc3a (qZ s (qY s counts (stepped s t counts) j) c) Tryz.underlying27 ti22 rfl rfl (by omega) (by omega)) S ?_
    refine rtp 12 (pp b19 0) S ?_
    refine rtp 13 (pp b19 0) S ?_
    refine rt 14 (pp b19 (0 + 1)) (xE b19 (0) 1 Tryz.underlying38 rfl rfl Tryz.sizeOf27 rfl) S ?_
    refine rt 15 (.slice (aa b188 0) ((vg s t counts (vH (yu s t counts) counts.length)).length) rc3a) (xm Tryz.isAgg27 rfl (fun _ h => h.cell 0 rfl rfl)) S ?_
    refine rtp 16 (.int .i64 c) S ?_
    refine rt 17 (pp b188 (0 + (c : Int).toNat * 1)) (xN b188 (0) ((vg s t counts (vH (yu s t counts) counts.length)).length) rc3a c Tryz.underlying27 ti22 rfl rfl (by omega) (by omega)) S ?_
    refine xB [11, 18] (by kernel_rfl) (by simp) (zh rfl ?_ (zh rfl ?_ xC))
    ·skip
     obtain ⟨a193, c194, G195, s196, h197, H⟩ := H.jq 4 rfl 1 rfl (iv := qZ s (qY s counts (stepped s t counts) j) c) ((qZ s (qY s counts (stepped s t counts) j) c).toNat) (by omega) (by omega)
     refine qE (.slice a193 ((((qY s counts (stepped s t counts) j).qx)[(qZ s (qY s counts (stepped s t counts) j) c).toNat]!).length) c194) Tryz.isAgg22 rfl (h197) ?_
     refine ⟨H.pick [0, 1, 2, 3, 5] [1, 2, 3, 4, 5, 6], ?_⟩
     refine xB [18] (by kernel_rfl) (by simp) (zh rfl ?_ xC)
     obtain ⟨a198, c199, G200, s201, h202, H⟩ := H.jq 4 rfl 2 rfl (iv := c) c.toNat (by omega) (by omega)
     refine qE (.slice a198 ((((qY s counts (stepped s t counts) j).qx)[c.toNat]!).length) c199) Tryz.isAgg22 rfl (h202) ?_
     refine ⟨H.pick [0, 1, 2, 3, 5] [2, 3, 4, 5, 6, 7], ?_⟩
     refine xB [19] (by kernel_rfl) (by simp) (zh rfl ?_ xC)
     obtain ⟨u1, u2, u4⟩ := L.rows p0 (bnd_le (by omega)) (p := (qZ s (qY s counts (stepped s t counts) j) c).toNat) (c := c.toNat) (by omega) (by omega)
     have sz203 := H.base.size
     have lt204 := H.ltN (L := [jJ, xQ]) [2, 3]
     refine xf #[.slice a193 ((((qY s counts (stepped s t counts) j).qx)[(qZ s (qY s counts (stepped s t counts) j) c).toNat]!).length) c194, .slice a198 ((((qY s counts (stepped s t counts) j).qx)[c.toNat]!).length) c199, .int .i64 1] rfl rfl Tryz.call88 (XP w186.drew (((qY s counts (stepped s t counts) j).qx)[(qZ s (qY s counts (stepped s t counts) j) c).toNat]!) (((qY s counts (stepped s t counts) j).qx)[c.toNat]!) 1 a193 c194 G195 a198 c199 G200 (H.get 1 rfl).1 (H.get 0 rfl).1 (by first | assumption | omega) (by first | assumption | omega) (by first | assumption | omega)) ?_
     rintro v208 w206 r208 x207
     replace H := H.zF x207 r208
     obtain ⟨a209, c210, rfl, hc211, hm212⟩ := H.jP 0 rfl
     refine ⟨H.pick [1, 2, 3, 4, 6] [2, 3, 4, 5, 6, 7], ?_⟩
     refine rt 20 (pp b188 (0 + (qZ s (qY s counts (stepped s t counts) j) c : Int).toNat * 1)) (xN b188 (0) ((vg s t counts (vH (yu s t counts) counts.length)).length) rc3a (qZ s (qY s counts (stepped s t counts) j) c) Tryz.underlying27 ti22 rfl rfl (by omega) (by omega)) (H.pick [1, 2, 3, 4, 6] [2, 3, 4, 5, 6, 7]) ?_
     refine xB [21] (by kernel_rfl) (by simp) (zh rfl ?_ xC)
     obtain ⟨G214, N, hn215, H⟩ := H.yh 0 rfl N (H.XF [2, 3])
     try dsimp only [List.set] at H
     refine jh true H 5 rfl 4 rfl (.slice a209 ((jV (((qY s counts (stepped s t counts) j).qx)[(qZ s (qY s counts (stepped s t counts) j) c).toNat]!) (((qY s counts (stepped s t counts) j).qx)[c.toNat]!) 1).length) c210) 0 rfl rfl Tryz.sizeOf22 rfl rfl (i := ((qZ s (qY s counts (stepped s t counts) j) c).toNat)) (by omega) (by omega) (by simp) fun w213 xs216 F217 hs218 H => ?_
     replace N : Fresh w.heap.size [F217, jJ] := (N.pick [2, 0, 1]).repl hs218
     try dsimp only [List.set] at H
     refine ⟨H.pick [1, 2, 3, 4, 6] [4, 5, 6, 7, 8, 9], ?_⟩
     refine xO (by kernel_rfl) (?_)
     exact meet ⟨_, xs216, F217, (by exact qj (qj (qj (rfl) rfl) rfl) rfl), N, H.pick [1, 2, 3, 4, 5, 6] [0, 4, 6, 7, 8, 9]⟩
    obtain ⟨a219, c220, G221, s222, h223, H⟩ := H.jq 4 rfl 1 rfl (iv := c) c.toNat (by omega) (by omega)
    refine qE (.slice a219 ((((qY s counts (stepped s t counts) j).qx)[c.toNat]!).length) c220) Tryz.isAgg22 rfl (h223) ?_
    refine ⟨H.pick [0, 1, 2, 3, 5] [1, 2, 3, 4, 5, 6], ?_⟩
    refine xB [11] (by kernel_rfl) (by simp) (zh rfl ?_ xC)
    obtain ⟨a224, c225, G226, s227, h228, H⟩ := H.jq 4 rfl 2 rfl (iv := qZ s (qY s counts (stepped s t counts) j) c) ((qZ s (qY s counts (stepped s t counts) j) c).toNat) (by omega) (by omega)
    refine qE (.slice a224 ((((qY s counts (stepped s t counts) j).qx)[(qZ s (qY s counts (stepped s t counts) j) c).toNat]!).length) c225) Tryz.isAgg22 rfl (h228) ?_
    refine ⟨H.pick [0, 1, 2, 3, 5] [2, 3, 4, 5, 6, 7], ?_⟩
    refine xB [19] (by kernel_rfl) (by simp) (zh rfl ?_ xC)
    obtain ⟨u1, u2, u4⟩ := L.rows p0 (bnd_le (by omega)) (p := (qZ s (qY s counts (stepped s t counts) j) c).toNat) (c := c.toNat) (by omega) (by omega)
    have sz229 := H.base.size
    have lt230 := H.ltN (L := [jJ, xQ]) [2, 3]
    refine xf #[.slice a224 ((((qY s counts (stepped s t counts) j).qx)[(qZ s (qY s counts (stepped s t counts) j) c).toNat]!).length) c225, .slice a219 ((((qY s counts (stepped s t counts) j).qx)[c.toNat]!).length) c220, .int .i64 1] rfl rfl Tryz.call88 (XP w186.drew (((qY s counts (stepped s t counts) j).qx)[(qZ s (qY s counts (stepped s t counts) j) c).toNat]!) (((qY s counts (stepped s t counts) j).qx)[c.toNat]!) 1 a224 c225 G226 a219 c220 G221 (H.get 0 rfl).1 (H.get 1 rfl).1 (by first | assumption | omega) (by first | assumption | omega) (by first | assumption | omega)) ?_
    rintro v234 w232 r234 x233
    replace H := H.zF x233 r234
    obtain ⟨a235, c236, rfl, hc237, hm238⟩ := H.jP 0 rfl
    refine ⟨H.pick [1, 2, 3, 4, 6] [2, 3, 4, 5, 6, 7], ?_⟩
    refine rt 20 (pp b188 (0 + (qZ s (qY s counts (stepped s t counts) j) c : Int).toNat * 1)) (xN b188 (0) ((vg s t counts (vH (yu s t counts) counts.length)).length) rc3a (qZ s (qY s counts (stepped s t counts) j) c) Tryz.underlying27 ti22 rfl rfl (by omega) (by omega)) (H.pick [1, 2, 3, 4, 6] [2, 3, 4, 5, 6, 7]) ?_
    refine xB [21] (by kernel_rfl) (by simp) (zh rfl ?_ xC)
    obtain ⟨G240, N, hn241, H⟩ := H.yh 0 rfl N (H.XF [2, 3])
    try dsimp only [List.set] at H
    refine jh true H 5 rfl 4 rfl (.slice a235 ((jV (((qY s counts (stepped s t counts) j).qx)[(qZ s (qY s counts (stepped s t counts) j) c).toNat]!) (((qY s counts (stepped s t counts) j).qx)[c.toNat]!) 1).length) c236) 0 rfl rfl Tryz.sizeOf22 rfl rfl (i := ((qZ s (qY s counts (stepped s t counts) j) c).toNat)) (by omega) (by omega) (by simp) fun w239 xs242 F243 hs244 H => ?_
    replace N : Fresh w.heap.size [F243, jJ] := (N.pick [2, 0, 1]).repl hs244
    try dsimp only [List.set] at H
    refine ⟨H.pick [1, 2, 3, 4, 6] [4, 5, 6, 7, 8, 9], ?_⟩
    refine xO (by kernel_rfl) (?_)
    exact meet ⟨_, xs242, F243, (by exact qj (qj (qj (rfl) rfl) rfl) rfl), N, H.pick [1, 2, 3, 4, 5, 6] [0, 4, 6, 7, 8, 9]⟩
   clear H N
   rintro ρ w245 ⟨junk, xs190, F191, rfl, N, H⟩
   refine t_n (qm ?_)
   refine Qa rfl H [0, 1, 2, 3, 5] fun H => ?_
   have S := H.Qc [0, 1, 2, 3, 5] [0, 1, 2, 3, 4, 5]
   refine rtp 0 (pp b19 0) S ?_
   refine rtp 1 (pp b19 0) S ?_
   refine rt 2 (pp b19 (0 + 1)) (xE b19 (0) 1 Tryz.underlying38 rfl rfl Tryz.sizeOf27 rfl) S ?_
   refine rt 3 (.slice (aa b188 0) ((vg s t counts (vH (yu s t counts) counts.length)).length) rc3a) (xm Tryz.isAgg27 rfl (fun _ h => h.cell 0 rfl rfl)) S ?_
   refine rtp 4 (.int .i64 c) S ?_
   refine rtp 5 (pp bs os) S ?_
   refine rtp 6 (pp bs os) S ?_
   refine rt 7 (pp bs (os + 0)) (xE bs (os) 0 Tryz.underlying36 rfl rfl Tryz.sizeOf2 rfl) S ?_
   refine rt 8 (.int .i64 s.qI) (xm Tryz.isAgg2 rfl (fun _ h => h.xR 2 rfl 0 rfl)) S ?_
   refine xB [9] (by kernel_rfl) (by simp) (zh rfl ?_ xC)
   refine o_makeI H Tryz.underlying22 ti2 s.qI.toNat rfl rfl (by omega) (by omega) (by omega) fun b247 w248 H => ?_
   refine ⟨H.pick [1, 2, 3, 4, 6] [0, 1, 2, 3, 4, 5], ?_⟩
   refine rt 10 (pp b188 (0 + (c : Int).toNat * 1)) (xN b188 (0) ((vg s t counts (vH (yu s t counts) counts.length)).length) rc3a c Tryz.underlying27 ti22 rfl rfl (by omega) (by omega)) (H.pick [1, 2, 3, 4, 6] [0, 1, 2, 3, 4, 5]) ?_
   refine xB [11] (by kernel_rfl) (by simp) (zh rfl ?_ xC)
   obtain ⟨G250, N, hn251, H⟩ := H.yh 0 rfl N (H.XF [0, 1])
   try dsimp only [List.set] at H
   refine jh true H 5 rfl 1 rfl (.slice (aa b247 0) s.qI.toNat s.qI.toNat) 0 rfl rfl Tryz.sizeOf22 rfl rfl (i := c.toNat) (by omega) (by omega) (by simp) fun w249 xs252 F253 hs254 H => ?_
   replace N : Fresh w.heap.size [F253, jJ] := (N.pick [1, 0, 2]).repl hs254
   try dsimp only [List.set] at H
   refine ⟨H.pick [1, 2, 3, 4, 6] [2, 3, 4, 5, 6, 7], ?_⟩
   refine xO (by kernel_rfl) (t_n ?_)
   refine qy ?_
   refine sps [pp b19 0, pp b19 0] ?_
   refine sw (qM b19 (0) 0 Tryz.underlying38 rfl rfl Tryz.sizeOf26 rfl ?_)
   refine sw (qE (.slice jw t.qh.length jv) Tryz.isAgg26 rfl (H.cell 1 rfl rfl) ?_)
   refine sp (.int .i64 c) ?_
   obtain ⟨b255, rfl⟩ := H.Vr 2 rfl (by omega)
   refine sw (xJ c Tryz.underlying26 ti4 rfl rfl (by omega) (by omega) ?_)
   refine sw (QE H 2 rfl false Tryz.sizeOf4 rfl rfl (i := c.toNat) (by omega) (by omega) fun w256 H => ?_)
   try dsimp only [List.set] at H
   refine qw ?_
   refine ret0 rfl ⟨_, rfl, ?_⟩
   replace H := H.erases [0]
   dsimp only [Qe, List.eraseIdx] at H
   refine qw (b_n (t_n (qy ?_)))
   refine sp (.int .i64 c) ?_
   refine sw (o_sub c 1 rfl rfl (by omega) ?_)
   refine sp (.int .i64 (c - 1)) ?_
   refine qw ?_
   rw [y9] at H
   refine xF (m' := ((c - 1) : Int).toNat) (by omega) ⟨_, c - 1, (((qY s counts (stepped s t counts) j).qh).set c.toNat false), ((((qY s counts (stepped s t counts) j).qx).set ((qZ s (qY s counts (stepped s t counts) j) c).toNat) (jV (((qY s counts (stepped s t counts) j).qx)[(qZ s (qY s counts (stepped s t counts) j) c).toNat]!) (((qY s counts (stepped s t counts) j).qx)[c.toNat]!) 1)).set c.toNat (List.replicate s.qI.toNat (0 : Int))), xs252, F253, j + 1, (by exact qj (qj (qj (qj (qj (rfl) rfl) rfl) rfl) rfl) rfl), ?_, ?_, ?_, ?_, rfl, (N.pick [1, 0]), H.pick [0, 1, 2, 3, 4, 5] [3, 0, 4, 5, 6, 7]⟩
   · first | (rw [Qy (c := c) (i := i_1) ‹_› (by omega) ic]; done) | (rw [Qy (c := c) (i := i_1) ‹_› (by omega) ic]; rfl) | rw [meltDown_no' (c := c) (i := i_1) ‹_› (by omega) ic]
   · first | (rw [Qy (c := c) (i := i_1) ‹_› (by omega) ic]; done) | (rw [Qy (c := c) (i := i_1) ‹_› (by omega) ic]; rfl) | rw [meltDown_no' (c := c) (i := i_1) ‹_› (by omega) ic]
   · omega
   · omega
  refine xh (b_n (t_n (qy ?_)))
  refine sp (.int .i64 c) ?_
  refine sw (o_sub c 1 rfl rfl (by omega) ?_)
  refine sp (.int .i64 (c - 1)) ?_
  refine qw ?_
  rw [y9] at H
  refine xF (m' := ((c - 1) : Int).toNat) (by omega) ⟨_, c - 1, ((qY s counts (stepped s t counts) j).qh), ((qY s counts (stepped s t counts) j).qx), zq, xQ, j + 1, (by exact qj (qj (qj (qj (qj (rfl) rfl) rfl) rfl) rfl) rfl), ?_, ?_, ?_, ?_, rfl, N, H⟩
  · first | (rw [Qy (c := c) (i := i_1) ‹_› (by omega) ic]; done) | (rw [Qy (c := c) (i := i_1) ‹_› (by omega) ic]; rfl) | rw [meltDown_no' (c := c) (i := i_1) ‹_› (by omega) ic]
  · first | (rw [Qy (c := c) (i := i_1) ‹_› (by omega) ic]; done) | (rw [Qy (c := c) (i := i_1) ‹_› (by omega) ic]; rfl) | rw [meltDown_no' (c := c) (i := i_1) ‹_› (by omega) ic]
  · omega
  · omega
 replace h162 := of_decide_eq_false h162
 refine zy (t_x (t_x (b_x (t_n (qm (qy ?_))))))
 refine sp (pp bs os) ?_
 refine sw (Qd #[pp bs os, pp b19 0] rfl rfl Tryz.call109 ?_)
 refine enter (n := 14) Tryz.func109 rfl Tryz.ntmps109 (Nat.le_of_ble_eq_true rfl) ?_
 refine qm (qy ?_)
 refine sw (zL H ti38 [.slice none 0 0, .slice none 0 0, .slice none 0 0] fun b257 w258 H => ?_)
 refine sp (.int .i64 0) ?_
 refine qw (t_n (qm (qm (qy ?_))))
 refine sps [pp bs os, pp b19 0] ?_
 obtain ⟨G259, hn260, h261⟩ := H.rowIsB 2 rfl
 obtain ⟨G262, hn263, h264⟩ := H.rowIsR (α := List Int) 5 rfl 1 rfl (by decide)
 obtain ⟨G265, hn266, h267⟩ := H.rowIsI 4 rfl
 refine sw (xf #[pp bs os, pp b19 0] rfl rfl Tryz.call85 (l02State_ok w258 s (qY s counts (stepped s t counts) j) bs os qp qo qO qF qC xq b19 0 jw jv G259 ra3a rc3a G262 zT zQ G265 (qG (H.get 2 rfl) 0 3) (H.get 3 rfl).1 (H.get 4 rfl).1 (by have hz := (qG (H.cells 1 rfl) 0 3); rw [hn260, hn263, hn266] at hz; exact hz) (hn260 ▸ h261) (hn263 ▸ h264) (hn266 ▸ h267) (by first | assumption | exact (And.left (by assumption : Qb _)))) ?_)
 rintro _ w268 rfl x269
 replace H := H.ext x269
 refine sp (.bool (!(dec (zM s (qY s counts (stepped s t counts) j))))) ?_
 refine qw (t_n ?_)
 refine qV (!(dec (zM s (qY s counts (stepped s t counts) j)))) rfl (fun h270 => ?_) (fun h270 => ?_)
 ·skip
  replace h270 := xe h270
  replace h270 := zg h270
  refine qm (qy ?_)
  refine sw (jQ [.slice none 0 0, .slice none 0 0, .slice none 0 0] [] ?_)
  refine sw (zn H 0 [.slice none 0 0, .slice none 0 0, .slice none 0 0] Tryz.sizeOf38 fun w271 H => ?_)
  try dsimp only [List.set] at H
  refine sp (.int .i64 3) ?_
  refine qw (t_n (xx (t_r ?_)))
  refine retC2 H 0 rfl (.int .i64 3) rfl Tryz.isAgg38 Tryz.sizeOf38 rfl rfl ⟨_, rfl, ?_⟩
  replace H := H.erases [0]
  dsimp only [Qe, List.eraseIdx] at H
  refine sps [.agg #[.slice none 0 0, .slice none 0 0, .slice none 0 0], .int .i64 3] ?_
  refine sw (zn H 5 [.slice none 0 0, .slice none 0 0, .slice none 0 0] Tryz.sizeOf38 fun w272 H => ?_)
  try dsimp only [List.set] at H
  refine sp (.int .i64 3) ?_
  refine qw (t_n (xx ?_))
  replace H := H.nilRowB 4
  replace H := H.nilRow 22 1
  replace H := H.Q5 (α := List Int)
  replace H := H.nilRowI 2
  refine retC2 H 8 rfl (.int .i64 3) rfl Tryz.isAgg38 Tryz.sizeOf38 rfl rfl ⟨_, rfl, ?_, H.base⟩
  rw [stepBy_yes ‹_›, stepRes, show vY s - 1 = j by omega, told_no ‹_›]
  exact ⟨none, 0, 0, none, 0, 0, [], [], none, 0, 0, rfl, (N.emp.pick [0]), H.pick [2, 1, 0] [0]⟩
 replace h270 := qX h270
 replace h270 := jA h270
 refine xh (t_n (qm (qy ?_)))
 refine sps [pp b19 0, pp b19 0] ?_
 refine sw (zi [.slice jw t.qh.length jv, .slice ra3a ((vg s t counts (vH (yu s t counts) counts.length)).length) rc3a, .slice zT zH zQ] Tryz.isAgg38 Tryz.sizeOf38 rfl (qG (H.cells 1 rfl) 0 3) ?_)
 refine sw (zn H 0 [.slice jw t.qh.length jv, .slice ra3a ((vg s t counts (vH (yu s t counts) counts.length)).length) rc3a, .slice zT zH zQ] Tryz.sizeOf38 fun w273 H => ?_)
 try dsimp only [List.set] at H
 refine sp (.int .i64 0) ?_
 refine qw (t_n (xx ?_))
 refine retC2 H 0 rfl (.int .i64 0) rfl Tryz.isAgg38 Tryz.sizeOf38 rfl rfl ⟨_, rfl, ?_⟩
 replace H := H.erases [0]
 dsimp only [Qe, List.eraseIdx] at H
 refine sps [.agg #[.slice jw t.qh.length jv, .slice ra3a ((vg s t counts (vH (yu s t counts) counts.length)).length) rc3a, .slice zT zH zQ], .int .i64 0] ?_
 refine sw (zn H 5 [.slice jw t.qh.length jv, .slice ra3a ((vg s t counts (vH (yu s t counts) counts.length)).length) rc3a, .slice zT zH zQ] Tryz.sizeOf38 fun w274 H => ?_)
 try dsimp only [List.set] at H
 refine sp (.int .i64 0) ?_
 refine qw (t_n (xx ?_))
 refine retC2 H 5 rfl (.int .i64 0) rfl Tryz.isAgg38 Tryz.sizeOf38 rfl rfl ⟨_, rfl, ?_, H.base⟩
 rw [stepBy_yes ‹_›, stepRes, show vY s - 1 = j by omega, told_yes ‹_›]
 exact ⟨jw, t.qh.length, jv, ra3a, (vg s t counts (vH (yu s t counts) counts.length)).length, rc3a, zq, xQ, zT, zH, zQ, rfl, (N.pick [1]), H.pick [1, 4, 3] [1]⟩

end Go.Proofs.YtkmlihdacnfhdaaGreat
