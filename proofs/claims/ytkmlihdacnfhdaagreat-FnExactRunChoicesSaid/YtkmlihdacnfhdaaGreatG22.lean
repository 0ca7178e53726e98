/- Walks, printed by program (wip/tools/gv.py): what each function comes to, for all arguments. -/
import Derived.Test.YtkmlihdacnfhdaaGreatG20
import Derived.Test.YtkmlihdacnfhdaaGreatPA
namespace Go.Proofs.YtkmlihdacnfhdaaGreat
open Go.Proofs.YtkmlihdacnfhdaaGreat.Tot (tot)
open Go.Proofs.YtkmlihdacnfhdaaGreat.Mark (cnt mrk mkd mkd_mark cnt_mark)
open Go.RowKit
set_option linter.unusedVariables false
set_option linter.unusedSimpArgs false
set_option maxRecDepth 100000
set_option maxHeartbeats 4000000

theorem ti27 : TI Tryz.prog 27 (.slice none 0 0) 1 24 := by unfold TI; kernel_rfl


theorem l03Most_ok (w : World) (s : qX) (t : qU) (counts : List Int) (bs os : Nat) (qw : Option Addr) (qo : Nat) (qO : List Nat) (qF : Option Addr) (qB : Nat) (xw : List Nat) (bt ot : Nat) (qM : Option Addr) (qI : Nat) (xJ : List Nat) (xF : Option Addr) (xn : Nat) (zq : List Nat) (qL : Option Addr) (qK : Nat) (xI : List Nat) (acounts : Option Addr) (ccounts : Nat) (Fcounts : List Nat) (hs : jb w bs os [.int .i64 s.qJ, .slice qw s.qf.length qo, .slice qF s.qg.length qB]) (xx : qV.rep w qO [.slice qw s.qf.length qo] s.qf) (xM : qV.rep w xw [.slice qF s.qg.length qB] s.qg) (ht : jb w bt ot [.slice qM t.qh.length qI, .slice xF t.qp.length xn, .slice qL t.ql.length qK]) (zo : qV.rep w xJ [.slice qM t.qh.length qI] t.qh) (zY : qV.rep w zq [.slice xF t.qp.length xn] t.qp) (xW : qV.rep w xI [.slice qL t.ql.length qK] t.ql) (hcounts : qV.rep w Fcounts [.slice acounts counts.length ccounts] counts) (p0 : yI s) (p1 : zu s t) (p2 : CntOk s counts) : Calls Tryz.prog 75 #[pp bs os, pp bt ot, .slice acounts counts.length ccounts] w (Ret (fun v w' => v = .bool (dec (Xy s t counts))) w) := by
 refine enter (n := 55) Tryz.func75 rfl Tryz.ntmps75 (Nat.le_of_ble_eq_true rfl) ?_
 have H := ((((((((St.start w).arg hcounts).arg xW).arg zY).arg zo).argAt ht).arg xM).arg xx).argAt hs
 have vU := qN xx
 have jW := qN xM
 have QB := qN zo
 have Xn := qN zY
 have yT := qN xW
 have nhcounts := qN hcounts
 clear hs xx xM ht zo zY xW hcounts
 have N := Fresh.nil w.heap.size
 have p3 := p0.2.1
 have p6 := p2.1
 have p7 := p1.2.1
 have p8 := kinds_le p0
 have p9 := p0.1.2.1
 have p11 : jr s = s.qf.length := rfl
 refine qm (qA ?_)
 refine sp (.bool false) ?_
 refine qx (t_n (qm (qA ?_)))
 refine sps [pp bs os, pp bt ot, .slice acounts counts.length ccounts] ?_
 have sz4 := H.base.size
 refine sw (qZ #[pp bs os, pp bt ot, .slice acounts counts.length ccounts] rfl rfl Tryz.call106 (l03Rest_ok w s t counts bs os qw qo qO qF qB xw bt ot qM qI xJ xF xn zq qL qK xI acounts ccounts Fcounts (qH (H.get 0 rfl) 0 3) (H.get 1 rfl).1 (H.get 2 rfl).1 (qH (H.get 3 rfl) 0 3) (H.get 4 rfl).1 (H.get 5 rfl).1 (H.get 6 rfl).1 (H.get 7 rfl).1 (by first | assumption | omega) (by first | assumption | omega) (by first | assumption | omega)) ?_)
 rintro _ w2 ⟨ra1a, rn1a, rc1a, rx1a, rF1a, rfl, M, K⟩ _
 replace N := N.merge sz4 (by simp) M
 replace H := H.merge K M
 dsimp only [List.cons_append, List.nil_append] at H
 obtain rfl := H.zt (α := List Int) 0 rfl 0 rfl (by decide)
 refine sps [.tuple #[.slice ra1a ((zi s t counts (vV (yJ s t counts) counts.length)).length) rc1a, .bool (dec (IsCh s t counts))], .slice ra1a ((zi s t counts (vV (yJ s t counts) counts.length)).length) rc1a, .bool (dec (IsCh s t counts)), .slice ra1a ((zi s t counts (vV (yJ s t counts) counts.length)).length) rc1a, .bool (dec (IsCh s t counts))] ?_
 refine qx (t_n (qm (qm (qA ?_))))
 refine sps [.bool (dec (IsCh s t counts)), .bool (!(dec (IsCh s t counts)))] ?_
 refine qx (t_n ?_)
 refine qW (!(dec (IsCh s t counts))) rfl (fun h7 => ?_) (fun h7 => ?_)
 ·skip
  replace h7 := xg h7
  replace h7 := xX h7
  refine qm (qA ?_)
  refine sp (.bool false) ?_
  refine qx (t_n (xC (t_r ?_)))
  refine ret1 (.bool false) rfl rfl ⟨_, rfl, ?_, H.base⟩
  rw [xy (fun h => by first | exact ‹¬ IsCh s t counts› h.1 | exact ft ‹within _ _ = true› (h.2 i (by omega) (appl_true (by omega) ‹_›)))]
 replace h7 := qY h7
 replace h7 := jG h7
 have st := stop_none (n := counts.length) (P := yJ s t counts) (‹IsCh s t counts›).1
 rw [st] at H ⊢
 have rl := restR_len (s := s) (t := t) (counts := counts) counts.length
 refine xk (t_n (qm (qA ?_)))
 refine sps [pp bs os, pp bt ot] ?_
 have sz11 := H.base.size
 refine sw (qZ #[pp bs os, pp bt ot] rfl rfl Tryz.call79 (l03Applicable_ok w2 s t bs os qw qo qO qF qB xw bt ot qM qI xJ xF xn zq qL qK xI (qH (H.get 1 rfl) 0 3) (H.get 2 rfl).1 (H.get 3 rfl).1 (qH (H.get 4 rfl) 0 3) (H.get 5 rfl).1 (H.get 6 rfl).1 (H.get 7 rfl).1 (by first | assumption | omega) (by first | assumption | omega)) ?_)
 rintro _ w9 ⟨ra8, rn8, rc8, rfl, M, K⟩ _
 replace H := H.merge K M
 dsimp only [List.cons_append, List.nil_append] at H
 obtain rfl := H.QA 0 rfl
 have al := appl_len s t
 refine sp (.slice ra8 ((appl s t).length) rc8) ?_
 refine qx (t_n (qm (qm (qA ?_))))
 refine sp (.int .i64 0) ?_
 refine qx (t_n (xE ?_))
 refine zU (fun m' ρ w14 => ∃ (junk : Env) (i : Nat), ρ = upd (upd (upd (upd junk 0 (pp bs os)) 7 (.slice ra1a ((zi s t counts counts.length).length) rc1a)) 9 (.slice ra8 ((appl s t).length) rc8)) 10 (.int .i64 i) ∧ ((i : Int) ≤ ((appl s t).length)) ∧ (MostTo s t counts i) ∧ m' = (((appl s t).length) - (i : Int)).toNat ∧ Fresh w.heap.size [rF1a] ∧ St w w14 [.row (.slice ra8 ((appl s t).length) rc8) 4 1 ((appl s t).length) ((appl s t).map (Value.bool)), .row (.slice ra1a ((zi s t counts counts.length).length) rc1a) 22 1 ((zi s t counts counts.length).length) rx1a] [vX true rF1a rx1a (zi s t counts counts.length), atF bs os [.int .i64 s.qJ, .slice qw s.qf.length qo, .slice qF s.qg.length qB], isF false qO (.slice qw s.qf.length qo) s.qf, isF false xw (.slice qF s.qg.length qB) s.qg]) ((((appl s t).length) - (0 : Int)).toNat) ⟨_, 0, (by exact qj (qj (qj (qj (rfl) rfl) rfl) rfl) rfl), (by omega), (by exact fun j hj => by omega), rfl, N, H.pick [0, 1] [0, 1, 2, 3]⟩ ?_
 clear H N
 rintro m' ρ w15 ⟨junk, i, rfl, i0, i1, rfl, N, H⟩
 refine qm (qm (qA ?_))
 refine sps [.int .i64 i, .slice ra8 ((appl s t).length) rc8] ?_
 refine sw (zX Tryz.underlying26 ra8 ((appl s t).length) rc8 rfl ?_)
 refine sp (.bool (decide ((i : Int) < ((appl s t).length)))) ?_
 refine qx (t_n ?_)
 refine qW (decide ((i : Int) < ((appl s t).length))) rfl (fun h16 => ?_) (fun h16 => ?_)
 ·skip
  replace h16 := of_decide_eq_true h16
  have q := p0.rule (i := i) (by omega)
  have qc := q.1
  have qk := q.cell
  have qr := q.2.1
  obtain ⟨u1, u2⟩ := restR_row (c := (s.qg[i]!).qy.toNat) p0 p1 p2 (show counts.length ≤ _ by omega) qk
  have u3 := q.2.2.2.2.1.len
  refine xk (t_n (qm (xE (qm ?_))))
  refine yw rfl H fun H => ?_
  refine rtp 0 (.slice ra8 ((appl s t).length) rc8) H ?_
  refine rtp 1 (.int .i64 i) H ?_
  obtain ⟨b18, rfl⟩ := H.Xa 0 rfl (by omega)
  refine rt 2 (pp b18 (0 + (i : Int).toNat * 1)) (xO b18 (0) ((appl s t).length) rc8 i Tryz.underlying26 ti4 rfl rfl (by omega) (by omega)) H ?_
  refine rt 3 (.bool ((appl s t)[i]!)) (xA Tryz.isAgg4 rfl (fun _ h => h.rowBool 0 rfl (iv := i) (i := i) (by omega) (by omega))) H ?_
  refine rtp 4 (.bool ((appl s t)[i]!)) H ?_
  cases h19 : ((appl s t)[i]!)
  ·skip
   refine zT [5, 6, 7, 8, 9, 10, 11, 12, 13, 14, 15, 16, 17, 18, 19, 20, 21, 22, 23, 24] 20 (H) ?_
   refine rtp 25 (.bool false) H ?_
   refine xN (by kernel_rfl) (t_n ?_)
   refine qW false rfl (fun h => absurd h (by decide)) (fun _ => ?_)
   refine xk (b_n (t_n (qA ?_)))
   refine sp (.int .i64 i) ?_
   refine sw (zZ i 1 rfl rfl (by omega) ?_)
   refine sp (.int .i64 (i + 1)) ?_
   refine qx ?_
   refine xH (m' := (((appl s t).length) - ((i + 1) : Int)).toNat) (by omega) ⟨_, i + 1, (by exact qj (qj (qj (qj (rfl) rfl) rfl) rfl) rfl), ?_, ?_, rfl, N, H⟩
   · omega
   · exact i1.succ (fun ha => by first | exact absurd ha (appl_false (by omega) ‹_›) | assumption)
  refine rgp 5 (pp bs os) 33 H ?_
  refine rgp 6 (pp bs os) 33 H ?_
  refine rg 7 (pp bs (os + 2)) 33 (xG bs (os) 2 Tryz.underlying36 rfl rfl Tryz.sizeOf34 rfl) H ?_
  refine rg 8 (.slice qF s.qg.length qB) 33 (xA Tryz.isAgg34 rfl (fun _ h => h.xY 1 rfl 2 rfl)) H ?_
  refine rgp 9 (.int .i64 i) 33 H ?_
  obtain ⟨b20, o21, rfl⟩ := H.addr 3 rfl (by omega)
  obtain ⟨ae23Need, ce23Need, Fe23Need, ae23Have, ce23Have, Fe23Have, ae23Lack, ce23Lack, Fe23Lack, ae23Here, ce23Here, Fe23Here, ae23Out, ce23Out, Fe23Out, ae23Into, ce23Into, Fe23Into, H⟩ := H.yB 3 rfl i i (by omega) (by omega) (by omega)
  have S := H.yG [0, 1] [7, 8, 9, 10]
  refine rg 10 (pp b20 (o21 + (i : Int).toNat * 9)) 33 (xO b20 (o21) s.qg.length qB i Tryz.underlying34 ti110 rfl rfl (by omega) (by omega)) S ?_
  refine rg 11 (pp b20 (o21 + (i : Int).toNat * 9 + 2)) 33 (xG b20 (o21 + (i : Int).toNat * 9) 2 Tryz.underlying110 rfl rfl Tryz.sizeOf22 rfl) S ?_
  refine rgp 13 (.slice ra1a ((zi s t counts counts.length).length) rc1a) 33 S ?_
  refine rgp 14 (pp bs os) 33 S ?_
  refine rgp 15 (pp bs os) 33 S ?_
  refine rg 16 (pp bs (os + 2)) 33 (xG bs (os) 2 Tryz.underlying36 rfl rfl Tryz.sizeOf34 rfl) S ?_
  refine rg 17 (.slice (aa b20 o21) s.qg.length qB) 33 (xA Tryz.isAgg34 rfl (fun _ h => h.xY 1 rfl 2 rfl)) S ?_
  refine rgp 18 (.int .i64 i) 33 S ?_
  refine rg 19 (pp b20 (o21 + (i : Int).toNat * 9)) 33 (xO b20 (o21) s.qg.length qB i Tryz.underlying34 ti110 rfl rfl (by omega) (by omega)) S ?_
  refine rg 20 (pp b20 (o21 + (i : Int).toNat * 9 + 0)) 33 (xG b20 (o21 + (i : Int).toNat * 9) 0 Tryz.underlying110 rfl rfl Tryz.sizeOf2 rfl) S ?_
  refine xq [12, 21] (by kernel_rfl) (by simp) (Xp rfl (e := 33) rfl rfl ?_ (Xp rfl (e := 33) rfl rfl ?_ xu))
  ·skip
   refine qE (.slice ae23Need (((s.qg[i]!).qR).length) ce23Need) Tryz.isAgg22 rfl (H.xY 6 rfl 2 rfl) ?_
   refine ⟨H.pick [0, 1] [7, 8, 9, 10], ?_⟩
   refine xq [21] (by kernel_rfl) (by simp) (Xp rfl (e := 33) rfl rfl ?_ xu)
   refine qE (.int .i64 ((s.qg[i]!).qy)) Tryz.isAgg2 rfl (H.xY 6 rfl 0 rfl) ?_
   refine ⟨H.pick [0, 1] [7, 8, 9, 10], ?_⟩
   obtain ⟨b24, rfl⟩ := H.Xa 1 rfl (by omega)
   refine rg 22 (pp b24 (0 + ((s.qg[i]!).qy : Int).toNat * 1)) 33 (xO b24 (0) ((zi s t counts counts.length).length) rc1a ((s.qg[i]!).qy) Tryz.underlying27 ti22 rfl rfl (by omega) (by omega)) (H.pick [0, 1] [7, 8, 9, 10]) ?_
   refine xq [23] (by kernel_rfl) (by simp) (Xp rfl (e := 33) rfl rfl ?_ xu)
   obtain ⟨a25, c26, G27, s28, h29, H⟩ := H.jg 1 rfl 7 rfl (iv := (s.qg[i]!).qy) (((s.qg[i]!).qy).toNat) (by omega) (by omega)
   refine qE (.slice a25 (((zi s t counts counts.length)[((s.qg[i]!).qy).toNat]!).length) c26) Tryz.isAgg22 rfl (h29) ?_
   refine ⟨H.pick [0, 1] [8, 9, 10, 11], ?_⟩
   refine xq [24] (by kernel_rfl) (by simp) (Xp rfl (e := 33) rfl rfl ?_ xu)
   refine qZ #[.slice ae23Need (((s.qg[i]!).qR).length) ce23Need, .slice a25 (((zi s t counts counts.length)[((s.qg[i]!).qy).toNat]!).length) c26] rfl rfl Tryz.call121 (Vx w15.drew ((s.qg[i]!).qR) ((zi s t counts counts.length)[((s.qg[i]!).qy).toNat]!) ae23Need ce23Need Fe23Need a25 c26 G27 (H.get 1 rfl).1 (H.get 0 rfl).1 (by first | assumption | omega)) ?_
   rintro _ w31 rfl x32
   replace H := H.ext x32
   refine ⟨H.pick [0, 1] [8, 9, 10, 11], ?_⟩
   refine rtp 25 (.bool (within ((s.qg[i]!).qR) ((zi s t counts counts.length)[((s.qg[i]!).qy).toNat]!))) (H.pick [0, 1] [8, 9, 10, 11]) ?_
   refine xN (by kernel_rfl) (t_n ?_)
   refine qW (within ((s.qg[i]!).qR) ((zi s t counts counts.length)[((s.qg[i]!).qy).toNat]!)) rfl (fun h33 => ?_) (fun h33 => ?_)
   ·skip
    refine qm (qA ?_)
    refine sp (.bool false) ?_
    refine qx (t_n (xC (b_r (t_r (t_r (b_r (t_r ?_)))))))
    refine ret1 (.bool false) rfl rfl ⟨_, rfl, ?_, H.base⟩
    rw [xy (fun h => by first | exact ‹¬ IsCh s t counts› h.1 | exact ft ‹within _ _ = true› (h.2 i (by omega) (appl_true (by omega) ‹_›)))]
   refine xk (b_n (t_n (qA ?_)))
   refine sp (.int .i64 i) ?_
   refine sw (zZ i 1 rfl rfl (by omega) ?_)
   refine sp (.int .i64 (i + 1)) ?_
   refine qx ?_
   refine xH (m' := (((appl s t).length) - ((i + 1) : Int)).toNat) (by omega) ⟨_, i + 1, (by exact qj (qj (qj (qj (rfl) rfl) rfl) rfl) rfl), ?_, ?_, rfl, N, H.pick [0, 1] [8, 9, 10, 11]⟩
   · omega
   · exact i1.succ (fun ha => by first | exact absurd ha (appl_false (by omega) ‹_›) | assumption)
  refine qE (.int .i64 ((s.qg[i]!).qy)) Tryz.isAgg2 rfl (H.xY 6 rfl 0 rfl) ?_
  refine ⟨H.pick [0, 1] [7, 8, 9, 10], ?_⟩
  obtain ⟨b34, rfl⟩ := H.Xa 1 rfl (by omega)
  refine rg 22 (pp b34 (0 + ((s.qg[i]!).qy : Int).toNat * 1)) 33 (xO b34 (0) ((zi s t counts counts.length).length) rc1a ((s.qg[i]!).qy) Tryz.underlying27 ti22 rfl rfl (by omega) (by omega)) (H.pick [0, 1] [7, 8, 9, 10]) ?_
  refine xq [12, 23] (by kernel_rfl) (by simp) (Xp rfl (e := 33) rfl rfl ?_ (Xp rfl (e := 33) rfl rfl ?_ xu))
  ·skip
   refine qE (.slice ae23Need (((s.qg[i]!).qR).length) ce23Need) Tryz.isAgg22 rfl (H.xY 6 rfl 2 rfl) ?_
   refine ⟨H.pick [0, 1] [7, 8, 9, 10], ?_⟩
   refine xq [23] (by kernel_rfl) (by simp) (Xp rfl (e := 33) rfl rfl ?_ xu)
   obtain ⟨a35, c36, G37, s38, h39, H⟩ := H.jg 1 rfl 7 rfl (iv := (s.qg[i]!).qy) (((s.qg[i]!).qy).toNat) (by omega) (by omega)
   refine qE (.slice a35 (((zi s t counts counts.length)[((s.qg[i]!).qy).toNat]!).length) c36) Tryz.isAgg22 rfl (h39) ?_
   refine ⟨H.pick [0, 1] [8, 9, 10, 11], ?_⟩
   refine xq [24] (by kernel_rfl) (by simp) (Xp rfl (e := 33) rfl rfl ?_ xu)
   refine qZ #[.slice ae23Need (((s.qg[i]!).qR).length) ce23Need, .slice a35 (((zi s t counts counts.length)[((s.qg[i]!).qy).toNat]!).length) c36] rfl rfl Tryz.call121 (Vx w15.drew ((s.qg[i]!).qR) ((zi s t counts counts.length)[((s.qg[i]!).qy).toNat]!) ae23Need ce23Need Fe23Need a35 c36 G37 (H.get 1 rfl).1 (H.get 0 rfl).1 (by first | assumption | omega)) ?_
   rintro _ w41 rfl x42
   replace H := H.ext x42
   refine ⟨H.pick [0, 1] [8, 9, 10, 11], ?_⟩
   refine rtp 25 (.bool (within ((s.qg[i]!).qR) ((zi s t counts counts.length)[((s.qg[i]!).qy).toNat]!))) (H.pick [0, 1] [8, 9, 10, 11]) ?_
   refine xN (by kernel_rfl) (t_n ?_)
   refine qW (within ((s.qg[i]!).qR) ((zi s t counts counts.length)[((s.qg[i]!).qy).toNat]!)) rfl (fun h43 => ?_) (fun h43 => ?_)
   ·skip
    refine qm (qA ?_)
    refine sp (.bool false) ?_
    refine qx (t_n (xC (b_r (t_r (t_r (b_r (t_r ?_)))))))
    refine ret1 (.bool false) rfl rfl ⟨_, rfl, ?_, H.base⟩
    rw [xy (fun h => by first | exact ‹¬ IsCh s t counts› h.1 | exact ft ‹within _ _ = true› (h.2 i (by omega) (appl_true (by omega) ‹_›)))]
   refine xk (b_n (t_n (qA ?_)))
   refine sp (.int .i64 i) ?_
   refine sw (zZ i 1 rfl rfl (by omega) ?_)
   refine sp (.int .i64 (i + 1)) ?_
   refine qx ?_
   refine xH (m' := (((appl s t).length) - ((i + 1) : Int)).toNat) (by omega) ⟨_, i + 1, (by exact qj (qj (qj (qj (rfl) rfl) rfl) rfl) rfl), ?_, ?_, rfl, N, H.pick [0, 1] [8, 9, 10, 11]⟩
   · omega
   · exact i1.succ (fun ha => by first | exact absurd ha (appl_false (by omega) ‹_›) | assumption)
  obtain ⟨a44, c45, G46, s47, h48, H⟩ := H.jg 1 rfl 7 rfl (iv := (s.qg[i]!).qy) (((s.qg[i]!).qy).toNat) (by omega) (by omega)
  refine qE (.slice a44 (((zi s t counts counts.length)[((s.qg[i]!).qy).toNat]!).length) c45) Tryz.isAgg22 rfl (h48) ?_
  refine ⟨H.pick [0, 1] [8, 9, 10, 11], ?_⟩
  refine xq [12] (by kernel_rfl) (by simp) (Xp rfl (e := 33) rfl rfl ?_ xu)
  refine qE (.slice ae23Need (((s.qg[i]!).qR).length) ce23Need) Tryz.isAgg22 rfl (H.xY 7 rfl 2 rfl) ?_
  refine ⟨H.pick [0, 1] [8, 9, 10, 11], ?_⟩
  refine xq [24] (by kernel_rfl) (by simp) (Xp rfl (e := 33) rfl rfl ?_ xu)
  refine qZ #[.slice ae23Need (((s.qg[i]!).qR).length) ce23Need, .slice a44 (((zi s t counts counts.length)[((s.qg[i]!).qy).toNat]!).length) c45] rfl rfl Tryz.call121 (Vx w15.drew ((s.qg[i]!).qR) ((zi s t counts counts.length)[((s.qg[i]!).qy).toNat]!) ae23Need ce23Need Fe23Need a44 c45 G46 (H.get 1 rfl).1 (H.get 0 rfl).1 (by first | assumption | omega)) ?_
  rintro _ w50 rfl x51
  replace H := H.ext x51
  refine ⟨H.pick [0, 1] [8, 9, 10, 11], ?_⟩
  refine rtp 25 (.bool (within ((s.qg[i]!).qR) ((zi s t counts counts.length)[((s.qg[i]!).qy).toNat]!))) (H.pick [0, 1] [8, 9, 10, 11]) ?_
  refine xN (by kernel_rfl) (t_n ?_)
  refine qW (within ((s.qg[i]!).qR) ((zi s t counts counts.length)[((s.qg[i]!).qy).toNat]!)) rfl (fun h52 => ?_) (fun h52 => ?_)
  ·skip
   refine qm (qA ?_)
   refine sp (.bool false) ?_
   refine qx (t_n (xC (b_r (t_r (t_r (b_r (t_r ?_)))))))
   refine ret1 (.bool false) rfl rfl ⟨_, rfl, ?_, H.base⟩
   rw [xy (fun h => by first | exact ‹¬ IsCh s t counts› h.1 | exact ft ‹within _ _ = true› (h.2 i (by omega) (appl_true (by omega) ‹_›)))]
  refine xk (b_n (t_n (qA ?_)))
  refine sp (.int .i64 i) ?_
  refine sw (zZ i 1 rfl rfl (by omega) ?_)
  refine sp (.int .i64 (i + 1)) ?_
  refine qx ?_
  refine xH (m' := (((appl s t).length) - ((i + 1) : Int)).toNat) (by omega) ⟨_, i + 1, (by exact qj (qj (qj (qj (rfl) rfl) rfl) rfl) rfl), ?_, ?_, rfl, N, H.pick [0, 1] [8, 9, 10, 11]⟩
  · omega
  · exact i1.succ (fun ha => by first | exact absurd ha (appl_false (by omega) ‹_›) | assumption)
 replace h16 := of_decide_eq_false h16
 refine zK (t_x (t_x (b_x (t_n (qm (qA ?_))))))
 refine sp (.bool true) ?_
 refine qx (t_n (xC ?_))
 refine ret1 (.bool true) rfl rfl ⟨_, rfl, ?_, H.base⟩
 rw [yP ⟨‹IsCh s t counts›, fun j hj => i1 j (by omega)⟩]

theorem specCh_ok (w : World) (s : qX) (t : qU) (ch : List (List Int)) (qw : Option Addr) (qo : Nat) (qO : List Nat) (qF : Option Addr) (qB : Nat) (xw : List Nat) (qM : Option Addr) (qI : Nat) (xJ : List Nat) (xF : Option Addr) (xn : Nat) (zq : List Nat) (qL : Option Addr) (qK : Nat) (xI : List Nat) (ach : Option Addr) (cch : Nat) (Fch : List Nat) (xx : qV.rep w qO [.slice qw s.qf.length qo] s.qf) (xM : qV.rep w xw [.slice qF s.qg.length qB] s.qg) (zo : qV.rep w xJ [.slice qM t.qh.length qI] t.qh) (zY : qV.rep w zq [.slice xF t.qp.length xn] t.qp) (xW : qV.rep w xI [.slice qL t.ql.length qK] t.ql) (hch : qV.rep w Fch [.slice ach ch.length cch] ch) : Calls Tryz.prog 30 #[.agg #[.int .i64 s.qJ, .slice qw s.qf.length qo, .slice qF s.qg.length qB], .agg #[.slice qM t.qh.length qI, .slice xF t.qp.length xn, .slice qL t.ql.length qK], .slice ach ch.length cch] w (Ret (fun v w' => ∃ (ra0Alive : Option Addr) (Xm : Nat) (rc0Alive : Nat) (ra0Bags : Option Addr) (Vm : Nat) (rc0Bags : Nat) (rx0Bags : List Value) (rF0Bags : List Nat) (XG : Option Addr) (QL : Nat) (XF : Nat), v = .tuple #[.agg #[.slice ra0Alive Xm rc0Alive, .slice ra0Bags Vm rc0Bags, .slice XG QL XF], .int .i64 ((qG s t ch).2)] ∧ Fresh w.heap.size [rF0Bags] ∧ St w w' [.row (.slice ra0Alive Xm rc0Alive) 4 1 Xm ((((qG s t ch).1).qh).map (Value.bool)), .row (.slice ra0Bags Vm rc0Bags) 22 1 Vm rx0Bags, .row (.slice XG QL XF) 2 1 QL ((((qG s t ch).1).ql).map (Value.int .i64))] [vX true rF0Bags rx0Bags (((qG s t ch).1).qp)]) w) := by
 refine enter (n := 67) Tryz.func30 rfl Tryz.ntmps30 (Nat.le_of_ble_eq_true rfl) ?_
 have H := ((((((St.start w).arg hch).arg xW).arg zY).arg zo).arg xM).arg xx
 have vU := qN xx
 have jW := qN xM
 have QB := qN zo
 have Xn := qN zY
 have yT := qN xW
 have nhch := qN hch
 clear xx xM zo zY xW hch
 have N := Fresh.nil w.heap.size
 refine qm (qA ?_)
 refine sw (yN H [.int .i64 s.qJ, .slice qw s.qf.length qo, .slice qF s.qg.length qB] fun b1 w2 H => ?_)
 refine sw (yN H [.slice qM t.qh.length qI, .slice xF t.qp.length xn, .slice qL t.ql.length qK] fun b3 w4 H => ?_)
 refine sw (zn H ti38 [.slice none 0 0, .slice none 0 0, .slice none 0 0] fun b5 w6 H => ?_)
 refine sp (.int .i64 0) ?_
 refine qx (t_n (qm (qm (qA ?_))))
 refine sw (qZ #[pp b1 0, pp b3 0] rfl rfl Tryz.call60 (l03Both_ok w6 s t b1 0 qw qo qO qF qB xw b3 0 qM qI xJ xF xn zq qL qK xI (qH (H.cells 2 rfl) 0 3) (H.get 0 rfl).1 (H.get 1 rfl).1 (qH (H.cells 1 rfl) 0 3) (H.get 2 rfl).1 (H.get 3 rfl).1 (H.get 4 rfl).1) ?_)
 rintro _ w8 rfl x9
 replace H := H.ext x9
 refine sp (.bool (!(dec (yI s ∧ zu s t)))) ?_
 refine qx (t_n ?_)
 refine qW (!(dec (yI s ∧ zu s t))) rfl (fun h10 => ?_) (fun h10 => ?_)
 ·skip
  replace h10 := xg h10
  replace h10 := xX h10
  refine qm (qA ?_)
  refine sw (jo [.slice none 0 0, .slice none 0 0, .slice none 0 0] [] ?_)
  refine sw (xP H 0 [.slice none 0 0, .slice none 0 0, .slice none 0 0] Tryz.sizeOf38 fun w11 H => ?_)
  try dsimp only [List.set] at H
  refine sp (.int .i64 1) ?_
  refine qx (t_n (xC (t_r ?_)))
  replace H := H.Va 4
  replace H := H.nilRow 22 1
  replace H := H.Qw (α := List Int)
  replace H := H.Vo 2
  refine retC2 H 3 rfl (.int .i64 1) rfl Tryz.isAgg38 Tryz.sizeOf38 rfl rfl ⟨_, rfl, ?_, H.base⟩
  rw [ch_1 ‹_›]
  exact ⟨none, 0, 0, none, 0, 0, [], [], none, 0, 0, rfl, N.emp, H.pick [2, 1, 0] [0]⟩
 replace h10 := qY h10
 replace h10 := jG h10
 have k0 := (‹yI s ∧ zu s t› : yI s ∧ zu s t)
 have k1 := k0.1
 have k2 := k0.2
 refine xk (t_n (qm (qm (qA ?_))))
 refine sp (.int .i64 0) ?_
 refine qx (t_n (xE ?_))
 refine zU (fun m' ρ w12 => ∃ (junk : Env) (i : Nat), ρ = upd (upd (upd (upd (upd junk 2 (.slice ach ch.length cch)) 3 (pp b1 0)) 4 (pp b3 0)) 6 (pp b5 0)) 8 (.int .i64 i) ∧ ((i : Int) ≤ ch.length) ∧ (AllCnt s ch i) ∧ m' = (ch.length - (i : Int)).toNat ∧ Fresh w.heap.size [] ∧ St w w12 [.box b5 [.slice none 0 0, .slice none 0 0, .slice none 0 0] 38, .box b3 [.slice qM t.qh.length qI, .slice xF t.qp.length xn, .slice qL t.ql.length qK] 38, .box b1 [.int .i64 s.qJ, .slice qw s.qf.length qo, .slice qF s.qg.length qB] 36] [isF false qO (.slice qw s.qf.length qo) s.qf, isF false xw (.slice qF s.qg.length qB) s.qg, isF false xJ (.slice qM t.qh.length qI) t.qh, isF false zq (.slice xF t.qp.length xn) t.qp, isF false xI (.slice qL t.ql.length qK) t.ql, isF false Fch (.slice ach ch.length cch) ch]) ((ch.length - (0 : Int)).toNat) ⟨_, 0, (by exact qj (qj (qj (qj (qj (rfl) rfl) rfl) rfl) rfl) rfl), (by omega), (by exact fun j hj => by omega), rfl, N, H⟩ ?_
 clear H N
 rintro m' ρ w13 ⟨junk, i, rfl, i0, i1, rfl, N, H⟩
 refine qm (qm (qA ?_))
 refine sps [.int .i64 i, .slice ach ch.length cch] ?_
 refine sw (zX Tryz.underlying27 ach ch.length cch rfl ?_)
 refine sp (.bool (decide ((i : Int) < ch.length))) ?_
 refine qx (t_n ?_)
 refine qW (decide ((i : Int) < ch.length)) rfl (fun h14 => ?_) (fun h14 => ?_)
 ·skip
  replace h14 := of_decide_eq_true h14
  refine xk (t_n (qm (xE (qm ?_))))
  refine yw rfl H fun H => ?_
  refine rt 0 (pp b1 (0 + 2)) (xG b1 (0) 2 Tryz.underlying36 rfl rfl Tryz.sizeOf34 rfl) H ?_
  refine rt 1 (.slice qF s.qg.length qB) (xA Tryz.isAgg34 rfl (fun _ h => h.cell 2 rfl rfl)) H ?_
  refine rt 2 (.int .i64 s.qg.length) (y_len Tryz.underlying34 qF s.qg.length qB rfl) H ?_
  refine rtp 3 (.slice ach ch.length cch) H ?_
  refine rtp 4 (.int .i64 i) H ?_
  obtain ⟨b16, o17, rfl⟩ := H.addr 5 rfl (by omega)
  obtain ⟨ae19, ce19, Fe19, H⟩ := H.yH 5 rfl i i (by omega) (by omega) (by omega)
  refine rt 5 (pp b16 (o17 + (i : Int).toNat * 1)) (xO b16 (o17) ch.length cch i Tryz.underlying27 ti22 rfl rfl (by omega) (by omega)) (H.pick [0, 1, 2] [2, 3, 4, 5, 6, 7]) ?_
  refine xq [6] (by kernel_rfl) (by simp) (xZ rfl ?_ xu)
  refine qE (.slice ae19 ((ch[i]!).length) ce19) Tryz.isAgg22 rfl (H.xY 1 rfl 0 rfl) ?_
  refine ⟨H.pick [0, 1, 2] [2, 3, 4, 5, 6, 7], ?_⟩
  refine xq [7] (by kernel_rfl) (by simp) (xZ rfl ?_ xu)
  refine qZ #[.int .i64 s.qg.length, .slice ae19 ((ch[i]!).length) ce19] rfl rfl Tryz.call72 (l01Counts_ok w13.drew s.qg.length (ch[i]!) ae19 ce19 Fe19 (H.get 0 rfl).1) ?_
  rintro _ w21 rfl x22
  replace H := H.ext x22
  refine ⟨H.pick [0, 1, 2] [2, 3, 4, 5, 6, 7], ?_⟩
  refine rtp 8 (.bool (!(dec (((ch[i]!).length : Int) = s.qg.length ∧ Counts (ch[i]!) (ch[i]!).length)))) (H.pick [0, 1, 2] [2, 3, 4, 5, 6, 7]) ?_
  refine xN (by kernel_rfl) (t_n ?_)
  refine qW (!(dec (((ch[i]!).length : Int) = s.qg.length ∧ Counts (ch[i]!) (ch[i]!).length))) rfl (fun h23 => ?_) (fun h23 => ?_)
  ·skip
   replace h23 := xg h23
   replace h23 := xX h23
   refine qm (qA ?_)
   refine sw (jo [.slice none 0 0, .slice none 0 0, .slice none 0 0] [] ?_)
   refine sw (xP H 0 [.slice none 0 0, .slice none 0 0, .slice none 0 0] Tryz.sizeOf38 fun w24 H => ?_)
   try dsimp only [List.set] at H
   refine sp (.int .i64 2) ?_
   refine qx (t_n (xC (b_r (t_r (t_r (b_r (t_r ?_)))))))
   replace H := H.Va 4
   replace H := H.nilRow 22 1
   replace H := H.Qw (α := List Int)
   replace H := H.Vo 2
   refine retC2 H 3 rfl (.int .i64 2) rfl Tryz.isAgg38 Tryz.sizeOf38 rfl rfl ⟨_, rfl, ?_, H.base⟩
   rw [ch_2 k0 (by first | exact .inl (by omega) | exact .inr (fun h => ‹¬ (_ ∧ Counts _ _)› ⟨by have := (h i (by omega)).1; omega, (h i (by omega)).2⟩))]
   exact ⟨none, 0, 0, none, 0, 0, [], [], none, 0, 0, rfl, N.emp, H.pick [2, 1, 0] [0]⟩
  replace h23 := qY h23
  replace h23 := jG h23
  refine xk (b_n (t_n (qA ?_)))
  refine sp (.int .i64 i) ?_
  refine sw (zZ i 1 rfl rfl (by omega) ?_)
  refine sp (.int .i64 (i + 1)) ?_
  refine qx ?_
  refine xH (m' := (ch.length - ((i + 1) : Int)).toNat) (by omega) ⟨_, i + 1, (by exact qj (qj (qj (qj (qj (rfl) rfl) rfl) rfl) rfl) rfl), ?_, ?_, rfl, N, H.pick [0, 1, 2] [2, 3, 4, 5, 6, 7]⟩
  · omega
  · exact i1.succ ⟨by have := (‹(_ : Int) = _ ∧ Counts (ch[i]!) (ch[i]!).length›).1; omega, (‹(_ : Int) = _ ∧ Counts (ch[i]!) (ch[i]!).length›).2⟩
 replace h14 := of_decide_eq_false h14
 refine zK (t_x (t_x (b_x (t_n (qm (qm (qA ?_)))))))
 refine sp (.slice ach ch.length cch) ?_
 refine sw (zX Tryz.underlying27 ach ch.length cch rfl ?_)
 refine sp (.bool (decide ((ch.length : Int) > 300))) ?_
 refine qx (t_n ?_)
 refine qW (decide ((ch.length : Int) > 300)) rfl (fun h25 => ?_) (fun h25 => ?_)
 ·skip
  replace h25 := of_decide_eq_true h25
  refine qm (qA ?_)
  refine sw (jo [.slice none 0 0, .slice none 0 0, .slice none 0 0] [] ?_)
  refine sw (xP H 0 [.slice none 0 0, .slice none 0 0, .slice none 0 0] Tryz.sizeOf38 fun w26 H => ?_)
  try dsimp only [List.set] at H
  refine sp (.int .i64 2) ?_
  refine qx (t_n (xC (t_r ?_)))
  replace H := H.Va 4
  replace H := H.nilRow 22 1
  replace H := H.Qw (α := List Int)
  replace H := H.Vo 2
  refine retC2 H 3 rfl (.int .i64 2) rfl Tryz.isAgg38 Tryz.sizeOf38 rfl rfl ⟨_, rfl, ?_, H.base⟩
  rw [ch_2 k0 (by first | exact .inl (by omega) | exact .inr (fun h => ‹¬ (_ ∧ Counts _ _)› ⟨by have := (h i (by omega)).1; omega, (h i (by omega)).2⟩))]
  exact ⟨none, 0, 0, none, 0, 0, [], [], none, 0, 0, rfl, N.emp, H.pick [2, 1, 0] [0]⟩
 replace h25 := of_decide_eq_false h25
 refine xk (t_n (qm (qA ?_)))
 obtain ⟨q7, q8, q9, q10⟩ := k2.sizes k1.1
 have q13 := fun k hk => Nat.le_trans (q10 k hk) (by decide : 8 ≤ 1000000)
 have sz30 := H.base.size
 refine sw (qZ #[pp b3 0] rfl rfl Tryz.call73 (l02Own_ok w13 t b3 0 qM qI xJ xF xn zq qL qK xI (qH (H.cells 1 rfl) 0 3) (H.get 2 rfl).1 (H.get 3 rfl).1 (H.get 4 rfl).1 (by first | assumption | omega) (by first | assumption | omega) (by first | assumption | omega) (by first | assumption | omega)) ?_)
 rintro _ w28 ⟨ra27Alive, rn27Alive, rc27Alive, ra27Bags, rn27Bags, rc27Bags, rx27Bags, rF27Bags, ra27Around, rn27Around, rc27Around, rfl, M, K⟩ _
 replace N := N.merge sz30 (by simp) M
 replace H := H.merge K M
 dsimp only [List.cons_append, List.nil_append] at H
 obtain rfl := H.QA 0 rfl
 obtain rfl := H.zt (α := List Int) 1 rfl 0 rfl (by decide)
 obtain rfl := H.QS 2 rfl
 refine sw (zn H ti38 [.slice none 0 0, .slice none 0 0, .slice none 0 0] fun b35 w36 H => ?_)
 refine sw (xP H 0 [.slice ra27Alive t.qh.length rc27Alive, .slice ra27Bags t.qp.length rc27Bags, .slice ra27Around t.ql.length rc27Around] Tryz.sizeOf38 fun w37 H => ?_)
 try dsimp only [List.set] at H
 refine qx (t_n (qm (qm (qA ?_))))
 refine sp (.int .i64 0) ?_
 refine qx (t_n (xE ?_))
 have kc : AllCnt s ch ch.length := fun j hj => i1 j (by omega)
 refine zU (fun m' ρ w38 => ∃ (junk : Env) (i_1 : Nat) (vS : Option Addr) (jw : Nat) (vP : Nat) (now_Alive : List Bool) (jm : Option Addr) (jR : Nat) (jl : Nat) (now_Bags : List (List Int)) (XN : List Value) (Xh : List Nat) (vk : Option Addr) (vW : Nat) (vg : Nat) (now_Around : List Int) (u : qU), ρ = upd (upd (upd (upd (upd junk 2 (.slice ach ch.length cch)) 3 (pp b1 0)) 6 (pp b5 0)) 9 (pp b35 0)) 10 (.int .i64 i_1) ∧ now_Alive = u.qh ∧ now_Bags = u.qp ∧ now_Around = u.ql ∧ ((i_1 : Int) ≤ ch.length) ∧ (zu s u) ∧ (qG s t ch = Xo s ch (ch.length - i_1) u) ∧ m' = (ch.length - (i_1 : Int)).toNat ∧ Fresh w.heap.size [Xh] ∧ St w w38 [.box b35 [.slice vS jw vP, .slice jm jR jl, .slice vk vW vg] 38, .row (.slice vS jw vP) 4 1 jw (now_Alive.map (Value.bool)), .row (.slice jm jR jl) 22 1 jR XN, .row (.slice vk vW vg) 2 1 vW (now_Around.map (Value.int .i64)), .box b5 [.slice none 0 0, .slice none 0 0, .slice none 0 0] 38, .box b3 [.slice qM t.qh.length qI, .slice xF t.qp.length xn, .slice qL t.ql.length qK] 38, .box b1 [.int .i64 s.qJ, .slice qw s.qf.length qo, .slice qF s.qg.length qB] 36] [vX true Xh XN now_Bags, isF false qO (.slice qw s.qf.length qo) s.qf, isF false xw (.slice qF s.qg.length qB) s.qg, isF false xJ (.slice qM t.qh.length qI) t.qh, isF false zq (.slice xF t.qp.length xn) t.qp, isF false xI (.slice qL t.ql.length qK) t.ql, isF false Fch (.slice ach ch.length cch) ch]) ((ch.length - (0 : Int)).toNat) ⟨_, 0, ra27Alive, t.qh.length, rc27Alive, t.qh, ra27Bags, t.qp.length, rc27Bags, t.qp, rx27Bags, rF27Bags, ra27Around, t.ql.length, rc27Around, t.ql, t, (by exact qj (qj (qj (qj (qj (rfl) rfl) rfl) rfl) rfl) rfl), (by rfl), (by rfl), (by rfl), (by omega), (by exact k2), (by exact ch_0 k0 (by omega) kc), rfl, N, H⟩ ?_
 clear H N
 rintro m' ρ w39 ⟨junk, i_1, vS, jw, vP, now_Alive, jm, jR, jl, now_Bags, XN, Xh, vk, vW, vg, now_Around, u, rfl, rfl, rfl, rfl, i0, ku, kr, rfl, N, H⟩
 have hn_now_Alive := H.QA 1 rfl
 have hn_now_Bags := H.zt (α := List Int) 2 rfl 0 rfl (by decide)
 have hn_now_Around := H.QS 3 rfl
 refine qm (qm (qA ?_))
 refine sps [.int .i64 i_1, .slice ach ch.length cch] ?_
 refine sw (zX Tryz.underlying27 ach ch.length cch rfl ?_)
 refine sp (.bool (decide ((i_1 : Int) < ch.length))) ?_
 refine qx (t_n ?_)
 refine qW (decide ((i_1 : Int) < ch.length)) rfl (fun h40 => ?_) (fun h40 => ?_)
 ·skip
  replace h40 := of_decide_eq_true h40
  refine xk (t_n (qm (xE (qm (qm (qA ?_))))))
  obtain ⟨G41, hn42, h43⟩ := H.rowIsB 1 rfl
  obtain ⟨G44, hn45, h46⟩ := H.QW (α := List Int) 2 rfl 0 rfl (by decide)
  obtain ⟨G47, hn48, h49⟩ := H.rowIsI 3 rfl
  refine sw (qZ #[pp b1 0, pp b35 0] rfl rfl Tryz.call74 (l03Halted_ok w39 s u b1 0 qw qo qO qF qB xw b35 0 vS vP G41 jm jl G44 vk vg G47 (qH (H.cells 6 rfl) 0 3) (H.get 1 rfl).1 (H.get 2 rfl).1 (by have hz := (qH (H.cells 0 rfl) 0 3); rw [hn42, hn45, hn48] at hz; exact hz) (hn42 ▸ h43) (hn45 ▸ h46) (hn48 ▸ h49) (by first | assumption | omega) (by first | assumption | omega)) ?_)
  rintro _ w51 rfl x52
  replace H := H.ext x52
  refine sp (.bool (dec (Halted s u))) ?_
  cases h53 : (dec (Halted s u))
  ·skip
   replace h53 := xX h53
   refine qQ 44 rfl rfl ?_
   refine sp (.slice ach ch.length cch) ?_
   refine qQ 44 rfl rfl ?_
   refine sp (.int .i64 i_1) ?_
   refine qQ 44 rfl rfl ?_
   obtain ⟨b54, o55, rfl⟩ := H.addr 6 rfl (by omega)
   obtain ⟨ae57, ce57, Fe57, H⟩ := H.yH 6 rfl i_1 i_1 (by omega) (by omega) (by omega)
   refine sw (xK i_1 Tryz.underlying27 ti22 rfl rfl (by omega) (by omega) ?_)
   refine qQ 44 rfl rfl ?_
   refine sw (qE (.slice ae57 ((ch[i_1]!).length) ce57) Tryz.isAgg22 rfl (H.xY 1 rfl 0 rfl) ?_)
   refine qQ 44 rfl rfl ?_
   obtain ⟨G58, hn59, h60⟩ := H.rowIsB 1 rfl
   obtain ⟨G61, hn62, h63⟩ := H.QW (α := List Int) 2 rfl 2 rfl (by decide)
   obtain ⟨G64, hn65, h66⟩ := H.rowIsI 3 rfl
   have k3 := kc i_1 (by omega)
   refine sw (qZ #[pp b1 0, pp b35 0, .slice ae57 ((ch[i_1]!).length) ce57] rfl rfl Tryz.call75 (l03Most_ok w51 s u (ch[i_1]!) b1 0 qw qo qO qF qB xw b35 0 vS vP G58 jm jl G61 vk vg G64 ae57 ce57 Fe57 (qH (H.cells 6 rfl) 0 3) (H.get 3 rfl).1 (H.get 4 rfl).1 (by have hz := (qH (H.cells 0 rfl) 0 3); rw [hn59, hn62, hn65] at hz; exact hz) (hn59 ▸ h60) (hn62 ▸ h63) (hn65 ▸ h66) (H.get 0 rfl).1 (by first | assumption | omega) (by first | assumption | omega) (by first | assumption | omega)) ?_)
   rintro _ w68 rfl x69
   replace H := H.ext x69
   refine qQ 44 rfl rfl ?_
   refine sps [.bool (!(dec (Xy s u (ch[i_1]!)))), .bool (!(dec (Xy s u (ch[i_1]!))))] ?_
   refine qx (t_n ?_)
   refine qW (!(dec (Xy s u (ch[i_1]!)))) rfl (fun h70 => ?_) (fun h70 => ?_)
   ·skip
    replace h70 := xg h70
    replace h70 := xX h70
    refine qm (qA ?_)
    refine sw (jo [.slice none 0 0, .slice none 0 0, .slice none 0 0] [] ?_)
    refine sw (xP H 4 [.slice none 0 0, .slice none 0 0, .slice none 0 0] Tryz.sizeOf38 fun w71 H => ?_)
    try dsimp only [List.set] at H
    refine sp (.int .i64 4) ?_
    refine qx (t_n (xC (t_r (b_r (t_r (t_r (b_r (t_r ?_))))))))
    replace H := H.Va 4
    replace H := H.nilRow 22 1
    replace H := H.Qw (α := List Int)
    replace H := H.Vo 2
    refine retC2 H 7 rfl (.int .i64 4) rfl Tryz.isAgg38 Tryz.sizeOf38 rfl rfl ⟨_, rfl, ?_, H.base⟩
    rw [kr, choose_4 (k := i_1) rfl (by omega) (by first | exact .inl ‹_› | exact .inr ‹_›)]
    exact ⟨none, 0, 0, none, 0, 0, [], [], none, 0, 0, rfl, (N.emp.pick [0]), H.pick [2, 1, 0] [0]⟩
   replace h70 := qY h70
   replace h70 := jG h70
   refine xk (t_n (qm (qA ?_)))
   refine sps [.slice (aa b54 o55) ch.length cch, .int .i64 i_1] ?_
   refine sw (xK i_1 Tryz.underlying27 ti22 rfl rfl (by omega) (by omega) ?_)
   refine sw (qE (.slice ae57 ((ch[i_1]!).length) ce57) Tryz.isAgg22 rfl (H.xY 1 rfl 0 rfl) ?_)
   obtain ⟨G72, hn73, h74⟩ := H.rowIsB 1 rfl
   obtain ⟨G75, hn76, h77⟩ := H.QW (α := List Int) 2 rfl 2 rfl (by decide)
   obtain ⟨G78, hn79, h80⟩ := H.rowIsI 3 rfl
   have k3' := kc i_1 (by omega)
   have sz84 := H.base.size
   have lt85 := H.ltN (L := [Xh]) [2]
   refine sw (qZ #[pp b1 0, pp b35 0, .slice ae57 ((ch[i_1]!).length) ce57] rfl rfl Tryz.call61 (l03Step_ok w68 s u (ch[i_1]!) b1 0 qw qo qO qF qB xw b35 0 vS vP G72 jm jl G75 vk vg G78 ae57 ce57 Fe57 (qH (H.cells 6 rfl) 0 3) (H.get 3 rfl).1 (H.get 4 rfl).1 (by have hz := (qH (H.cells 0 rfl) 0 3); rw [hn73, hn76, hn79] at hz; exact hz) (hn73 ▸ h74) (hn76 ▸ h77) (hn79 ▸ h80) (H.get 0 rfl).1 (by first | assumption | omega) (by first | assumption | omega) (by first | assumption | omega)) ?_)
   rintro _ w82 ⟨ra81aAlive, rn81aAlive, rc81aAlive, ra81aBags, rn81aBags, rc81aBags, rx81aBags, rF81aBags, ra81aAround, rn81aAround, rc81aAround, rfl, M, K⟩ _
   replace N := N.merge sz84 lt85 M
   replace H := H.merge K M
   dsimp only [List.cons_append, List.nil_append] at H
   obtain rfl := H.QA 0 rfl
   obtain rfl := H.zt (α := List Int) 1 rfl 0 rfl (by decide)
   obtain rfl := H.QS 2 rfl
   refine sps [.tuple #[.agg #[.slice ra81aAlive ((((ve s u (ch[i_1]!)).1).qh).length) rc81aAlive, .slice ra81aBags ((((ve s u (ch[i_1]!)).1).qp).length) rc81aBags, .slice ra81aAround ((((ve s u (ch[i_1]!)).1).ql).length) rc81aAround], .int .i64 ((ve s u (ch[i_1]!)).2)], .agg #[.slice ra81aAlive ((((ve s u (ch[i_1]!)).1).qh).length) rc81aAlive, .slice ra81aBags ((((ve s u (ch[i_1]!)).1).qp).length) rc81aBags, .slice ra81aAround ((((ve s u (ch[i_1]!)).1).ql).length) rc81aAround], .int .i64 ((ve s u (ch[i_1]!)).2)] ?_
   refine sw (zn H ti38 [.slice none 0 0, .slice none 0 0, .slice none 0 0] fun b89 w90 H => ?_)
   refine sw (xP H 0 [.slice ra81aAlive ((((ve s u (ch[i_1]!)).1).qh).length) rc81aAlive, .slice ra81aBags ((((ve s u (ch[i_1]!)).1).qp).length) rc81aBags, .slice ra81aAround ((((ve s u (ch[i_1]!)).1).ql).length) rc81aAround] Tryz.sizeOf38 fun w91 H => ?_)
   try dsimp only [List.set] at H
   refine sp (.int .i64 ((ve s u (ch[i_1]!)).2)) ?_
   refine qx (t_n (qm (qm (qA ?_))))
   refine sps [.int .i64 ((ve s u (ch[i_1]!)).2), .bool (((ve s u (ch[i_1]!)).2 : Int) != 0)] ?_
   refine qx (t_n ?_)
   refine qW (((ve s u (ch[i_1]!)).2 : Int) != 0) rfl (fun h92 => ?_) (fun h92 => ?_)
   ·skip
    replace h92 := bne_iff_ne.1 h92
    refine qm (qA ?_)
    refine sw (jo [.slice none 0 0, .slice none 0 0, .slice none 0 0] [] ?_)
    refine sp (.int .i64 ((ve s u (ch[i_1]!)).2)) ?_
    refine sw (xP H 8 [.slice none 0 0, .slice none 0 0, .slice none 0 0] Tryz.sizeOf38 fun w93 H => ?_)
    try dsimp only [List.set] at H
    refine sp (.int .i64 ((ve s u (ch[i_1]!)).2)) ?_
    refine qx (t_n (xC (t_r (b_r (t_r (t_r (b_r (t_r ?_))))))))
    replace H := H.Va 4
    replace H := H.nilRow 22 1
    replace H := H.Qw (α := List Int)
    replace H := H.Vo 2
    refine retC2 H 11 rfl (.int .i64 ((ve s u (ch[i_1]!)).2)) rfl Tryz.isAgg38 Tryz.sizeOf38 rfl rfl ⟨_, rfl, ?_, H.base⟩
    rw [kr, choose_bad (k := i_1) rfl (by omega) ‹¬ Halted s u› ‹Xy s u _› ‹_›]
    exact ⟨none, 0, 0, none, 0, 0, [], [], none, 0, 0, rfl, (N.emp.pick [0]), H.pick [2, 1, 0] [0]⟩
   replace h92 := xR h92
   refine xk (t_n (qA ?_))
   refine sw (zg [.slice ra81aAlive ((((ve s u (ch[i_1]!)).1).qh).length) rc81aAlive, .slice ra81aBags ((((ve s u (ch[i_1]!)).1).qp).length) rc81aBags, .slice ra81aAround ((((ve s u (ch[i_1]!)).1).ql).length) rc81aAround] Tryz.isAgg38 Tryz.sizeOf38 rfl (qH (H.cells 0 rfl) 0 3) ?_)
   refine sw (xP H 4 [.slice ra81aAlive ((((ve s u (ch[i_1]!)).1).qh).length) rc81aAlive, .slice ra81aBags ((((ve s u (ch[i_1]!)).1).qp).length) rc81aBags, .slice ra81aAround ((((ve s u (ch[i_1]!)).1).ql).length) rc81aAround] Tryz.sizeOf38 fun w94 H => ?_)
   try dsimp only [List.set] at H
   refine qx (b_n (t_n (qA ?_)))
   refine sp (.int .i64 i_1) ?_
   refine sw (zZ i_1 1 rfl rfl (by omega) ?_)
   refine sp (.int .i64 (i_1 + 1)) ?_
   refine qx ?_
   refine xH (m' := (ch.length - ((i_1 + 1) : Int)).toNat) (by omega) ⟨_, i_1 + 1, ra81aAlive, (((ve s u (ch[i_1]!)).1).qh).length, rc81aAlive, ((ve s u (ch[i_1]!)).1).qh, ra81aBags, (((ve s u (ch[i_1]!)).1).qp).length, rc81aBags, ((ve s u (ch[i_1]!)).1).qp, rx81aBags, rF81aBags, ra81aAround, (((ve s u (ch[i_1]!)).1).ql).length, rc81aAround, ((ve s u (ch[i_1]!)).1).ql, (ve s u (ch[i_1]!)).1, (by exact qj (qj (qj (qj (qj (rfl) rfl) rfl) rfl) rfl) rfl), ?_, ?_, ?_, ?_, ?_, ?_, rfl, (N.pick [0]), H.pick [4, 1, 2, 3, 8, 9, 10] [0, 4, 5, 6, 7, 8, 9]⟩
   · rfl
   · rfl
   · rfl
   · omega
   · exact stepBy_ok ‹_›
   · exact kr.trans (choose_go (k := i_1) rfl (by omega) rfl ‹¬ Halted s u› ‹Xy s u _› ‹_›)
  replace h53 := jG h53
  refine zf [45, 46, 47, 48, 49, 50] ?_
  refine sp (.bool true) ?_
  refine qx (t_n ?_)
  refine qW true rfl (fun _ => ?_) (fun h => absurd h (by decide))
  refine qm (qA ?_)
  refine sw (jo [.slice none 0 0, .slice none 0 0, .slice none 0 0] [] ?_)
  refine sw (xP H 4 [.slice none 0 0, .slice none 0 0, .slice none 0 0] Tryz.sizeOf38 fun w95 H => ?_)
  try dsimp only [List.set] at H
  refine sp (.int .i64 4) ?_
  refine qx (t_n (xC (t_r (b_r (t_r (t_r (b_r (t_r ?_))))))))
  replace H := H.Va 4
  replace H := H.nilRow 22 1
  replace H := H.Qw (α := List Int)
  replace H := H.Vo 2
  refine retC2 H 7 rfl (.int .i64 4) rfl Tryz.isAgg38 Tryz.sizeOf38 rfl rfl ⟨_, rfl, ?_, H.base⟩
  rw [kr, choose_4 (k := i_1) rfl (by omega) (by first | exact .inl ‹_› | exact .inr ‹_›)]
  exact ⟨none, 0, 0, none, 0, 0, [], [], none, 0, 0, rfl, (N.emp.pick [0]), H.pick [2, 1, 0] [0]⟩
 replace h40 := of_decide_eq_false h40
 refine zK (t_x (t_x (b_x (t_n (qm (qA ?_))))))
 refine sw (zg [.slice vS jw vP, .slice jm jR jl, .slice vk vW vg] Tryz.isAgg38 Tryz.sizeOf38 rfl (qH (H.cells 0 rfl) 0 3) ?_)
 refine sw (xP H 4 [.slice vS jw vP, .slice jm jR jl, .slice vk vW vg] Tryz.sizeOf38 fun w96 H => ?_)
 try dsimp only [List.set] at H
 refine sp (.int .i64 0) ?_
 refine qx (t_n (xC ?_))
 refine retC2 H 4 rfl (.int .i64 0) rfl Tryz.isAgg38 Tryz.sizeOf38 rfl rfl ⟨_, rfl, ?_, H.base⟩
 rw [kr, choose_end (by omega)]
 exact ⟨vS, jw, vP, jm, jR, jl, XN, Xh, vk, vW, vg, rfl, N, H.pick [1, 2, 3] [0]⟩

theorem isMaximal_ok (w : World) (s : qX) (t : qU) (counts : List Int) (qw : Option Addr) (qo : Nat) (qO : List Nat) (qF : Option Addr) (qB : Nat) (xw : List Nat) (qM : Option Addr) (qI : Nat) (xJ : List Nat) (xF : Option Addr) (xn : Nat) (zq : List Nat) (qL : Option Addr) (qK : Nat) (xI : List Nat) (acounts : Option Addr) (ccounts : Nat) (Fcounts : List Nat) (xx : qV.rep w qO [.slice qw s.qf.length qo] s.qf) (xM : qV.rep w xw [.slice qF s.qg.length qB] s.qg) (zo : qV.rep w xJ [.slice qM t.qh.length qI] t.qh) (zY : qV.rep w zq [.slice xF t.qp.length xn] t.qp) (xW : qV.rep w xI [.slice qL t.ql.length qK] t.ql) (hcounts : qV.rep w Fcounts [.slice acounts counts.length ccounts] counts) (p0 : yI s) (p1 : zu s t) (p2 : CntOk s counts) : Calls Tryz.prog 78 #[.agg #[.int .i64 s.qJ, .slice qw s.qf.length qo, .slice qF s.qg.length qB], .agg #[.slice qM t.qh.length qI, .slice xF t.qp.length xn, .slice qL t.ql.length qK], .slice acounts counts.length ccounts] w (Ret (fun v w' => v = .tuple #[.bool (dec (Xy s t counts)), .int .i64 0]) w) := by
 refine enter (n := 34) Tryz.func78 rfl Tryz.ntmps78 (Nat.le_of_ble_eq_true rfl) ?_
 have H := ((((((St.start w).arg hcounts).arg xW).arg zY).arg zo).arg xM).arg xx
 have vU := qN xx
 have jW := qN xM
 have QB := qN zo
 have Xn := qN zY
 have yT := qN xW
 have nhcounts := qN hcounts
 clear xx xM zo zY xW hcounts
 have N := Fresh.nil w.heap.size
 have k1 := p0
 have k2 := p1
 have k3 := p2
 have kl := kinds_le p0
 refine qm (qA ?_)
 refine sw (yN H [.int .i64 s.qJ, .slice qw s.qf.length qo, .slice qF s.qg.length qB] fun b1 w2 H => ?_)
 refine sw (yN H [.slice qM t.qh.length qI, .slice xF t.qp.length xn, .slice qL t.ql.length qK] fun b3 w4 H => ?_)
 refine sps [.bool false, .int .i64 0] ?_
 refine qx (t_n (qm (qm (qA ?_))))
 refine sw (zg [.int .i64 s.qJ, .slice qw s.qf.length qo, .slice qF s.qg.length qB] Tryz.isAgg36 Tryz.sizeOf36 rfl (qH (H.cells 1 rfl) 0 3) ?_)
 refine sw (zg [.slice qM t.qh.length qI, .slice xF t.qp.length xn, .slice qL t.ql.length qK] Tryz.isAgg38 Tryz.sizeOf38 rfl (qH (H.cells 0 rfl) 0 3) ?_)
 refine sp (.slice acounts counts.length ccounts) ?_
 refine sw (qZ #[.agg #[.int .i64 s.qJ, .slice qw s.qf.length qo, .slice qF s.qg.length qB], .agg #[.slice qM t.qh.length qI, .slice xF t.qp.length xn, .slice qL t.ql.length qK], .slice acounts counts.length ccounts] rfl rfl Tryz.call70 (countsCode_ok w4 s t counts qw qo qO qF qB xw qM qI xJ xF xn zq qL qK xI acounts ccounts Fcounts (H.get 0 rfl).1 (H.get 1 rfl).1 (H.get 2 rfl).1 (H.get 3 rfl).1 (H.get 4 rfl).1 (H.get 5 rfl).1) ?_)
 rintro _ w6 rfl x7
 replace H := H.ext x7
 refine sp (.int .i64 (QT s t counts)) ?_
 refine qx (t_n (qm (qA ?_)))
 refine sps [.int .i64 (QT s t counts), .bool ((QT s t counts : Int) != 0)] ?_
 refine qx (t_n ?_)
 refine qW ((QT s t counts : Int) != 0) rfl (fun h8 => ?_) (fun h8 => ?_)
 ·skip
  replace h8 := bne_iff_ne.1 h8
  exact absurd (ask_0 ⟨p0, p1⟩ p2) h8
 replace h8 := xR h8
 refine xk (t_n (qm (qA ?_)))
 refine sw (zg [.int .i64 s.qJ, .slice qw s.qf.length qo, .slice qF s.qg.length qB] Tryz.isAgg36 Tryz.sizeOf36 rfl (qH (H.cells 1 rfl) 0 3) ?_)
 refine sw (zg [.slice qM t.qh.length qI, .slice xF t.qp.length xn, .slice qL t.ql.length qK] Tryz.isAgg38 Tryz.sizeOf38 rfl (qH (H.cells 0 rfl) 0 3) ?_)
 refine sp (.slice acounts counts.length ccounts) ?_
 have kn : 1 ≤ QI s := by have := k1.1.1.1; unfold QI; omega
 have k7 := k2.2.1
 have k8 := k1.2.1
 have k9 := k3.1
 have k10 := k1.1.2.1
 have k11 : jr s = s.qf.length := rfl
 refine sw (yS #[.agg #[.int .i64 s.qJ, .slice qw s.qf.length qo, .slice qF s.qg.length qB], .agg #[.slice qM t.qh.length qI, .slice xF t.qp.length xn, .slice qL t.ql.length qK], .slice acounts counts.length ccounts] rfl rfl Tryz.call71 ?_)
 refine enter (n := 56) Tryz.func71 rfl Tryz.ntmps71 (Nat.le_of_ble_eq_true rfl) ?_
 refine qm (qA ?_)
 refine sw (yN H [.int .i64 s.qJ, .slice qw s.qf.length qo, .slice qF s.qg.length qB] fun b9 w10 H => ?_)
 refine sw (yN H [.slice qM t.qh.length qI, .slice xF t.qp.length xn, .slice qL t.ql.length qK] fun b11 w12 H => ?_)
 refine sps [.slice none 0 0, .bool false] ?_
 refine qx (t_n (qm ?_))
 refine yw rfl H fun H => ?_
 refine rt 0 (pp b11 (0 + 1)) (xG b11 (0) 1 Tryz.underlying38 rfl rfl Tryz.sizeOf27 rfl) H ?_
 refine rt 1 (.slice xF t.qp.length xn) (xA Tryz.isAgg27 rfl (fun _ h => h.cell 0 rfl rfl)) H ?_
 refine rt 3 (.agg #[.int .i64 s.qJ, .slice qw s.qf.length qo, .slice qF s.qg.length qB]) (Qp (cs := [.int .i64 s.qJ, .slice qw s.qf.length qo, .slice qF s.qg.length qB]) Tryz.isAgg36 Tryz.sizeOf36 rfl (fun _ h => qH (h.cells 1 rfl) 0 3)) H ?_
 refine rt 4 (.agg #[.slice qM t.qh.length qI, .slice xF t.qp.length xn, .slice qL t.ql.length qK]) (Qp (cs := [.slice qM t.qh.length qI, .slice xF t.qp.length xn, .slice qL t.ql.length qK]) Tryz.isAgg38 Tryz.sizeOf38 rfl (fun _ h => qH (h.cells 0 rfl) 0 3)) H ?_
 refine xq [2] (by kernel_rfl) (by simp) (xZ rfl ?_ xu)
 have sz17 := H.base.size
 refine qZ #[.slice xF t.qp.length xn] rfl rfl Tryz.call98 (cloneSS_ok w12.drew t.qp xF xn zq (H.get 3 rfl).1 (by first | assumption | omega)) ?_
 rintro _ w15 ⟨ra14, rn14, rc14, rx14, rF14, rfl, hG19, K⟩ _
 replace H := H.mergeIn K 3 rfl hG19
 dsimp only [List.cons_append, List.nil_append] at H
 obtain rfl := H.zt (α := List Int) 0 rfl 0 rfl (by decide)
 refine ⟨H.pick [1, 2, 3, 4] [1, 2, 3, 4, 5, 6], ?_⟩
 refine xq [5] (by kernel_rfl) (by simp) (xZ rfl ?_ xu)
 have sz23 := H.base.size
 refine qZ #[.agg #[.int .i64 s.qJ, .slice qw s.qf.length qo, .slice qF s.qg.length qB], .agg #[.slice qM t.qh.length qI, .slice xF t.qp.length xn, .slice qL t.ql.length qK]] rfl rfl Tryz.call65 (applicable_ok w15 s t qw qo qO qF qB xw qM qI xJ xF xn zq qL qK xI (H.get 1 rfl).1 (H.get 2 rfl).1 (H.get 3 rfl).1 (H.get 4 rfl).1 (H.get 5 rfl).1 (by first | assumption | omega) (by first | assumption | omega)) ?_
 rintro _ w21 ⟨ra20, rn20, rc20, rfl, M, K⟩ _
 replace H := H.merge K M
 dsimp only [List.cons_append, List.nil_append] at H
 obtain rfl := H.QS 0 rfl
 have al : (appls s t).length ≤ s.qg.length := applL_le s t s.qg.length
 refine ⟨H.pick [2, 3, 4, 5] [1, 2, 3, 4, 5, 6], ?_⟩
 have S := H.yG [2, 3, 4, 5] [1, 2, 3, 4, 5, 6]
 refine rtp 6 (.slice ra14 t.qp.length rc14) S ?_
 refine rtp 7 (.slice ra20 ((appls s t).length) rc20) S ?_
 refine xN (by kernel_rfl) (t_n ?_)
 refine qm (qm (qA ?_))
 refine sp (.slice acounts counts.length ccounts) ?_
 refine sw (zX Tryz.underlying22 acounts counts.length ccounts rfl ?_)
 refine sp (.int .i64 0) ?_
 refine qx (t_n (xE ?_))
 refine zU (fun m' ρ w26 => ∃ (junk : Env) (i : Nat) (rest : List (List Int)) (XX : List Value) (Vj : List Nat), ρ = upd (upd (upd (upd (upd (upd junk 3 (pp b9 0)) 8 (.slice ra14 t.qp.length rc14)) 9 (.slice ra20 ((appls s t).length) rc20)) 19 (.slice acounts counts.length ccounts)) 20 (.int .i64 counts.length)) 21 (.int .i64 i) ∧ rest = zi s t counts i ∧ ((i : Int) ≤ counts.length) ∧ (GoodTo s t counts i) ∧ m' = (counts.length - (i : Int)).toNat ∧ Fresh w.heap.size [] ∧ St w w26 [.row (.slice ra20 ((appls s t).length) rc20) 2 1 ((appls s t).length) ((appls s t).map (Value.int .i64)), .row (.slice ra14 t.qp.length rc14) 22 1 t.qp.length XX, .box b11 [.slice qM t.qh.length qI, .slice xF t.qp.length xn, .slice qL t.ql.length qK] 38, .box b9 [.int .i64 s.qJ, .slice qw s.qf.length qo, .slice qF s.qg.length qB] 36, .box b3 [.slice qM t.qh.length qI, .slice xF t.qp.length xn, .slice qL t.ql.length qK] 38, .box b1 [.int .i64 s.qJ, .slice qw s.qf.length qo, .slice qF s.qg.length qB] 36] [vX false Vj XX rest, isF false qO (.slice qw s.qf.length qo) s.qf, isF false xw (.slice qF s.qg.length qB) s.qg, isF false xJ (.slice qM t.qh.length qI) t.qh, isF false zq (.slice xF t.qp.length xn) t.qp, isF false xI (.slice qL t.ql.length qK) t.ql, isF false Fcounts (.slice acounts counts.length ccounts) counts]) ((counts.length - (0 : Int)).toNat) ⟨_, 0, t.qp, rx14, rF14, (by exact qj (qj (qj (qj (qj (qj (rfl) rfl) rfl) rfl) rfl) rfl) rfl), (by rfl), (by omega), (by exact fun j hj => by omega), rfl, N, H⟩ ?_
 clear H N
 rintro m' ρ w27 ⟨junk, i, rest, XX, Vj, rfl, rfl, i0, i1, rfl, N, H⟩
 have hn_rest := H.zt (α := List Int) 1 rfl 0 rfl (by decide)
 have rl := restR_len (s := s) (t := t) (counts := counts) i
 refine qm (qA ?_)
 refine sp (.bool (decide ((i : Int) < counts.length))) ?_
 refine qx (t_n (qm ?_))
 refine qW (decide ((i : Int) < counts.length)) rfl (fun h28 => ?_) (fun h28 => ?_)
 ·skip
  replace h28 := of_decide_eq_true h28
  have q := k1.rule (i := i) (by omega)
  have qc := q.1
  have qk := q.cell
  have b1 := q.2.2.2.2.1
  have p10 := k3.bd (i := i) (by omega)
  refine xk (t_n (qm (xE (qm (qA ?_)))))
  refine sp (.int .i64 i) ?_
  obtain ⟨b29, o30, rfl⟩ := H.addr 6 rfl (by omega)
  refine sw (xK i Tryz.underlying22 ti2 rfl rfl (by omega) (by omega) ?_)
  refine sw (qE (.int .i64 (counts[i]!)) Tryz.isAgg2 rfl (H.jq 6 rfl i (by omega) (by omega)) ?_)
  refine sps [.int .i64 i, .int .i64 (counts[i]!)] ?_
  refine qx (t_n (qm (qm (qA ?_))))
  refine sps [.int .i64 (counts[i]!), .bool ((counts[i]! : Int) == 0)] ?_
  refine qx (t_n ?_)
  refine qW ((counts[i]! : Int) == 0) rfl (fun h32 => ?_) (fun h32 => ?_)
  ·skip
   replace h32 := eq_of_beq h32
   refine zK (t_x (b_x (t_n (qA ?_))))
   refine sw (zZ i 1 rfl rfl (by omega) ?_)
   refine sp (.int .i64 (i + 1)) ?_
   refine qx ?_
   refine xH (m' := (counts.length - ((i + 1) : Int)).toNat) (by omega) ⟨_, i + 1, (zi s t counts i), XX, Vj, (by exact qj (qj (qj (qj (qj (qj (rfl) rfl) rfl) rfl) rfl) rfl) rfl), ?_, ?_, ?_, rfl, N, H⟩
   · first | rfl | exact (restR_skip k1 k2 (by omega) ‹_›).symm
   · omega
   · exact i1.succ (fun h => by obtain ⟨u, v⟩ := h; first | omega | exact v ((mem_appls (by omega)).1 ‹_›))
  replace h32 := ne_of_beq_false h32
  refine xk (t_n (qm (qm (qA ?_))))
  refine sps [.slice ra20 ((appls s t).length) rc20, .int .i64 i] ?_
  obtain ⟨G33, hn34, h35⟩ := H.rowIsI 0 rfl
  refine sw (qZ #[.slice ra20 ((appls s t).length) rc20, .int .i64 i] rfl rfl Tryz.call64 (containsI_ok w27 (appls s t) i ra20 rc20 G33 h35) ?_)
  rintro _ w37 rfl x38
  replace H := H.ext x38
  refine sp (.bool (!(dec ((i : Int) ∈ (appls s t))))) ?_
  refine qx (t_n ?_)
  refine qW (!(dec ((i : Int) ∈ (appls s t)))) rfl (fun h39 => ?_) (fun h39 => ?_)
  ·skip
   replace h39 := xg h39
   replace h39 := xX h39
   refine qm (qA ?_)
   refine sps [.slice none 0 0, .bool false] ?_
   refine qx (t_n (xC (t_r (b_r (t_r (t_r (b_r (t_r ?_))))))))
   refine ret2 (.slice none 0 0) (.bool false) rfl rfl rfl ⟨_, rfl, ?_⟩
   replace H := H.erases [3, 2, 1, 0]
   dsimp only [yV, List.eraseIdx] at H
   refine sps [.tuple #[.slice none 0 0, .bool false], .slice none 0 0, .bool false] ?_
   refine sw (zn H ti27 [.slice none 0 0] fun b40 w41 H => ?_)
   refine sw (Xq H 0 [.slice none 0 0] Tryz.sizeOf27 fun w42 H => ?_)
   try dsimp only [List.set] at H
   refine sp (.bool false) ?_
   refine qx (t_n (qm (qA ?_)))
   refine sps [.bool false, .bool false] ?_
   refine zf [27, 28, 29, 30, 31, 32] ?_
   refine sps [.bool false, .bool false, .int .i64 0] ?_
   refine qx (t_n (xC ?_))
   refine ret2 (.bool false) (.int .i64 0) rfl rfl rfl ⟨_, rfl, ?_, H.base⟩
   rw [xy (fun h => by first | exact (fun h => by first | exact h.1 i (by omega) ⟨by omega, fun a => ‹¬ (i : Int) ∈ appls s t› ((mem_appls (by omega)).2 a)⟩ | (have e : i = counts.length := (by omega); have h2 := h.2; rw [← e] at h2; exact (minL_neg (by omega)).1 ‹minL ((zi s t counts i)[i_1]!) < 0› (h2 i_1 (by omega)))) h.1 | (have e : i = counts.length := (by omega); have h2 := h.2 _ a1 a2; rw [← e] at h2; exact ft ‹within _ _ = true› h2))]
  replace h39 := qY h39
  replace h39 := jG h39
  refine xk (t_n (qm (qA ?_)))
  refine sw (qP b9 (0) 2 Tryz.underlying36 rfl rfl Tryz.sizeOf34 rfl ?_)
  refine sw (qE (.slice qF s.qg.length qB) Tryz.isAgg34 rfl (H.cell 3 rfl rfl) ?_)
  refine sp (.int .i64 i) ?_
  obtain ⟨b43, o44, rfl⟩ := H.addr 2 rfl (by omega)
  obtain ⟨ae46Need, ce46Need, Fe46Need, ae46Have, ce46Have, Fe46Have, ae46Lack, ce46Lack, Fe46Lack, ae46Here, ce46Here, Fe46Here, ae46Out, ce46Out, Fe46Out, ae46Into, ce46Into, Fe46Into, H⟩ := H.yB 2 rfl i i (by omega) (by omega) (by omega)
  refine sw (xK i Tryz.underlying34 ti110 rfl rfl (by omega) (by omega) ?_)
  refine sw (zg [.int .i64 ((s.qg[i]!).qy), .int .i64 ((s.qg[i]!).zh), .slice ae46Need (((s.qg[i]!).qR).length) ce46Need, .slice ae46Have (((s.qg[i]!).xh).length) ce46Have, .slice ae46Lack (((s.qg[i]!).xm).length) ce46Lack, .slice ae46Here (((s.qg[i]!).xB).length) ce46Here, .slice ae46Out (((s.qg[i]!).zk).length) ce46Out, .slice ae46Into (((s.qg[i]!).qC).length) ce46Into, .bool ((s.qg[i]!).xQ)] Tryz.isAgg110 Tryz.sizeOf110 rfl (qH (H.get 6 rfl) 0 9) ?_)
  refine sw (zn H ti110 [.int .i64 0, .int .i64 0, .slice none 0 0, .slice none 0 0, .slice none 0 0, .slice none 0 0, .slice none 0 0, .slice none 0 0, .bool false] fun b47 w48 H => ?_)
  refine sw (xP H 0 [.int .i64 ((s.qg[i]!).qy), .int .i64 ((s.qg[i]!).zh), .slice ae46Need (((s.qg[i]!).qR).length) ce46Need, .slice ae46Have (((s.qg[i]!).xh).length) ce46Have, .slice ae46Lack (((s.qg[i]!).xm).length) ce46Lack, .slice ae46Here (((s.qg[i]!).xB).length) ce46Here, .slice ae46Out (((s.qg[i]!).zk).length) ce46Out, .slice ae46Into (((s.qg[i]!).qC).length) ce46Into, .bool ((s.qg[i]!).xQ)] Tryz.sizeOf110 fun w49 H => ?_)
  try dsimp only [List.set] at H
  refine qx (t_n ?_)
  refine Qa rfl H [0, 1, 3, 4, 5, 6] fun H => ?_
  have S := H.yG [0, 1, 3, 4, 5, 6] [0, 1, 2, 3, 4, 5, 6, 7, 8, 9, 10, 11, 12, 13]
  refine rtp 0 (.slice ra14 t.qp.length rc14) S ?_
  refine rt 1 (pp b47 (0 + 0)) (xG b47 (0) 0 Tryz.underlying110 rfl rfl Tryz.sizeOf2 rfl) S ?_
  refine rt 2 (.int .i64 ((s.qg[i]!).qy)) (xA Tryz.isAgg2 rfl (fun _ h => h.cell 0 rfl rfl)) S ?_
  refine rtp 3 (.slice ra14 t.qp.length rc14) S ?_
  refine rt 4 (pp b47 (0 + 0)) (xG b47 (0) 0 Tryz.underlying110 rfl rfl Tryz.sizeOf2 rfl) S ?_
  refine rt 5 (.int .i64 ((s.qg[i]!).qy)) (xA Tryz.isAgg2 rfl (fun _ h => h.cell 0 rfl rfl)) S ?_
  obtain ⟨b51, rfl⟩ := H.Xa 2 rfl (by omega)
  have S := H.yG [0, 1, 3, 4, 5, 6] [0, 1, 2, 3, 4, 5, 6, 7, 8, 9, 10, 11, 12, 13]
  refine rt 6 (pp b51 (0 + ((s.qg[i]!).qy : Int).toNat * 1)) (xO b51 (0) t.qp.length rc14 ((s.qg[i]!).qy) Tryz.underlying27 ti22 rfl rfl (by omega) (by omega)) S ?_
  refine rt 8 (pp b47 (0 + 2)) (xG b47 (0) 2 Tryz.underlying110 rfl rfl Tryz.sizeOf22 rfl) S ?_
  refine rt 9 (.slice ae46Need (((s.qg[i]!).qR).length) ce46Need) (xA Tryz.isAgg22 rfl (fun _ h => h.cell 0 rfl rfl)) S ?_
  refine rtp 10 (.int .i64 (counts[i]!)) S ?_
  refine rt 11 (.int .i64 (-(counts[i]!))) (y_neg (counts[i]!) rfl (by omega)) S ?_
  refine xq [7] (by kernel_rfl) (by simp) (xZ rfl ?_ xu)
  obtain ⟨a52, c53, G54, s55, h56, H⟩ := H.jg 2 rfl 7 rfl (iv := (s.qg[i]!).qy) (((s.qg[i]!).qy).toNat) (by omega) (by omega)
  refine qE (.slice a52 (((zi s t counts i)[((s.qg[i]!).qy).toNat]!).length) c53) Tryz.isAgg22 rfl (h56) ?_
  refine ⟨H.pick [0, 1, 3, 4, 5, 6] [1, 2, 3, 4, 5, 6, 7, 8, 9, 10, 11, 12, 13, 14], ?_⟩
  refine xq [12] (by kernel_rfl) (by simp) (xZ rfl ?_ xu)
  obtain ⟨u1, u2⟩ := restR_row (c := (s.qg[i]!).qy.toNat) k1 k2 k3 (show i ≤ _ by omega) qk
  have u3 := b1.len
  have u4 := b1.yK (t := -(counts[i]!)) (by omega)
  have sz57 := H.base.size
  refine qZ #[.slice a52 (((zi s t counts i)[((s.qg[i]!).qy).toNat]!).length) c53, .slice ae46Need (((s.qg[i]!).qR).length) ce46Need, .int .i64 (-(counts[i]!))] rfl rfl Tryz.call100 (plus_ok w49.drew ((zi s t counts i)[((s.qg[i]!).qy).toNat]!) ((s.qg[i]!).qR) (-(counts[i]!)) a52 c53 G54 ae46Need ce46Need Fe46Need (H.get 0 rfl).1 (H.get 1 rfl).1 (by first | assumption | omega) (by first | assumption | omega) (by first | assumption | omega)) ?_
  rintro v62 w60 r62 x61
  replace H := H.zJ x61 r62
  obtain ⟨a63, c64, rfl, hc65, hm66⟩ := H.jv 0 rfl
  refine ⟨H.pick [1, 2, 4, 5, 6, 7] [1, 2, 3, 4, 5, 6, 7, 8, 9, 10, 11, 12, 13, 14], ?_⟩
  refine rt 13 (pp b51 (0 + ((s.qg[i]!).qy : Int).toNat * 1)) (xO b51 (0) t.qp.length rc14 ((s.qg[i]!).qy) Tryz.underlying27 ti22 rfl rfl (by omega) (by omega)) (H.pick [1, 2, 4, 5, 6, 7] [1, 2, 3, 4, 5, 6, 7, 8, 9, 10, 11, 12, 13, 14]) ?_
  refine xq [14] (by kernel_rfl) (by simp) (xZ rfl ?_ xu)
  obtain ⟨G68, N, hn69, H⟩ := H.yU 0 rfl N (H.Vg [])
  try dsimp only [List.set] at H
  refine jJ false H 3 rfl 9 rfl (.slice a63 ((yM ((zi s t counts i)[((s.qg[i]!).qy).toNat]!) ((s.qg[i]!).qR) (-(counts[i]!))).length) c64) 0 rfl rfl Tryz.sizeOf22 rfl rfl (i := (((s.qg[i]!).qy).toNat)) (by omega) (by omega) (by simp) fun w67 xs70 F71 hs72 H => ?_
  try dsimp only [List.set] at H
  refine ⟨H.pick [1, 2, 4, 5, 6, 7] [3, 4, 5, 6, 7, 8, 9, 10, 11, 12, 13, 14, 15, 16], ?_⟩
  refine xN (by kernel_rfl) (b_n (t_n ?_))
  refine qA ?_
  refine sw (zZ i 1 rfl rfl (by omega) ?_)
  refine sp (.int .i64 (i + 1)) ?_
  refine qx ?_
  refine xH (m' := (counts.length - ((i + 1) : Int)).toNat) (by omega) ⟨_, i + 1, ((zi s t counts i).set (((s.qg[i]!).qy).toNat) (yM ((zi s t counts i)[((s.qg[i]!).qy).toNat]!) ((s.qg[i]!).qR) (-(counts[i]!)))), xs70, F71, (by exact qj (qj (qj (qj (qj (qj (rfl) rfl) rfl) rfl) rfl) rfl) rfl), ?_, ?_, ?_, rfl, (N.pick []), H.pick [2, 3, 4, 5, 6, 7] [0, 11, 12, 13, 14, 15, 16]⟩
  · first | rfl | exact (restR_skip k1 k2 (by omega) ‹_›).symm
  · omega
  · exact i1.succ (fun h => by obtain ⟨u, v⟩ := h; first | omega | exact v ((mem_appls (by omega)).1 ‹_›))
 replace h28 := of_decide_eq_false h28
 refine zK (t_x (t_x (b_x (t_n (qm (qA ?_))))))
 refine sps [.slice ra14 t.qp.length rc14, .slice ra14 t.qp.length rc14] ?_
 refine sw (yS #[.slice ra14 t.qp.length rc14, .func (.func 118) #[] #[]] rfl rfl Tryz.call101 ?_)
 refine enter (n := 9) Tryz.func101 rfl Tryz.ntmps101 (Nat.le_of_ble_eq_true rfl) ?_
 refine qm (qA ?_)
 refine sp (.bool false) ?_
 refine qx (t_n (qm (qA ?_)))
 refine sps [.slice ra14 t.qp.length rc14, .func (.func 118) #[] #[]] ?_
 refine sw (yS #[.slice ra14 t.qp.length rc14, .func (.func 118) #[] #[]] rfl rfl Tryz.call147 ?_)
 refine enter (n := 19) Tryz.func147 rfl Tryz.ntmps147 (Nat.le_of_ble_eq_true rfl) ?_
 refine qm (qA ?_)
 refine sp (.int .i64 0) ?_
 refine qx (t_n (qm (qm (qA ?_))))
 refine sp (.slice ra14 t.qp.length rc14) ?_
 refine sw (zX Tryz.underlying27 ra14 t.qp.length rc14 rfl ?_)
 refine sp (.int .i64 0) ?_
 refine qx (t_n (xE ?_))
 refine zU (fun m' ρ w73 => ∃ (junk : Env) (i_1 : Nat), ρ = upd (upd (upd (upd junk 0 (.slice ra14 t.qp.length rc14)) 1 (.func (.func 118) #[] #[])) 7 (.int .i64 t.qp.length)) 8 (.int .i64 i_1) ∧ ((i_1 : Int) ≤ t.qp.length) ∧ (NonNeg (zi s t counts i) i_1) ∧ m' = (t.qp.length - (i_1 : Int)).toNat ∧ Fresh w.heap.size [] ∧ St w w73 [.row (.slice ra20 ((appls s t).length) rc20) 2 1 ((appls s t).length) ((appls s t).map (Value.int .i64)), .row (.slice ra14 t.qp.length rc14) 22 1 t.qp.length XX, .box b11 [.slice qM t.qh.length qI, .slice xF t.qp.length xn, .slice qL t.ql.length qK] 38, .box b9 [.int .i64 s.qJ, .slice qw s.qf.length qo, .slice qF s.qg.length qB] 36, .box b3 [.slice qM t.qh.length qI, .slice xF t.qp.length xn, .slice qL t.ql.length qK] 38, .box b1 [.int .i64 s.qJ, .slice qw s.qf.length qo, .slice qF s.qg.length qB] 36] [vX false Vj XX (zi s t counts i), isF false qO (.slice qw s.qf.length qo) s.qf, isF false xw (.slice qF s.qg.length qB) s.qg, isF false xJ (.slice qM t.qh.length qI) t.qh, isF false zq (.slice xF t.qp.length xn) t.qp, isF false xI (.slice qL t.ql.length qK) t.ql, isF false Fcounts (.slice acounts counts.length ccounts) counts]) ((t.qp.length - (0 : Int)).toNat) ⟨_, 0, (by exact qj (qj (qj (qj (rfl) rfl) rfl) rfl) rfl), (by omega), (by exact fun j hj => by omega), rfl, N, H⟩ ?_
 clear H N
 rintro m' ρ w74 ⟨junk, i_1, rfl, i0, i2, rfl, N, H⟩
 refine qm (qA ?_)
 refine sp (.bool (decide ((i_1 : Int) < t.qp.length))) ?_
 refine qx (t_n (qm ?_))
 refine qW (decide ((i_1 : Int) < t.qp.length)) rfl (fun h75 => ?_) (fun h75 => ?_)
 ·skip
  replace h75 := of_decide_eq_true h75
  refine xk (t_n (qm (xE (qm (qA ?_)))))
  refine sps [.int .i64 i_1, .int .i64 i_1] ?_
  refine qx (t_n (qm (qA ?_)))
  refine sps [.func (.func 118) #[] #[], .slice ra14 t.qp.length rc14, .int .i64 i_1] ?_
  obtain ⟨b76, rfl⟩ := H.Xa 1 rfl (by omega)
  refine sw (xK i_1 Tryz.underlying27 ti22 rfl rfl (by omega) (by omega) ?_)
  obtain ⟨a77, c78, G79, s80, h81, H⟩ := H.jg 1 rfl 0 rfl (iv := i_1) i_1 (by omega) (by omega)
  refine sw (qE (.slice a77 (((zi s t counts i)[i_1]!).length) c78) Tryz.isAgg22 rfl (h81) ?_)
  refine sw (yS #[.slice a77 (((zi s t counts i)[i_1]!).length) c78] rfl rfl Tryz.call118 ?_)
  refine enter (n := 6) Tryz.func118 rfl Tryz.ntmps118 (Nat.le_of_ble_eq_true rfl) ?_
  refine qm (qA ?_)
  refine sp (.bool false) ?_
  refine qx (t_n (qm (qA ?_)))
  refine sp (.slice a77 (((zi s t counts i)[i_1]!).length) c78) ?_
  obtain ⟨u1, u2⟩ := restR_row (c := i_1) k1 k2 k3 (show i ≤ _ by omega) (by omega)
  refine sw (qZ #[.slice a77 (((zi s t counts i)[i_1]!).length) c78] rfl rfl Tryz.call119 (minI_ok w74 ((zi s t counts i)[i_1]!) a77 c78 G79 (H.get 0 rfl).1 (by first | assumption | omega)) ?_)
  rintro _ w83 rfl x84
  replace H := H.ext x84
  refine sps [.bool (decide ((minL ((zi s t counts i)[i_1]!) : Int) < 0)), .bool (decide ((minL ((zi s t counts i)[i_1]!) : Int) < 0))] ?_
  refine qx (t_n (xC ?_))
  refine ret1 (.bool (decide ((minL ((zi s t counts i)[i_1]!) : Int) < 0))) rfl rfl ⟨_, rfl, ?_⟩
  refine qx (t_n ?_)
  refine qW (decide ((minL ((zi s t counts i)[i_1]!) : Int) < 0)) rfl (fun h85 => ?_) (fun h85 => ?_)
  ·skip
   replace h85 := of_decide_eq_true h85
   refine qm (qA ?_)
   refine sps [.int .i64 i_1, .int .i64 i_1] ?_
   refine qx (t_n (xC (b_r (t_r (t_r (b_r (t_r ?_)))))))
   refine ret1 (.int .i64 i_1) rfl rfl ⟨_, rfl, ?_⟩
   refine sw (o_pure (.bool true) (by show some (Value.bool (decide ((i_1 : Int) ≥ 0))) = some (Value.bool true); rw [decide_eq_true (by omega)]) ?_)
   refine sp (.bool true) ?_
   refine qx (t_n (xC ?_))
   refine ret1 (.bool true) rfl rfl ⟨_, rfl, ?_⟩
   refine sps [.bool false, .slice (aa b76 0) t.qp.length rc14, .bool false] ?_
   refine qx (t_n (xC ?_))
   refine ret2 (.slice (aa b76 0) t.qp.length rc14) (.bool false) rfl rfl rfl ⟨_, rfl, ?_⟩
   replace H := H.erases [3, 2, 0]
   dsimp only [yV, List.eraseIdx] at H
   refine sps [.tuple #[.slice (aa b76 0) t.qp.length rc14, .bool false], .slice (aa b76 0) t.qp.length rc14, .bool false] ?_
   refine sw (zn H ti27 [.slice none 0 0] fun b86 w87 H => ?_)
   refine sw (Xq H 0 [.slice (aa b76 0) t.qp.length rc14] Tryz.sizeOf27 fun w88 H => ?_)
   try dsimp only [List.set] at H
   refine sp (.bool false) ?_
   refine qx (t_n (qm (qA ?_)))
   refine sps [.bool false, .bool false] ?_
   refine zf [27, 28, 29, 30, 31, 32] ?_
   refine sps [.bool false, .bool false, .int .i64 0] ?_
   refine qx (t_n (xC ?_))
   refine ret2 (.bool false) (.int .i64 0) rfl rfl rfl ⟨_, rfl, ?_, H.base⟩
   rw [xy (fun h => by first | exact (fun h => by first | exact h.1 i (by omega) ⟨by omega, fun a => ‹¬ (i : Int) ∈ appls s t› ((mem_appls (by omega)).2 a)⟩ | (have e : i = counts.length := (by omega); have h2 := h.2; rw [← e] at h2; exact (minL_neg (by omega)).1 ‹minL ((zi s t counts i)[i_1]!) < 0› (h2 i_1 (by omega)))) h.1 | (have e : i = counts.length := (by omega); have h2 := h.2 _ a1 a2; rw [← e] at h2; exact ft ‹within _ _ = true› h2))]
  replace h85 := of_decide_eq_false h85
  refine xk (b_n (t_n (qA ?_)))
  refine sw (zZ i_1 1 rfl rfl (by omega) ?_)
  refine sp (.int .i64 (i_1 + 1)) ?_
  refine qx ?_
  refine xH (m' := (t.qp.length - ((i_1 + 1) : Int)).toNat) (by omega) ⟨_, i_1 + 1, (by exact qj (qj (qj (qj (rfl) rfl) rfl) rfl) rfl), ?_, ?_, rfl, N, H.pick [0, 1, 2, 3, 4, 5] [1, 2, 3, 4, 5, 6, 7]⟩
  · omega
  · exact i2.succ (Classical.byContradiction fun h => ‹¬ minL ((zi s t counts i)[i_1]!) < 0› ((minL_neg (by omega)).2 h))
 replace h75 := of_decide_eq_false h75
 refine zK (t_x (t_x (b_x (t_n (qm (qA ?_))))))
 refine sp (.int .i64 (-1)) ?_
 refine qx (t_n (xC ?_))
 refine ret1 (.int .i64 (-1)) rfl rfl ⟨_, rfl, ?_⟩
 refine sps [.bool false, .bool false] ?_
 refine qx (t_n (xC ?_))
 refine ret1 (.bool false) rfl rfl ⟨_, rfl, ?_⟩
 refine sps [.bool true, .slice ra14 t.qp.length rc14, .bool true] ?_
 refine qx (t_n (xC ?_))
 refine ret2 (.slice ra14 t.qp.length rc14) (.bool true) rfl rfl rfl ⟨_, rfl, ?_⟩
 replace H := H.erases [3, 2, 0]
 dsimp only [yV, List.eraseIdx] at H
 refine sps [.tuple #[.slice ra14 t.qp.length rc14, .bool true], .slice ra14 t.qp.length rc14, .bool true] ?_
 refine sw (zn H ti27 [.slice none 0 0] fun b89 w90 H => ?_)
 refine sw (Xq H 0 [.slice ra14 t.qp.length rc14] Tryz.sizeOf27 fun w91 H => ?_)
 try dsimp only [List.set] at H
 refine sp (.bool true) ?_
 refine qx (t_n (qm (qA ?_)))
 refine sps [.bool true, .bool true] ?_
 refine qQ 26 rfl rfl ?_
 refine sw (zg [.int .i64 s.qJ, .slice qw s.qf.length qo, .slice qF s.qg.length qB] Tryz.isAgg36 Tryz.sizeOf36 rfl (qH (H.cells 3 rfl) 0 3) ?_)
 refine qQ 26 rfl rfl ?_
 refine sw (zg [.slice qM t.qh.length qI, .slice xF t.qp.length xn, .slice qL t.ql.length qK] Tryz.isAgg38 Tryz.sizeOf38 rfl (qH (H.cells 2 rfl) 0 3) ?_)
 refine qQ 26 rfl rfl ?_
 have sz95 := H.base.size
 refine sw (qZ #[.agg #[.int .i64 s.qJ, .slice qw s.qf.length qo, .slice qF s.qg.length qB], .agg #[.slice qM t.qh.length qI, .slice xF t.qp.length xn, .slice qL t.ql.length qK]] rfl rfl Tryz.call65 (applicable_ok w91 s t qw qo qO qF qB xw qM qI xJ xF xn zq qL qK xI (H.get 1 rfl).1 (H.get 2 rfl).1 (H.get 3 rfl).1 (H.get 4 rfl).1 (H.get 5 rfl).1 (by first | assumption | omega) (by first | assumption | omega)) ?_)
 rintro _ w93 ⟨ra92, rn92, rc92, rfl, M, K⟩ _
 replace H := H.merge K M
 dsimp only [List.cons_append, List.nil_append] at H
 obtain rfl := H.QS 0 rfl
 have al : (appls s t).length ≤ s.qg.length := applL_le s t s.qg.length
 refine qQ 26 rfl rfl ?_
 refine sp (.func (.func 127) #[] #[pp b1 0, pp b89 0]) ?_
 refine qQ 26 rfl rfl ?_
 refine sw (yS #[.slice ra92 ((appls s t).length) rc92, .func (.func 127) #[] #[pp b1 0, pp b89 0]] rfl rfl Tryz.call116 ?_)
 refine enter (n := 9) Tryz.func116 rfl Tryz.ntmps116 (Nat.le_of_ble_eq_true rfl) ?_
 refine qm (qA ?_)
 refine sp (.bool false) ?_
 refine qx (t_n (qm (qA ?_)))
 refine sps [.slice ra92 ((appls s t).length) rc92, .func (.func 127) #[] #[pp b1 0, pp b89 0]] ?_
 refine sw (yS #[.slice ra92 ((appls s t).length) rc92, .func (.func 127) #[] #[pp b1 0, pp b89 0]] rfl rfl Tryz.call151 ?_)
 refine enter (n := 19) Tryz.func151 rfl Tryz.ntmps151 (Nat.le_of_ble_eq_true rfl) ?_
 refine qm (qA ?_)
 refine sp (.int .i64 0) ?_
 refine qx (t_n (qm (qm (qA ?_))))
 refine sp (.slice ra92 ((appls s t).length) rc92) ?_
 refine sw (zX Tryz.underlying22 ra92 ((appls s t).length) rc92 rfl ?_)
 refine sp (.int .i64 0) ?_
 refine qx (t_n (xE ?_))
 refine zU (fun m' ρ w98 => ∃ (junk : Env) (i_51 : Nat), ρ = upd (upd (upd (upd junk 0 (.slice ra92 ((appls s t).length) rc92)) 1 (.func (.func 127) #[] #[pp b1 0, pp b89 0])) 7 (.int .i64 ((appls s t).length))) 8 (.int .i64 i_51) ∧ ((i_51 : Int) ≤ ((appls s t).length)) ∧ (MostL s t counts i_51) ∧ m' = (((appls s t).length) - (i_51 : Int)).toNat ∧ Fresh w.heap.size [] ∧ St w w98 [.row (.slice ra92 ((appls s t).length) rc92) 2 1 ((appls s t).length) ((appls s t).map (Value.int .i64)), .box b89 [.slice ra14 t.qp.length rc14] 27, .row (.slice ra14 t.qp.length rc14) 22 1 t.qp.length XX, .box b3 [.slice qM t.qh.length qI, .slice xF t.qp.length xn, .slice qL t.ql.length qK] 38, .box b1 [.int .i64 s.qJ, .slice qw s.qf.length qo, .slice qF s.qg.length qB] 36] [vX false Vj XX (zi s t counts i), isF false qO (.slice qw s.qf.length qo) s.qf, isF false xw (.slice qF s.qg.length qB) s.qg, isF false xJ (.slice qM t.qh.length qI) t.qh, isF false zq (.slice xF t.qp.length xn) t.qp, isF false xI (.slice qL t.ql.length qK) t.ql, isF false Fcounts (.slice acounts counts.length ccounts) counts]) ((((appls s t).length) - (0 : Int)).toNat) ⟨_, 0, (by exact qj (qj (qj (qj (rfl) rfl) rfl) rfl) rfl), (by omega), (by exact fun j hj => by omega), rfl, N, H⟩ ?_
 clear H N
 rintro m' ρ w99 ⟨junk, i_51, rfl, i0, i3, rfl, N, H⟩
 refine qm (qA ?_)
 refine sp (.bool (decide ((i_51 : Int) < ((appls s t).length)))) ?_
 refine qx (t_n (qm ?_))
 refine qW (decide ((i_51 : Int) < ((appls s t).length))) rfl (fun h100 => ?_) (fun h100 => ?_)
 ·skip
  replace h100 := of_decide_eq_true h100
  obtain ⟨a0, a1, a2⟩ := appls_in (s := s) (t := t) (q := i_51) (by omega)
  have q := p0.rule (i := ((appls s t)[i_51]!).toNat) (by omega)
  have qc := q.1
  have qk := q.cell
  have qr := q.2.1
  obtain ⟨u1, u2⟩ := restR_row (c := (s.qg[((appls s t)[i_51]!).toNat]!).qy.toNat) p0 p1 p2 (show i ≤ _ by omega) qk
  have u3 := q.2.2.2.2.1.len
  have rl := restR_len (s := s) (t := t) (counts := counts) i
  refine xk (t_n (qm (xE (qm (qA ?_)))))
  refine sps [.int .i64 i_51, .int .i64 i_51] ?_
  refine qx (t_n (qm (qA ?_)))
  refine sps [.func (.func 127) #[] #[pp b1 0, pp b89 0], .slice ra92 ((appls s t).length) rc92, .int .i64 i_51] ?_
  obtain ⟨b101, rfl⟩ := H.Xa 0 rfl (by omega)
  refine sw (xK i_51 Tryz.underlying22 ti2 rfl rfl (by omega) (by omega) ?_)
  refine sw (qE (.int .i64 ((appls s t)[i_51]!)) Tryz.isAgg2 rfl (H.rowInt 0 rfl (iv := i_51) (i := i_51) (by omega) (by omega)) ?_)
  refine sw (yS #[.int .i64 ((appls s t)[i_51]!), pp b1 0, pp b89 0] rfl rfl Tryz.call127 ?_)
  refine enter (n := 21) Tryz.func127 rfl Tryz.ntmps127 (Nat.le_of_ble_eq_true rfl) ?_
  refine qm (qA ?_)
  refine sp (.bool false) ?_
  refine qx (t_n (qm ?_))
  obtain ⟨b102, o103, rfl⟩ := H.addr 2 rfl (by omega)
  obtain ⟨b105, rfl⟩ := H.Xa 2 rfl (by omega)
  refine c_cut (fun ρ w106 => ∃ (junk : Env) (F107 : List Nat) (a108 : Option Addr) (c109 : Nat) (F110 : List Nat) (a111 : Option Addr) (c112 : Nat) (F113 : List Nat) (a114 : Option Addr) (c115 : Nat) (F116 : List Nat) (a117 : Option Addr) (c118 : Nat) (F119 : List Nat) (a120 : Option Addr) (c121 : Nat) (F122 : List Nat) (a123 : Option Addr) (c124 : Nat), ρ = upd junk 4 (.bool (within ((s.qg[((appls s t)[i_51]!).toNat]!).qR) ((zi s t counts i)[((s.qg[((appls s t)[i_51]!).toNat]!).qy).toNat]!))) ∧ Fresh w.heap.size [] ∧ St w w106 [.row (.slice (aa b101 0) ((appls s t).length) rc92) 2 1 ((appls s t).length) ((appls s t).map (Value.int .i64)), .box b89 [.slice (aa b105 0) t.qp.length rc14] 27, .row (.slice (aa b105 0) t.qp.length rc14) 22 1 t.qp.length XX, .box b3 [.slice qM t.qh.length qI, .slice xF t.qp.length xn, .slice qL t.ql.length qK] 38, .box b1 [.int .i64 s.qJ, .slice qw s.qf.length qo, .slice (aa b102 o103) s.qg.length qB] 36] [isF false F107 (.slice a108 (((s.qg[((appls s t)[i_51]!).toNat]!).qR).length) c109) ((s.qg[((appls s t)[i_51]!).toNat]!).qR), isF false F110 (.slice a111 (((s.qg[((appls s t)[i_51]!).toNat]!).xh).length) c112) ((s.qg[((appls s t)[i_51]!).toNat]!).xh), isF false F113 (.slice a114 (((s.qg[((appls s t)[i_51]!).toNat]!).xm).length) c115) ((s.qg[((appls s t)[i_51]!).toNat]!).xm), isF false F116 (.slice a117 (((s.qg[((appls s t)[i_51]!).toNat]!).xB).length) c118) ((s.qg[((appls s t)[i_51]!).toNat]!).xB), isF false F119 (.slice a120 (((s.qg[((appls s t)[i_51]!).toNat]!).zk).length) c121) ((s.qg[((appls s t)[i_51]!).toNat]!).zk), isF false F122 (.slice a123 (((s.qg[((appls s t)[i_51]!).toNat]!).qC).length) c124) ((s.qg[((appls s t)[i_51]!).toNat]!).qC), atF b102 (o103 + ((appls s t)[i_51]! : Int).toNat * 9) [.int .i64 ((s.qg[((appls s t)[i_51]!).toNat]!).qy), .int .i64 ((s.qg[((appls s t)[i_51]!).toNat]!).zh), .slice a108 (((s.qg[((appls s t)[i_51]!).toNat]!).qR).length) c109, .slice a111 (((s.qg[((appls s t)[i_51]!).toNat]!).xh).length) c112, .slice a114 (((s.qg[((appls s t)[i_51]!).toNat]!).xm).length) c115, .slice a117 (((s.qg[((appls s t)[i_51]!).toNat]!).xB).length) c118, .slice a120 (((s.qg[((appls s t)[i_51]!).toNat]!).zk).length) c121, .slice a123 (((s.qg[((appls s t)[i_51]!).toNat]!).qC).length) c124, .bool ((s.qg[((appls s t)[i_51]!).toNat]!).xQ)], vX false Vj XX (zi s t counts i), isF false qO (.slice qw s.qf.length qo) s.qf, isF false xw (.slice (aa b102 o103) s.qg.length qB) s.qg, isF false xJ (.slice qM t.qh.length qI) t.qh, isF false zq (.slice xF t.qp.length xn) t.qp, isF false xI (.slice qL t.ql.length qK) t.ql, isF false Fcounts (.slice acounts counts.length ccounts) counts]) ?_ ?_
  ·skip
   refine yw rfl H fun H => ?_
   refine rt 0 (pp b1 (0 + 2)) (xG b1 (0) 2 Tryz.underlying36 rfl rfl Tryz.sizeOf34 rfl) H ?_
   refine rt 1 (.slice (aa b102 o103) s.qg.length qB) (xA Tryz.isAgg34 rfl (fun _ h => h.cell 4 rfl rfl)) H ?_
   refine rtp 2 (.int .i64 ((appls s t)[i_51]!)) H ?_
   obtain ⟨Xw, Xu, Fe126Need, ae126Have, ce126Have, Fe126Have, ae126Lack, ce126Lack, Fe126Lack, ae126Here, ce126Here, Fe126Here, ae126Out, ce126Out, Fe126Out, ae126Into, ce126Into, Fe126Into, H⟩ := H.yB 2 rfl ((appls s t)[i_51]!) (((appls s t)[i_51]!).toNat) (by omega) (by omega) (by omega)
   have S := H.yG [0, 1, 2, 3, 4] [7, 8, 9, 10, 11, 12, 13]
   refine rt 3 (pp b102 (o103 + ((appls s t)[i_51]! : Int).toNat * 9)) (xO b102 (o103) s.qg.length qB ((appls s t)[i_51]!) Tryz.underlying34 ti110 rfl rfl (by omega) (by omega)) S ?_
   refine rt 4 (pp b102 (o103 + ((appls s t)[i_51]! : Int).toNat * 9 + 2)) (xG b102 (o103 + ((appls s t)[i_51]! : Int).toNat * 9) 2 Tryz.underlying110 rfl rfl Tryz.sizeOf22 rfl) S ?_
   refine rt 6 (.slice (aa b105 0) t.qp.length rc14) (xA Tryz.isAgg27 rfl (fun _ h => h.cell 1 rfl rfl)) S ?_
   refine rt 7 (pp b1 (0 + 2)) (xG b1 (0) 2 Tryz.underlying36 rfl rfl Tryz.sizeOf34 rfl) S ?_
   refine rt 8 (.slice (aa b102 o103) s.qg.length qB) (xA Tryz.isAgg34 rfl (fun _ h => h.cell 4 rfl rfl)) S ?_
   refine rtp 9 (.int .i64 ((appls s t)[i_51]!)) S ?_
   refine rt 10 (pp b102 (o103 + ((appls s t)[i_51]! : Int).toNat * 9)) (xO b102 (o103) s.qg.length qB ((appls s t)[i_51]!) Tryz.underlying34 ti110 rfl rfl (by omega) (by omega)) S ?_
   refine rt 11 (pp b102 (o103 + ((appls s t)[i_51]! : Int).toNat * 9 + 0)) (xG b102 (o103 + ((appls s t)[i_51]! : Int).toNat * 9) 0 Tryz.underlying110 rfl rfl Tryz.sizeOf2 rfl) S ?_
   refine xq [5, 12] (by kernel_rfl) (by simp) (xZ rfl ?_ (xZ rfl ?_ xu))
   ·skip
    refine qE (.slice Xw (((s.qg[((appls s t)[i_51]!).toNat]!).qR).length) Xu) Tryz.isAgg22 rfl (H.xY 6 rfl 2 rfl) ?_
    refine ⟨H.pick [0, 1, 2, 3, 4] [7, 8, 9, 10, 11, 12, 13], ?_⟩
    refine xq [12] (by kernel_rfl) (by simp) (xZ rfl ?_ xu)
    refine qE (.int .i64 ((s.qg[((appls s t)[i_51]!).toNat]!).qy)) Tryz.isAgg2 rfl (H.xY 6 rfl 0 rfl) ?_
    refine ⟨H.pick [0, 1, 2, 3, 4] [7, 8, 9, 10, 11, 12, 13], ?_⟩
    refine rt 13 (pp b105 (0 + ((s.qg[((appls s t)[i_51]!).toNat]!).qy : Int).toNat * 1)) (xO b105 (0) t.qp.length rc14 ((s.qg[((appls s t)[i_51]!).toNat]!).qy) Tryz.underlying27 ti22 rfl rfl (by omega) (by omega)) (H.pick [0, 1, 2, 3, 4] [7, 8, 9, 10, 11, 12, 13]) ?_
    refine xq [14] (by kernel_rfl) (by simp) (xZ rfl ?_ xu)
    obtain ⟨a127, c128, G129, s130, h131, H⟩ := H.jg 2 rfl 7 rfl (iv := (s.qg[((appls s t)[i_51]!).toNat]!).qy) (((s.qg[((appls s t)[i_51]!).toNat]!).qy).toNat) (by omega) (by omega)
    refine qE (.slice a127 (((zi s t counts i)[((s.qg[((appls s t)[i_51]!).toNat]!).qy).toNat]!).length) c128) Tryz.isAgg22 rfl (h131) ?_
    refine ⟨H.pick [0, 1, 2, 3, 4] [8, 9, 10, 11, 12, 13, 14], ?_⟩
    refine xq [15] (by kernel_rfl) (by simp) (xZ rfl ?_ xu)
    refine qZ #[.slice Xw (((s.qg[((appls s t)[i_51]!).toNat]!).qR).length) Xu, .slice a127 (((zi s t counts i)[((s.qg[((appls s t)[i_51]!).toNat]!).qy).toNat]!).length) c128] rfl rfl Tryz.call128 (isWithin_ok w99.drew ((s.qg[((appls s t)[i_51]!).toNat]!).qR) ((zi s t counts i)[((s.qg[((appls s t)[i_51]!).toNat]!).qy).toNat]!) Xw Xu Fe126Need a127 c128 G129 (H.get 1 rfl).1 (H.get 0 rfl).1 (by first | assumption | omega) (by first | assumption | omega)) ?_
    rintro _ w132 rfl x133
    replace H := H.ext x133
    refine ⟨H.pick [0, 1, 2, 3, 4] [8, 9, 10, 11, 12, 13, 14], ?_⟩
    refine rtp 16 (.bool (within ((s.qg[((appls s t)[i_51]!).toNat]!).qR) ((zi s t counts i)[((s.qg[((appls s t)[i_51]!).toNat]!).qy).toNat]!))) (H.pick [0, 1, 2, 3, 4] [8, 9, 10, 11, 12, 13, 14]) ?_
    refine xN (by kernel_rfl) (?_)
    exact meet ⟨_, Fe126Need, Xw, Xu, Fe126Have, ae126Have, ce126Have, Fe126Lack, ae126Lack, ce126Lack, Fe126Here, ae126Here, ce126Here, Fe126Out, ae126Out, ce126Out, Fe126Into, ae126Into, ce126Into, (by exact qj (rfl) rfl), N, H.pick [0, 1, 2, 3, 4] [1, 2, 3, 4, 5, 6, 7, 8, 9, 10, 11, 12, 13, 14]⟩
   refine qE (.int .i64 ((s.qg[((appls s t)[i_51]!).toNat]!).qy)) Tryz.isAgg2 rfl (H.xY 6 rfl 0 rfl) ?_
   refine ⟨H.pick [0, 1, 2, 3, 4] [7, 8, 9, 10, 11, 12, 13], ?_⟩
   refine rt 13 (pp b105 (0 + ((s.qg[((appls s t)[i_51]!).toNat]!).qy : Int).toNat * 1)) (xO b105 (0) t.qp.length rc14 ((s.qg[((appls s t)[i_51]!).toNat]!).qy) Tryz.underlying27 ti22 rfl rfl (by omega) (by omega)) (H.pick [0, 1, 2, 3, 4] [7, 8, 9, 10, 11, 12, 13]) ?_
   refine xq [5, 14] (by kernel_rfl) (by simp) (xZ rfl ?_ (xZ rfl ?_ xu))
   ·skip
    refine qE (.slice Xw (((s.qg[((appls s t)[i_51]!).toNat]!).qR).length) Xu) Tryz.isAgg22 rfl (H.xY 6 rfl 2 rfl) ?_
    refine ⟨H.pick [0, 1, 2, 3, 4] [7, 8, 9, 10, 11, 12, 13], ?_⟩
    refine xq [14] (by kernel_rfl) (by simp) (xZ rfl ?_ xu)
    obtain ⟨a134, c135, G136, s137, h138, H⟩ := H.jg 2 rfl 7 rfl (iv := (s.qg[((appls s t)[i_51]!).toNat]!).qy) (((s.qg[((appls s t)[i_51]!).toNat]!).qy).toNat) (by omega) (by omega)
    refine qE (.slice a134 (((zi s t counts i)[((s.qg[((appls s t)[i_51]!).toNat]!).qy).toNat]!).length) c135) Tryz.isAgg22 rfl (h138) ?_
    refine ⟨H.pick [0, 1, 2, 3, 4] [8, 9, 10, 11, 12, 13, 14], ?_⟩
    refine xq [15] (by kernel_rfl) (by simp) (xZ rfl ?_ xu)
    refine qZ #[.slice Xw (((s.qg[((appls s t)[i_51]!).toNat]!).qR).length) Xu, .slice a134 (((zi s t counts i)[((s.qg[((appls s t)[i_51]!).toNat]!).qy).toNat]!).length) c135] rfl rfl Tryz.call128 (isWithin_ok w99.drew ((s.qg[((appls s t)[i_51]!).toNat]!).qR) ((zi s t counts i)[((s.qg[((appls s t)[i_51]!).toNat]!).qy).toNat]!) Xw Xu Fe126Need a134 c135 G136 (H.get 1 rfl).1 (H.get 0 rfl).1 (by first | assumption | omega) (by first | assumption | omega)) ?_
    rintro _ w139 rfl x140
    replace H := H.ext x140
    refine ⟨H.pick [0, 1, 2, 3, 4] [8, 9, 10, 11, 12, 13, 14], ?_⟩
    refine rtp 16 (.bool (within ((s.qg[((appls s t)[i_51]!).toNat]!).qR) ((zi s t counts i)[((s.qg[((appls s t)[i_51]!).toNat]!).qy).toNat]!))) (H.pick [0, 1, 2, 3, 4] [8, 9, 10, 11, 12, 13, 14]) ?_
    refine xN (by kernel_rfl) (?_)
    exact meet ⟨_, Fe126Need, Xw, Xu, Fe126Have, ae126Have, ce126Have, Fe126Lack, ae126Lack, ce126Lack, Fe126Here, ae126Here, ce126Here, Fe126Out, ae126Out, ce126Out, Fe126Into, ae126Into, ce126Into, (by exact qj (rfl) rfl), N, H.pick [0, 1, 2, 3, 4] [1, 2, 3, 4, 5, 6, 7, 8, 9, 10, 11, 12, 13, 14]⟩
   obtain ⟨a141, c142, G143, s144, h145, H⟩ := H.jg 2 rfl 7 rfl (iv := (s.qg[((appls s t)[i_51]!).toNat]!).qy) (((s.qg[((appls s t)[i_51]!).toNat]!).qy).toNat) (by omega) (by omega)
   refine qE (.slice a141 (((zi s t counts i)[((s.qg[((appls s t)[i_51]!).toNat]!).qy).toNat]!).length) c142) Tryz.isAgg22 rfl (h145) ?_
   refine ⟨H.pick [0, 1, 2, 3, 4] [8, 9, 10, 11, 12, 13, 14], ?_⟩
   refine xq [5] (by kernel_rfl) (by simp) (xZ rfl ?_ xu)
   refine qE (.slice Xw (((s.qg[((appls s t)[i_51]!).toNat]!).qR).length) Xu) Tryz.isAgg22 rfl (H.xY 7 rfl 2 rfl) ?_
   refine ⟨H.pick [0, 1, 2, 3, 4] [8, 9, 10, 11, 12, 13, 14], ?_⟩
   refine xq [15] (by kernel_rfl) (by simp) (xZ rfl ?_ xu)
   refine qZ #[.slice Xw (((s.qg[((appls s t)[i_51]!).toNat]!).qR).length) Xu, .slice a141 (((zi s t counts i)[((s.qg[((appls s t)[i_51]!).toNat]!).qy).toNat]!).length) c142] rfl rfl Tryz.call128 (isWithin_ok w99.drew ((s.qg[((appls s t)[i_51]!).toNat]!).qR) ((zi s t counts i)[((s.qg[((appls s t)[i_51]!).toNat]!).qy).toNat]!) Xw Xu Fe126Need a141 c142 G143 (H.get 1 rfl).1 (H.get 0 rfl).1 (by first | assumption | omega) (by first | assumption | omega)) ?_
   rintro _ w146 rfl x147
   replace H := H.ext x147
   refine ⟨H.pick [0, 1, 2, 3, 4] [8, 9, 10, 11, 12, 13, 14], ?_⟩
   refine rtp 16 (.bool (within ((s.qg[((appls s t)[i_51]!).toNat]!).qR) ((zi s t counts i)[((s.qg[((appls s t)[i_51]!).toNat]!).qy).toNat]!))) (H.pick [0, 1, 2, 3, 4] [8, 9, 10, 11, 12, 13, 14]) ?_
   refine xN (by kernel_rfl) (?_)
   exact meet ⟨_, Fe126Need, Xw, Xu, Fe126Have, ae126Have, ce126Have, Fe126Lack, ae126Lack, ce126Lack, Fe126Here, ae126Here, ce126Here, Fe126Out, ae126Out, ce126Out, Fe126Into, ae126Into, ce126Into, (by exact qj (rfl) rfl), N, H.pick [0, 1, 2, 3, 4] [1, 2, 3, 4, 5, 6, 7, 8, 9, 10, 11, 12, 13, 14]⟩
  clear H N
  rintro ρ w148 ⟨junk, F107, a108, c109, F110, a111, c112, F113, a114, c115, F116, a117, c118, F119, a120, c121, F122, a123, c124, rfl, N, H⟩
  refine t_n (xC ?_)
  refine ret1 (.bool (within ((s.qg[((appls s t)[i_51]!).toNat]!).qR) ((zi s t counts i)[((s.qg[((appls s t)[i_51]!).toNat]!).qy).toNat]!))) rfl rfl ⟨_, rfl, ?_⟩
  refine qx (t_n ?_)
  refine qW (within ((s.qg[((appls s t)[i_51]!).toNat]!).qR) ((zi s t counts i)[((s.qg[((appls s t)[i_51]!).toNat]!).qy).toNat]!)) rfl (fun h149 => ?_) (fun h149 => ?_)
  ·skip
   refine qm (qA ?_)
   refine sps [.int .i64 i_51, .int .i64 i_51] ?_
   refine qx (t_n (xC (b_r (t_r (t_r (b_r (t_r ?_)))))))
   refine ret1 (.int .i64 i_51) rfl rfl ⟨_, rfl, ?_⟩
   refine sw (o_pure (.bool true) (by show some (Value.bool (decide ((i_51 : Int) ≥ 0))) = some (Value.bool true); rw [decide_eq_true (by omega)]) ?_)
   refine sp (.bool true) ?_
   refine qx (t_n (xC ?_))
   refine ret1 (.bool true) rfl rfl ⟨_, rfl, ?_⟩
   refine qQ 26 rfl rfl ?_
   refine sps [.bool false, .bool false, .bool false, .int .i64 0] ?_
   refine qx (t_n (xC ?_))
   refine ret2 (.bool false) (.int .i64 0) rfl rfl rfl ⟨_, rfl, ?_, H.base⟩
   rw [xy (fun h => by first | exact (fun h => by first | exact h.1 i (by omega) ⟨by omega, fun a => ‹¬ (i : Int) ∈ appls s t› ((mem_appls (by omega)).2 a)⟩ | (have e : i = counts.length := (by omega); have h2 := h.2; rw [← e] at h2; exact (minL_neg (by omega)).1 ‹minL ((zi s t counts i)[i_1]!) < 0› (h2 i_1 (by omega)))) h.1 | (have e : i = counts.length := (by omega); have h2 := h.2 _ a1 a2; rw [← e] at h2; exact ft ‹within _ _ = true› h2))]
  refine xk (b_n (t_n (qA ?_)))
  refine sw (zZ i_51 1 rfl rfl (by omega) ?_)
  refine sp (.int .i64 (i_51 + 1)) ?_
  refine qx ?_
  refine xH (m' := (((appls s t).length) - ((i_51 + 1) : Int)).toNat) (by omega) ⟨_, i_51 + 1, (by exact qj (qj (qj (qj (rfl) rfl) rfl) rfl) rfl), ?_, ?_, rfl, N, H.pick [0, 1, 2, 3, 4] [7, 8, 9, 10, 11, 12, 13]⟩
  · omega
  · exact i3.succ (by have e : i = counts.length := (by omega); rw [← e]; assumption)
 replace h100 := of_decide_eq_false h100
 refine zK (t_x (t_x (b_x (t_n (qm (qA ?_))))))
 refine sp (.int .i64 (-1)) ?_
 refine qx (t_n (xC ?_))
 refine ret1 (.int .i64 (-1)) rfl rfl ⟨_, rfl, ?_⟩
 refine sps [.bool false, .bool false] ?_
 refine qx (t_n (xC ?_))
 refine ret1 (.bool false) rfl rfl ⟨_, rfl, ?_⟩
 refine qQ 26 rfl rfl ?_
 refine sps [.bool true, .bool true, .bool true, .int .i64 0] ?_
 refine qx (t_n (xC ?_))
 refine ret2 (.bool true) (.int .i64 0) rfl rfl rfl ⟨_, rfl, ?_, H.base⟩
 rw [yP (MostL.most (fun q hq => i3 q (by omega)) ⟨fun j hj => i1 j (by omega), by have e : i = counts.length := (by omega); rw [← e]; exact fun p hp => i2 p (by omega)⟩)]

theorem implCh_ok (w : World) (s : qX) (t : qU) (ch : List (List Int)) (qw : Option Addr) (qo : Nat) (qO : List Nat) (qF : Option Addr) (qB : Nat) (xw : List Nat) (qM : Option Addr) (qI : Nat) (xJ : List Nat) (xF : Option Addr) (xn : Nat) (zq : List Nat) (qL : Option Addr) (qK : Nat) (xI : List Nat) (ach : Option Addr) (cch : Nat) (Fch : List Nat) (xx : qV.rep w qO [.slice qw s.qf.length qo] s.qf) (xM : qV.rep w xw [.slice qF s.qg.length qB] s.qg) (zo : qV.rep w xJ [.slice qM t.qh.length qI] t.qh) (zY : qV.rep w zq [.slice xF t.qp.length xn] t.qp) (xW : qV.rep w xI [.slice qL t.ql.length qK] t.ql) (hch : qV.rep w Fch [.slice ach ch.length cch] ch) : Calls Tryz.prog 32 #[.agg #[.int .i64 s.qJ, .slice qw s.qf.length qo, .slice qF s.qg.length qB], .agg #[.slice qM t.qh.length qI, .slice xF t.qp.length xn, .slice qL t.ql.length qK], .slice ach ch.length cch] w (Ret (fun v w' => ∃ (ra0Alive : Option Addr) (Xm : Nat) (rc0Alive : Nat) (ra0Bags : Option Addr) (Vm : Nat) (rc0Bags : Nat) (rx0Bags : List Value) (rF0Bags : List Nat) (XG : Option Addr) (QL : Nat) (XF : Nat), v = .tuple #[.agg #[.slice ra0Alive Xm rc0Alive, .slice ra0Bags Vm rc0Bags, .slice XG QL XF], .int .i64 ((qG s t ch).2)] ∧ Fresh w.heap.size [rF0Bags] ∧ St w w' [.row (.slice ra0Alive Xm rc0Alive) 4 1 Xm ((((qG s t ch).1).qh).map (Value.bool)), .row (.slice ra0Bags Vm rc0Bags) 22 1 Vm rx0Bags, .row (.slice XG QL XF) 2 1 QL ((((qG s t ch).1).ql).map (Value.int .i64))] [vX true rF0Bags rx0Bags (((qG s t ch).1).qp)]) w) := by
 refine enter (n := 83) Tryz.func32 rfl Tryz.ntmps32 (Nat.le_of_ble_eq_true rfl) ?_
 have H := ((((((St.start w).arg hch).arg xW).arg zY).arg zo).arg xM).arg xx
 have vU := qN xx
 have jW := qN xM
 have QB := qN zo
 have Xn := qN zY
 have yT := qN xW
 have nhch := qN hch
 clear xx xM zo zY xW hch
 have N := Fresh.nil w.heap.size
 refine qm (qA ?_)
 refine sw (yN H [.int .i64 s.qJ, .slice qw s.qf.length qo, .slice qF s.qg.length qB] fun b1 w2 H => ?_)
 refine sw (yN H [.slice qM t.qh.length qI, .slice xF t.qp.length xn, .slice qL t.ql.length qK] fun b3 w4 H => ?_)
 refine sw (zn H ti38 [.slice none 0 0, .slice none 0 0, .slice none 0 0] fun b5 w6 H => ?_)
 refine sp (.int .i64 0) ?_
 refine qx (t_n (qm (qm (qA ?_))))
 refine sw (zg [.int .i64 s.qJ, .slice qw s.qf.length qo, .slice qF s.qg.length qB] Tryz.isAgg36 Tryz.sizeOf36 rfl (qH (H.cells 2 rfl) 0 3) ?_)
 refine sw (zg [.slice qM t.qh.length qI, .slice xF t.qp.length xn, .slice qL t.ql.length qK] Tryz.isAgg38 Tryz.sizeOf38 rfl (qH (H.cells 1 rfl) 0 3) ?_)
 refine sw (qZ #[.agg #[.int .i64 s.qJ, .slice qw s.qf.length qo, .slice qF s.qg.length qB], .agg #[.slice qM t.qh.length qI, .slice xF t.qp.length xn, .slice qL t.ql.length qK]] rfl rfl Tryz.call76 (validState_ok w6 s t qw qo qO qF qB xw qM qI xJ xF xn zq qL qK xI (H.get 0 rfl).1 (H.get 1 rfl).1 (H.get 2 rfl).1 (H.get 3 rfl).1 (H.get 4 rfl).1) ?_)
 rintro _ w8 rfl x9
 replace H := H.ext x9
 refine sp (.bool (!(dec (yI s ∧ zu s t)))) ?_
 refine qx (t_n ?_)
 refine qW (!(dec (yI s ∧ zu s t))) rfl (fun h10 => ?_) (fun h10 => ?_)
 ·skip
  replace h10 := xg h10
  replace h10 := xX h10
  refine qm (qA ?_)
  refine sw (jo [.slice none 0 0, .slice none 0 0, .slice none 0 0] [] ?_)
  refine sw (xP H 0 [.slice none 0 0, .slice none 0 0, .slice none 0 0] Tryz.sizeOf38 fun w11 H => ?_)
  try dsimp only [List.set] at H
  refine sp (.int .i64 1) ?_
  refine qx (t_n (xC (t_r ?_)))
  replace H := H.Va 4
  replace H := H.nilRow 22 1
  replace H := H.Qw (α := List Int)
  replace H := H.Vo 2
  refine retC2 H 3 rfl (.int .i64 1) rfl Tryz.isAgg38 Tryz.sizeOf38 rfl rfl ⟨_, rfl, ?_, H.base⟩
  rw [ch_1 ‹_›]
  exact ⟨none, 0, 0, none, 0, 0, [], [], none, 0, 0, rfl, N.emp, H.pick [2, 1, 0] [0]⟩
 replace h10 := qY h10
 replace h10 := jG h10
 have k0 := (‹yI s ∧ zu s t› : yI s ∧ zu s t)
 have k1 := k0.1
 have k2 := k0.2
 refine xk (t_n (qm (qm (qA ?_))))
 refine sp (.slice ach ch.length cch) ?_
 refine sw (zX Tryz.underlying27 ach ch.length cch rfl ?_)
 refine sp (.bool (decide ((ch.length : Int) > 300))) ?_
 refine qx (t_n ?_)
 refine qW (decide ((ch.length : Int) > 300)) rfl (fun h12 => ?_) (fun h12 => ?_)
 ·skip
  replace h12 := of_decide_eq_true h12
  refine qm (qA ?_)
  refine sw (jo [.slice none 0 0, .slice none 0 0, .slice none 0 0] [] ?_)
  refine sw (xP H 0 [.slice none 0 0, .slice none 0 0, .slice none 0 0] Tryz.sizeOf38 fun w13 H => ?_)
  try dsimp only [List.set] at H
  refine sp (.int .i64 2) ?_
  refine qx (t_n (xC (t_r ?_)))
  replace H := H.Va 4
  replace H := H.nilRow 22 1
  replace H := H.Qw (α := List Int)
  replace H := H.Vo 2
  refine retC2 H 3 rfl (.int .i64 2) rfl Tryz.isAgg38 Tryz.sizeOf38 rfl rfl ⟨_, rfl, ?_, H.base⟩
  rw [ch_2 k0 (.inl (by omega))]
  exact ⟨none, 0, 0, none, 0, 0, [], [], none, 0, 0, rfl, N.emp, H.pick [2, 1, 0] [0]⟩
 replace h12 := of_decide_eq_false h12
 refine xk (t_n (qm (qm (qA ?_))))
 refine sp (.slice ach ch.length cch) ?_
 refine sw (zX Tryz.underlying27 ach ch.length cch rfl ?_)
 refine sp (.int .i64 0) ?_
 refine qx (t_n (xE ?_))
 refine zU (fun m' ρ w14 => ∃ (junk : Env) (k : Nat), ρ = upd (upd (upd (upd (upd (upd (upd junk 2 (.slice ach ch.length cch)) 3 (pp b1 0)) 4 (pp b3 0)) 6 (pp b5 0)) 25 (.slice ach ch.length cch)) 26 (.int .i64 ch.length)) 27 (.int .i64 k) ∧ ((k : Int) ≤ ch.length) ∧ (AllCnt s ch k) ∧ m' = (ch.length - (k : Int)).toNat ∧ Fresh w.heap.size [] ∧ St w w14 [.box b5 [.slice none 0 0, .slice none 0 0, .slice none 0 0] 38, .box b3 [.slice qM t.qh.length qI, .slice xF t.qp.length xn, .slice qL t.ql.length qK] 38, .box b1 [.int .i64 s.qJ, .slice qw s.qf.length qo, .slice qF s.qg.length qB] 36] [isF false qO (.slice qw s.qf.length qo) s.qf, isF false xw (.slice qF s.qg.length qB) s.qg, isF false xJ (.slice qM t.qh.length qI) t.qh, isF false zq (.slice xF t.qp.length xn) t.qp, isF false xI (.slice qL t.ql.length qK) t.ql, isF false Fch (.slice ach ch.length cch) ch]) ((ch.length - (0 : Int)).toNat) ⟨_, 0, (by exact qj (qj (qj (qj (qj (qj (qj (rfl) rfl) rfl) rfl) rfl) rfl) rfl) rfl), (by omega), (by exact fun j hj => by omega), rfl, N, H⟩ ?_
 clear H N
 rintro m' ρ w15 ⟨junk, k, rfl, i0, i1, rfl, N, H⟩
 refine qm (qA ?_)
 refine sp (.bool (decide ((k : Int) < ch.length))) ?_
 refine qx (t_n (qm ?_))
 refine qW (decide ((k : Int) < ch.length)) rfl (fun h16 => ?_) (fun h16 => ?_)
 ·skip
  replace h16 := of_decide_eq_true h16
  refine xk (t_n (qm (xE (qm (qA ?_)))))
  obtain ⟨b17, o18, rfl⟩ := H.addr 5 rfl (by omega)
  obtain ⟨ae20, ce20, Fe20, H⟩ := H.yH 5 rfl k k (by omega) (by omega) (by omega)
  refine sw (xK k Tryz.underlying27 ti22 rfl rfl (by omega) (by omega) ?_)
  refine sw (qE (.slice ae20 ((ch[k]!).length) ce20) Tryz.isAgg22 rfl (H.xY 1 rfl 0 rfl) ?_)
  refine sp (.slice ae20 ((ch[k]!).length) ce20) ?_
  refine qx (t_n (qm (qA ?_)))
  refine sw (zg [.int .i64 s.qJ, .slice qw s.qf.length qo, .slice qF s.qg.length qB] Tryz.isAgg36 Tryz.sizeOf36 rfl (qH (H.cells 2 rfl) 0 3) ?_)
  refine sw (zg [.slice qM t.qh.length qI, .slice xF t.qp.length xn, .slice qL t.ql.length qK] Tryz.isAgg38 Tryz.sizeOf38 rfl (qH (H.cells 1 rfl) 0 3) ?_)
  refine sp (.slice ae20 ((ch[k]!).length) ce20) ?_
  refine sw (qZ #[.agg #[.int .i64 s.qJ, .slice qw s.qf.length qo, .slice qF s.qg.length qB], .agg #[.slice qM t.qh.length qI, .slice xF t.qp.length xn, .slice qL t.ql.length qK], .slice ae20 ((ch[k]!).length) ce20] rfl rfl Tryz.call70 (countsCode_ok w15 s t (ch[k]!) qw qo qO qF qB xw qM qI xJ xF xn zq qL qK xI ae20 ce20 Fe20 (H.get 2 rfl).1 (H.get 3 rfl).1 (H.get 4 rfl).1 (H.get 5 rfl).1 (H.get 6 rfl).1 (H.get 0 rfl).1) ?_)
  rintro _ w22 rfl x23
  replace H := H.ext x23
  refine sp (.int .i64 (QT s t (ch[k]!))) ?_
  refine qx (t_n (qm (qA ?_)))
  refine sps [.int .i64 (QT s t (ch[k]!)), .bool ((QT s t (ch[k]!) : Int) != 0)] ?_
  refine qx (t_n ?_)
  refine qW ((QT s t (ch[k]!) : Int) != 0) rfl (fun h24 => ?_) (fun h24 => ?_)
  ·skip
   replace h24 := bne_iff_ne.1 h24
   refine qm (qA ?_)
   refine sw (jo [.slice none 0 0, .slice none 0 0, .slice none 0 0] [] ?_)
   refine sp (.int .i64 (QT s t (ch[k]!))) ?_
   refine sw (xP H 0 [.slice none 0 0, .slice none 0 0, .slice none 0 0] Tryz.sizeOf38 fun w25 H => ?_)
   try dsimp only [List.set] at H
   refine sp (.int .i64 (QT s t (ch[k]!))) ?_
   refine qx (t_n (xC (b_r (t_r (t_r (b_r (t_r ?_)))))))
   replace H := H.Va 4
   replace H := H.nilRow 22 1
   replace H := H.Qw (α := List Int)
   replace H := H.Vo 2
   refine retC2 H 3 rfl (.int .i64 (QT s t (ch[k]!))) rfl Tryz.isAgg38 Tryz.sizeOf38 rfl rfl ⟨_, rfl, ?_, H.base⟩
   rw [ch_2 k0 (.inr (fun h => ‹QT s t _ ≠ 0› (ask_0 k0 (h k (by omega))))), ask_2 k0 (fun h => ‹QT s t _ ≠ 0› (ask_0 k0 h))]
   exact ⟨none, 0, 0, none, 0, 0, [], [], none, 0, 0, rfl, N.emp, H.pick [2, 1, 0] [0]⟩
  replace h24 := xR h24
  refine xk (b_n (t_n (qA ?_)))
  refine sw (zZ k 1 rfl rfl (by omega) ?_)
  refine sp (.int .i64 (k + 1)) ?_
  refine qx ?_
  refine xH (m' := (ch.length - ((k + 1) : Int)).toNat) (by omega) ⟨_, k + 1, (by exact qj (qj (qj (qj (qj (qj (qj (rfl) rfl) rfl) rfl) rfl) rfl) rfl) rfl), ?_, ?_, rfl, N, H.pick [0, 1, 2] [2, 3, 4, 5, 6, 7]⟩
  · omega
  · exact i1.succ (ask_ok ‹QT s t (ch[k]!) = 0›).2.2
 replace h16 := of_decide_eq_false h16
 refine zK (t_x (t_x (b_x (t_n (qm (qA ?_))))))
 refine sw (zg [.slice qM t.qh.length qI, .slice xF t.qp.length xn, .slice qL t.ql.length qK] Tryz.isAgg38 Tryz.sizeOf38 rfl (qH (H.cells 1 rfl) 0 3) ?_)
 obtain ⟨q7, q8, q9, q10⟩ := k2.sizes k1.1
 have q13 := fun k hk => Nat.le_trans (q10 k hk) (by decide : 8 ≤ 1000000)
 have sz29 := H.base.size
 refine sw (qZ #[.agg #[.slice qM t.qh.length qI, .slice xF t.qp.length xn, .slice qL t.ql.length qK]] rfl rfl Tryz.call77 (yg w15 t qM qI xJ xF xn zq qL qK xI (H.get 2 rfl).1 (H.get 3 rfl).1 (H.get 4 rfl).1 (by first | assumption | omega) (by first | assumption | omega) (by first | assumption | omega) (by first | assumption | omega)) ?_)
 rintro _ w27 ⟨ra26Alive, rn26Alive, rc26Alive, ra26Bags, rn26Bags, rc26Bags, rx26Bags, rF26Bags, ra26Around, rn26Around, rc26Around, rfl, M, K⟩ _
 replace N := N.merge sz29 (by simp) M
 replace H := H.merge K M
 dsimp only [List.cons_append, List.nil_append] at H
 obtain rfl := H.QA 0 rfl
 obtain rfl := H.zt (α := List Int) 1 rfl 0 rfl (by decide)
 obtain rfl := H.QS 2 rfl
 refine sw (zn H ti38 [.slice none 0 0, .slice none 0 0, .slice none 0 0] fun b34 w35 H => ?_)
 refine sw (xP H 0 [.slice ra26Alive t.qh.length rc26Alive, .slice ra26Bags t.qp.length rc26Bags, .slice ra26Around t.ql.length rc26Around] Tryz.sizeOf38 fun w36 H => ?_)
 try dsimp only [List.set] at H
 refine qx (t_n (qm (qm (qA ?_))))
 refine sp (.slice ach ch.length cch) ?_
 refine sw (zX Tryz.underlying27 ach ch.length cch rfl ?_)
 refine sp (.int .i64 0) ?_
 refine qx (t_n (xE ?_))
 have kc : AllCnt s ch ch.length := fun j hj => i1 j (by omega)
 refine zU (fun m' ρ w37 => ∃ (junk : Env) (k_1 : Nat) (vS : Option Addr) (jw : Nat) (vP : Nat) (now_Alive : List Bool) (jm : Option Addr) (jR : Nat) (jl : Nat) (now_Bags : List (List Int)) (XN : List Value) (Xh : List Nat) (vk : Option Addr) (vW : Nat) (vg : Nat) (now_Around : List Int) (u : qU), ρ = upd (upd (upd (upd (upd (upd junk 3 (pp b1 0)) 6 (pp b5 0)) 11 (pp b34 0)) 42 (.slice ach ch.length cch)) 43 (.int .i64 ch.length)) 44 (.int .i64 k_1) ∧ now_Alive = u.qh ∧ now_Bags = u.qp ∧ now_Around = u.ql ∧ ((k_1 : Int) ≤ ch.length) ∧ (zu s u) ∧ (qG s t ch = Xo s ch (ch.length - k_1) u) ∧ m' = (ch.length - (k_1 : Int)).toNat ∧ Fresh w.heap.size [Xh] ∧ St w w37 [.box b34 [.slice vS jw vP, .slice jm jR jl, .slice vk vW vg] 38, .row (.slice vS jw vP) 4 1 jw (now_Alive.map (Value.bool)), .row (.slice jm jR jl) 22 1 jR XN, .row (.slice vk vW vg) 2 1 vW (now_Around.map (Value.int .i64)), .box b5 [.slice none 0 0, .slice none 0 0, .slice none 0 0] 38, .box b3 [.slice qM t.qh.length qI, .slice xF t.qp.length xn, .slice qL t.ql.length qK] 38, .box b1 [.int .i64 s.qJ, .slice qw s.qf.length qo, .slice qF s.qg.length qB] 36] [vX true Xh XN now_Bags, isF false qO (.slice qw s.qf.length qo) s.qf, isF false xw (.slice qF s.qg.length qB) s.qg, isF false xJ (.slice qM t.qh.length qI) t.qh, isF false zq (.slice xF t.qp.length xn) t.qp, isF false xI (.slice qL t.ql.length qK) t.ql, isF false Fch (.slice ach ch.length cch) ch]) ((ch.length - (0 : Int)).toNat) ⟨_, 0, ra26Alive, t.qh.length, rc26Alive, t.qh, ra26Bags, t.qp.length, rc26Bags, t.qp, rx26Bags, rF26Bags, ra26Around, t.ql.length, rc26Around, t.ql, t, (by exact qj (qj (qj (qj (qj (qj (rfl) rfl) rfl) rfl) rfl) rfl) rfl), (by rfl), (by rfl), (by rfl), (by omega), (by exact k2), (by exact ch_0 k0 (by omega) kc), rfl, N, H⟩ ?_
 clear H N
 rintro m' ρ w38 ⟨junk, k_1, vS, jw, vP, now_Alive, jm, jR, jl, now_Bags, XN, Xh, vk, vW, vg, now_Around, u, rfl, rfl, rfl, rfl, i0, ku, kr, rfl, N, H⟩
 have hn_now_Alive := H.QA 1 rfl
 have hn_now_Bags := H.zt (α := List Int) 2 rfl 0 rfl (by decide)
 have hn_now_Around := H.QS 3 rfl
 refine qm (qA ?_)
 refine sp (.bool (decide ((k_1 : Int) < ch.length))) ?_
 refine qx (t_n (qm ?_))
 refine qW (decide ((k_1 : Int) < ch.length)) rfl (fun h39 => ?_) (fun h39 => ?_)
 ·skip
  replace h39 := of_decide_eq_true h39
  refine xk (t_n (qm (xE (qm (qA ?_)))))
  obtain ⟨b40, o41, rfl⟩ := H.addr 6 rfl (by omega)
  obtain ⟨ae43, ce43, Fe43, H⟩ := H.yH 6 rfl k_1 k_1 (by omega) (by omega) (by omega)
  refine sw (xK k_1 Tryz.underlying27 ti22 rfl rfl (by omega) (by omega) ?_)
  refine sw (qE (.slice ae43 ((ch[k_1]!).length) ce43) Tryz.isAgg22 rfl (H.xY 1 rfl 0 rfl) ?_)
  refine sp (.slice ae43 ((ch[k_1]!).length) ce43) ?_
  refine qx (t_n (qm (qA ?_)))
  refine sw (zg [.int .i64 s.qJ, .slice qw s.qf.length qo, .slice qF s.qg.length qB] Tryz.isAgg36 Tryz.sizeOf36 rfl (qH (H.cells 6 rfl) 0 3) ?_)
  refine sw (zg [.slice vS jw vP, .slice jm jR jl, .slice vk vW vg] Tryz.isAgg38 Tryz.sizeOf38 rfl (qH (H.cells 0 rfl) 0 3) ?_)
  refine sp (.slice ae43 ((ch[k_1]!).length) ce43) ?_
  obtain ⟨G44, hn45, h46⟩ := H.rowIsB 1 rfl
  obtain ⟨G47, hn48, h49⟩ := H.QW (α := List Int) 2 rfl 2 rfl (by decide)
  obtain ⟨G50, hn51, h52⟩ := H.rowIsI 3 rfl
  have k3 := kc k_1 (by omega)
  refine sw (qZ #[.agg #[.int .i64 s.qJ, .slice qw s.qf.length qo, .slice qF s.qg.length qB], .agg #[.slice vS jw vP, .slice jm jR jl, .slice vk vW vg], .slice ae43 ((ch[k_1]!).length) ce43] rfl rfl Tryz.call78 (args_eq (by rw [← hn45, ← hn48, ← hn51]) (isMaximal_ok w38 s u (ch[k_1]!) qw qo qO qF qB xw vS vP G44 jm jl G47 vk vg G50 ae43 ce43 Fe43 (H.get 3 rfl).1 (H.get 4 rfl).1 (hn45 ▸ h46) (hn48 ▸ h49) (hn51 ▸ h52) (H.get 0 rfl).1 (by first | assumption | omega) (by first | assumption | omega) (by first | assumption | omega))) ?_)
  rintro _ w54 rfl x55
  replace H := H.ext x55
  refine sps [.tuple #[.bool (dec (Xy s u (ch[k_1]!))), .int .i64 0], .bool (dec (Xy s u (ch[k_1]!))), .int .i64 0, .bool (dec (Xy s u (ch[k_1]!))), .int .i64 0] ?_
  refine qx (t_n (qm (qm (qA ?_))))
  refine sps [.int .i64 0, .bool true, .bool true] ?_
  refine qQ 57 rfl rfl ?_
  refine sp (.bool (dec (Xy s u (ch[k_1]!)))) ?_
  refine qQ 57 rfl rfl ?_
  refine sp (.bool (!(dec (Xy s u (ch[k_1]!))))) ?_
  refine qQ 57 rfl rfl ?_
  refine sp (.bool (!(dec (Xy s u (ch[k_1]!))))) ?_
  cases h56 : (!(dec (Xy s u (ch[k_1]!))))
  ·skip
   replace h56 := qY h56
   replace h56 := jG h56
   refine qQ 60 rfl rfl ?_
   refine sw (zg [.int .i64 s.qJ, .slice qw s.qf.length qo, .slice qF s.qg.length qB] Tryz.isAgg36 Tryz.sizeOf36 rfl (qH (H.cells 6 rfl) 0 3) ?_)
   refine qQ 60 rfl rfl ?_
   refine sw (zg [.slice vS jw vP, .slice jm jR jl, .slice vk vW vg] Tryz.isAgg38 Tryz.sizeOf38 rfl (qH (H.cells 0 rfl) 0 3) ?_)
   refine qQ 60 rfl rfl ?_
   obtain ⟨G57, hn58, h59⟩ := H.rowIsB 1 rfl
   obtain ⟨G60, hn61, h62⟩ := H.QW (α := List Int) 2 rfl 2 rfl (by decide)
   obtain ⟨G63, hn64, h65⟩ := H.rowIsI 3 rfl
   have sz69 := H.base.size
   refine sw (qZ #[.agg #[.int .i64 s.qJ, .slice qw s.qf.length qo, .slice qF s.qg.length qB], .agg #[.slice vS jw vP, .slice jm jR jl, .slice vk vW vg]] rfl rfl Tryz.call65 (args_eq (by rw [← hn58, ← hn61, ← hn64]) (applicable_ok w54 s u qw qo qO qF qB xw vS vP G57 jm jl G60 vk vg G63 (H.get 3 rfl).1 (H.get 4 rfl).1 (hn58 ▸ h59) (hn61 ▸ h62) (hn64 ▸ h65) (by first | assumption | omega) (by first | assumption | omega))) ?_)
   rintro _ w67 ⟨ra66, rn66, rc66, rfl, M, K⟩ _
   replace H := H.merge K M
   dsimp only [List.cons_append, List.nil_append] at H
   obtain rfl := H.QS 0 rfl
   refine qQ 60 rfl rfl ?_
   refine sw (zX Tryz.underlying22 ra66 ((appls s u).length) rc66 rfl ?_)
   refine qQ 60 rfl rfl ?_
   refine sp (.bool (((appls s u).length : Int) == 0)) ?_
   refine qQ 57 rfl rfl ?_
   refine sps [.bool (((appls s u).length : Int) == 0), .bool (((appls s u).length : Int) == 0)] ?_
   refine qx (t_n ?_)
   refine qW (((appls s u).length : Int) == 0) rfl (fun h72 => ?_) (fun h72 => ?_)
   ·skip
    replace h72 := eq_of_beq h72
    refine qA ?_
    refine sp (.int .i64 4) ?_
    refine qx (t_n (qm (qm (qA ?_))))
    refine sps [.int .i64 4, .bool false] ?_
    refine qx (t_n ?_)
    refine qW false rfl (fun h => absurd h (by decide)) (fun _ => ?_)
    refine xk (t_n (qm (qA ?_)))
    refine sps [.int .i64 4, .bool true] ?_
    refine qx (t_n ?_)
    refine qW true rfl (fun _ => ?_) (fun h => absurd h (by decide))
    refine qm (qA ?_)
    refine sw (jo [.slice none 0 0, .slice none 0 0, .slice none 0 0] [] ?_)
    refine sp (.int .i64 4) ?_
    refine sw (xP H 5 [.slice none 0 0, .slice none 0 0, .slice none 0 0] Tryz.sizeOf38 fun w73 H => ?_)
    try dsimp only [List.set] at H
    refine sp (.int .i64 4) ?_
    refine qx (t_n (xC (b_r (t_r (t_r (b_r (t_r ?_)))))))
    replace H := H.Va 4
    replace H := H.nilRow 22 1
    replace H := H.Qw (α := List Int)
    replace H := H.Vo 2
    refine retC2 H 8 rfl (.int .i64 4) rfl Tryz.isAgg38 Tryz.sizeOf38 rfl rfl ⟨_, rfl, ?_, H.base⟩
    rw [kr, choose_4 (k := k_1) rfl (by omega) (by first | exact .inr ‹¬ Xy s u _› | exact .inl (appls_halt.1 (by omega)))]
    exact ⟨none, 0, 0, none, 0, 0, [], [], none, 0, 0, rfl, (N.emp.pick [0]), H.pick [2, 1, 0] [0]⟩
   replace h72 := ne_of_beq_false h72
   refine xk (t_n (qm (qm (qA ?_))))
   refine sps [.int .i64 0, .bool true] ?_
   refine qx (t_n ?_)
   refine qW true rfl (fun _ => ?_) (fun h => absurd h (by decide))
   refine qA ?_
   refine sw (zg [.int .i64 s.qJ, .slice qw s.qf.length qo, .slice qF s.qg.length qB] Tryz.isAgg36 Tryz.sizeOf36 rfl (qH (H.cells 7 rfl) 0 3) ?_)
   refine sw (zg [.slice vS jw vP, .slice jm jR jl, .slice vk vW vg] Tryz.isAgg38 Tryz.sizeOf38 rfl (qH (H.cells 1 rfl) 0 3) ?_)
   refine sp (.slice ae43 ((ch[k_1]!).length) ce43) ?_
   obtain ⟨G74, hn75, h76⟩ := H.rowIsB 2 rfl
   obtain ⟨G77, hn78, h79⟩ := H.QW (α := List Int) 3 rfl 2 rfl (by decide)
   obtain ⟨G80, hn81, h82⟩ := H.rowIsI 4 rfl
   have k4 := (‹Xy s u _› : Xy s u _).1
   have sz86 := H.base.size
   have lt87 := H.ltN (L := [Xh]) [2]
   refine sw (qZ #[.agg #[.int .i64 s.qJ, .slice qw s.qf.length qo, .slice qF s.qg.length qB], .agg #[.slice vS jw vP, .slice jm jR jl, .slice vk vW vg], .slice ae43 ((ch[k_1]!).length) ce43] rfl rfl Tryz.call66 (args_eq (by rw [← hn75, ← hn78, ← hn81]) (step_ok w67 s u (ch[k_1]!) qw qo qO qF qB xw vS vP G74 jm jl G77 vk vg G80 ae43 ce43 Fe43 (H.get 3 rfl).1 (H.get 4 rfl).1 (hn75 ▸ h76) (hn78 ▸ h79) (hn81 ▸ h82) (H.get 0 rfl).1 (by first | assumption | omega) (by first | assumption | omega) (by first | assumption | omega) (by first | assumption | omega))) ?_)
   rintro _ w84 ⟨ra83aAlive, rn83aAlive, rc83aAlive, ra83aBags, rn83aBags, rc83aBags, rx83aBags, rF83aBags, ra83aAround, rn83aAround, rc83aAround, rfl, M, K⟩ _
   replace N := N.merge sz86 lt87 M
   replace H := H.merge K M
   dsimp only [List.cons_append, List.nil_append] at H
   obtain rfl := H.QA 0 rfl
   obtain rfl := H.zt (α := List Int) 1 rfl 0 rfl (by decide)
   obtain rfl := H.QS 2 rfl
   refine sps [.tuple #[.agg #[.slice ra83aAlive ((((ve s u (ch[k_1]!)).1).qh).length) rc83aAlive, .slice ra83aBags ((((ve s u (ch[k_1]!)).1).qp).length) rc83aBags, .slice ra83aAround ((((ve s u (ch[k_1]!)).1).ql).length) rc83aAround], .int .i64 ((ve s u (ch[k_1]!)).2)], .agg #[.slice ra83aAlive ((((ve s u (ch[k_1]!)).1).qh).length) rc83aAlive, .slice ra83aBags ((((ve s u (ch[k_1]!)).1).qp).length) rc83aBags, .slice ra83aAround ((((ve s u (ch[k_1]!)).1).ql).length) rc83aAround], .int .i64 ((ve s u (ch[k_1]!)).2)] ?_
   refine sw (xP H 4 [.slice ra83aAlive ((((ve s u (ch[k_1]!)).1).qh).length) rc83aAlive, .slice ra83aBags ((((ve s u (ch[k_1]!)).1).qp).length) rc83aBags, .slice ra83aAround ((((ve s u (ch[k_1]!)).1).ql).length) rc83aAround] Tryz.sizeOf38 fun w91 H => ?_)
   try dsimp only [List.set] at H
   refine sp (.int .i64 ((ve s u (ch[k_1]!)).2)) ?_
   refine qx (t_n (qm (qA ?_)))
   refine sps [.int .i64 ((ve s u (ch[k_1]!)).2), .bool (((ve s u (ch[k_1]!)).2 : Int) != 0)] ?_
   refine qx (t_n ?_)
   refine qW (((ve s u (ch[k_1]!)).2 : Int) != 0) rfl (fun h92 => ?_) (fun h92 => ?_)
   ·skip
    replace h92 := bne_iff_ne.1 h92
    refine qm (qA ?_)
    refine sw (jo [.slice none 0 0, .slice none 0 0, .slice none 0 0] [] ?_)
    refine sp (.int .i64 ((ve s u (ch[k_1]!)).2)) ?_
    refine sw (xP H 8 [.slice none 0 0, .slice none 0 0, .slice none 0 0] Tryz.sizeOf38 fun w93 H => ?_)
    try dsimp only [List.set] at H
    refine sp (.int .i64 ((ve s u (ch[k_1]!)).2)) ?_
    refine qx (t_n (xC (b_r (t_r (t_r (b_r (t_r ?_)))))))
    replace H := H.Va 4
    replace H := H.nilRow 22 1
    replace H := H.Qw (α := List Int)
    replace H := H.Vo 2
    refine retC2 H 11 rfl (.int .i64 ((ve s u (ch[k_1]!)).2)) rfl Tryz.isAgg38 Tryz.sizeOf38 rfl rfl ⟨_, rfl, ?_, H.base⟩
    rw [kr, choose_bad (k := k_1) rfl (by omega) (fun h => by have := appls_halt.2 h; omega) ‹Xy s u _› ‹_›]
    exact ⟨none, 0, 0, none, 0, 0, [], [], none, 0, 0, rfl, (N.emp.pick [0]), H.pick [2, 1, 0] [0]⟩
   replace h92 := xR h92
   refine xk (b_n (t_n (qA ?_)))
   refine sw (zZ k_1 1 rfl rfl (by omega) ?_)
   refine sp (.int .i64 (k_1 + 1)) ?_
   refine qx ?_
   refine xH (m' := (ch.length - ((k_1 + 1) : Int)).toNat) (by omega) ⟨_, k_1 + 1, ra83aAlive, (((ve s u (ch[k_1]!)).1).qh).length, rc83aAlive, ((ve s u (ch[k_1]!)).1).qh, ra83aBags, (((ve s u (ch[k_1]!)).1).qp).length, rc83aBags, ((ve s u (ch[k_1]!)).1).qp, rx83aBags, rF83aBags, ra83aAround, (((ve s u (ch[k_1]!)).1).ql).length, rc83aAround, ((ve s u (ch[k_1]!)).1).ql, (ve s u (ch[k_1]!)).1, (by exact qj (qj (qj (qj (qj (qj (rfl) rfl) rfl) rfl) rfl) rfl) rfl), ?_, ?_, ?_, ?_, ?_, ?_, rfl, (N.pick [0]), H.pick [4, 0, 1, 2, 8, 9, 10] [0, 4, 5, 6, 7, 8, 9]⟩
   · rfl
   · rfl
   · rfl
   · omega
   · exact stepBy_ok ‹_›
   · exact kr.trans (choose_go (k := k_1) rfl (by omega) rfl (fun h => by have := appls_halt.2 h; omega) ‹Xy s u _› ‹_›)
  replace h56 := xg h56
  replace h56 := xX h56
  refine zf [61, 62, 63, 64, 65] ?_
  refine qQ 57 rfl rfl ?_
  refine sps [.bool true, .bool true] ?_
  refine qx (t_n ?_)
  refine qW true rfl (fun _ => ?_) (fun h => absurd h (by decide))
  refine qA ?_
  refine sp (.int .i64 4) ?_
  refine qx (t_n (qm (qm (qA ?_))))
  refine sps [.int .i64 4, .bool false] ?_
  refine qx (t_n ?_)
  refine qW false rfl (fun h => absurd h (by decide)) (fun _ => ?_)
  refine xk (t_n (qm (qA ?_)))
  refine sps [.int .i64 4, .bool true] ?_
  refine qx (t_n ?_)
  refine qW true rfl (fun _ => ?_) (fun h => absurd h (by decide))
  refine qm (qA ?_)
  refine sw (jo [.slice none 0 0, .slice none 0 0, .slice none 0 0] [] ?_)
  refine sp (.int .i64 4) ?_
  refine sw (xP H 4 [.slice none 0 0, .slice none 0 0, .slice none 0 0] Tryz.sizeOf38 fun w94 H => ?_)
  try dsimp only [List.set] at H
  refine sp (.int .i64 4) ?_
  refine qx (t_n (xC (b_r (t_r (t_r (b_r (t_r ?_)))))))
  replace H := H.Va 4
  replace H := H.nilRow 22 1
  replace H := H.Qw (α := List Int)
  replace H := H.Vo 2
  refine retC2 H 7 rfl (.int .i64 4) rfl Tryz.isAgg38 Tryz.sizeOf38 rfl rfl ⟨_, rfl, ?_, H.base⟩
  rw [kr, choose_4 (k := k_1) rfl (by omega) (by first | exact .inr ‹¬ Xy s u _› | exact .inl (appls_halt.1 (by omega)))]
  exact ⟨none, 0, 0, none, 0, 0, [], [], none, 0, 0, rfl, (N.emp.pick [0]), H.pick [2, 1, 0] [0]⟩
 replace h39 := of_decide_eq_false h39
 refine zK (t_x (t_x (b_x (t_n (qm (qA ?_))))))
 refine sw (zg [.slice vS jw vP, .slice jm jR jl, .slice vk vW vg] Tryz.isAgg38 Tryz.sizeOf38 rfl (qH (H.cells 0 rfl) 0 3) ?_)
 refine sw (xP H 4 [.slice vS jw vP, .slice jm jR jl, .slice vk vW vg] Tryz.sizeOf38 fun w95 H => ?_)
 try dsimp only [List.set] at H
 refine sp (.int .i64 0) ?_
 refine qx (t_n (xC ?_))
 refine retC2 H 4 rfl (.int .i64 0) rfl Tryz.isAgg38 Tryz.sizeOf38 rfl rfl ⟨_, rfl, ?_, H.base⟩
 rw [kr, choose_end (by omega)]
 exact ⟨vS, jw, vP, jm, jR, jl, XN, Xh, vk, vW, vg, rfl, N, H.pick [1, 2, 3] [0]⟩

end Go.Proofs.YtkmlihdacnfhdaaGreat
