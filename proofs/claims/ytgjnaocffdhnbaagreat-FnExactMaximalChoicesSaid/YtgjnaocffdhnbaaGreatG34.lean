/- Walks, printed by program (wip/tools/gv.py): what each function comes to, for all arguments. -/
import Derived.Test.YtgjnaocffdhnbaaGreatG33
import Derived.Test.YtgjnaocffdhnbaaGreatI
import Derived.Test.YtgjnaocffdhnbaaGreatTI
namespace Go.Proofs.YtgjnaocffdhnbaaGreat
set_option linter.unusedVariables false
set_option linter.unusedSimpArgs false
open Go.Proofs.YtgjnaocffdhnbaaGreat.Tot (tot)
open Go.Proofs.YtgjnaocffdhnbaaGreat.Mark (cnt mrk mkd mkd_mark cnt_mark)
open Go.RowKit
set_option linter.unusedVariables false
set_option linter.unusedSimpArgs false
set_option maxRecDepth 100000
set_option maxHeartbeats 4000000

instance iC112_G34 : Qn Tryz.prog 112 := ⟨Tryz.call112⟩
instance iC142_G34 : Qn Tryz.prog 142 := ⟨Tryz.call142⟩
instance iS125_G34 : SliC Tryz.prog 125 129 := ⟨Tryz.underlying125⟩
instance iT129_G34 : TIC Tryz.prog 129 (.agg #[.slice none 0 0, .slice none 0 0]) 2 48 := ⟨ti129⟩
instance iF129_1G34 : FldC Tryz.prog 129 1 1 := ⟨⟨_, _, _, Tryz.underlying129, rfl, rfl, Tryz.sizeOf27⟩⟩
instance iF129_0G34 : FldC Tryz.prog 129 0 0 := ⟨⟨_, _, _, Tryz.underlying129, rfl, rfl, Tryz.sizeOf22⟩⟩

def sortL_ren : Go.Shelf.Ren := ⟨fun | 6 => 93 | 15 => 130 | 14 => 129 | 28 => 166 | 29 => 167 | 20 => 158 | 21 => 159 | 22 => 160 | 23 => 161 | 24 => 162 | 25 => 163 | 26 => 164 | 27 => 165 | 46 => 193 | 47 => 194 | 48 => 195 | 49 => 196 | 50 => 197 | 57 => 208 | n => n, fun | 22 => 27 | 24 => 22 | 25 => 106 | 3 => 3 | 39 => 149 | 0 => 0 | 53 => 186 | 55 => 188 | 4 => 4 | 46 => 179 | 45 => 178 | 50 => 183 | 5 => 5 | 9 => 9 | 66 => 211 | 70 => 215 | 76 => 226 | 77 => 227 | n => n, fun | n => n⟩
theorem sortL : Go.Proofs.SlLaysF.n6 Tryz.prog sortL_ren := {
  mixed := by kernel_rfl
  f6 := ⟨Tryz.f93.name, by decide, Tryz.func93.trans (congrArg some (by kernel_rfl))⟩
  f14 := ⟨Tryz.f129.name, by decide, Tryz.func129.trans (congrArg some (by kernel_rfl))⟩
  f15 := Tryz.func130.trans (congrArg some (by kernel_rfl))
  f20 := ⟨Tryz.f158.name, by decide, Tryz.func158.trans (congrArg some (by kernel_rfl))⟩
  f21 := ⟨Tryz.f159.name, by decide, Tryz.func159.trans (congrArg some (by kernel_rfl))⟩
  f22 := ⟨Tryz.f160.name, by decide, Tryz.func160.trans (congrArg some (by kernel_rfl))⟩
  f23 := ⟨Tryz.f161.name, by decide, Tryz.func161.trans (congrArg some (by kernel_rfl))⟩
  f24 := ⟨Tryz.f162.name, by decide, Tryz.func162.trans (congrArg some (by kernel_rfl))⟩
  f25 := ⟨Tryz.f163.name, by decide, Tryz.func163.trans (congrArg some (by kernel_rfl))⟩
  f26 := ⟨Tryz.f164.name, by decide, Tryz.func164.trans (congrArg some (by kernel_rfl))⟩
  f27 := ⟨Tryz.f165.name, by decide, Tryz.func165.trans (congrArg some (by kernel_rfl))⟩
  f28 := Tryz.func166.trans (congrArg some (by kernel_rfl))
  f29 := Tryz.func167.trans (congrArg some (by kernel_rfl))
  f46 := ⟨Tryz.f193.name, by decide, Tryz.func193.trans (congrArg some (by kernel_rfl))⟩
  f47 := Tryz.func194.trans (congrArg some (by kernel_rfl))
  f48 := Tryz.func195.trans (congrArg some (by kernel_rfl))
  f49 := ⟨Tryz.f196.name, by decide, Tryz.func196.trans (congrArg some (by kernel_rfl))⟩
  f50 := ⟨Tryz.f197.name, by decide, Tryz.func197.trans (congrArg some (by kernel_rfl))⟩
  f57 := ⟨Tryz.f208.name, by decide, Tryz.func208.trans (congrArg some (by kernel_rfl))⟩
  t0 := Tryz.underlying0
  a0 := Tryz.isAgg0
  z0 := Tryz.sizeOf0
  v0 := Tryz.zeroValue0
  t3 := Tryz.underlying3
  a3 := Tryz.isAgg3
  z3 := Tryz.sizeOf3
  v3 := Tryz.zeroValue3
  t4 := Tryz.underlying4
  a4 := Tryz.isAgg4
  z4 := Tryz.sizeOf4
  v4 := Tryz.zeroValue4
  t5 := Tryz.underlying5
  a5 := Tryz.isAgg5
  z5 := Tryz.sizeOf5
  v5 := Tryz.zeroValue5
  t9 := Tryz.underlying9
  a9 := Tryz.isAgg9
  z9 := Tryz.sizeOf9
  v9 := Tryz.zeroValue9
  t22 := Tryz.underlying27
  a22 := Tryz.isAgg27
  z22 := Tryz.sizeOf27
  v22 := Tryz.zeroValue27
  a24 := Tryz.isAgg22
  z24 := Tryz.sizeOf22
  t25 := Tryz.underlying106
  a25 := Tryz.isAgg106
  z25 := Tryz.sizeOf106
  v25 := Tryz.zeroValue106
  t39 := Tryz.underlying149
  a39 := Tryz.isAgg149
  z39 := Tryz.sizeOf149
  v39 := Tryz.zeroValue149
  t45 := Tryz.underlying178
  a45 := Tryz.isAgg178
  z45 := Tryz.sizeOf178
  v45 := Tryz.zeroValue178
  t46 := Tryz.underlying179
  a46 := Tryz.isAgg179
  z46 := Tryz.sizeOf179
  v46 := Tryz.zeroValue179
  t50 := Tryz.underlying183
  a50 := Tryz.isAgg183
  z50 := Tryz.sizeOf183
  v50 := Tryz.zeroValue183
  t53 := Tryz.underlying186
  a53 := Tryz.isAgg186
  z53 := Tryz.sizeOf186
  v53 := Tryz.zeroValue186
  t55 := Tryz.underlying188
  a55 := Tryz.isAgg188
  z55 := Tryz.sizeOf188
  v55 := Tryz.zeroValue188
  t66 := Tryz.underlying211
  a66 := Tryz.isAgg211
  z66 := Tryz.sizeOf211
  v66 := Tryz.zeroValue211
  t70 := Tryz.underlying215
  a70 := Tryz.isAgg215
  z70 := Tryz.sizeOf215
  v70 := Tryz.zeroValue215
  t76 := Tryz.underlying226
  a76 := Tryz.isAgg226
  z76 := Tryz.sizeOf226
  v76 := Tryz.zeroValue226
  t77 := Tryz.underlying227
  a77 := Tryz.isAgg227
  z77 := Tryz.sizeOf227
  v77 := Tryz.zeroValue227 }
theorem cmpSort (W : World) (x y : List Int) (a : Option Addr) (c : Nat) (F : List Nat) (a' : Option Addr) (c' : Nat) (F' : List Nat) (hx : qE.rep W F [.slice a x.length c] x) (hy : qE.rep W F' [.slice a' y.length c'] y) :
    Calls Tryz.prog 94 #[.slice a x.length c, .slice a' y.length c'] W fun e w' => e = .returned (.int .i64 (cmpL x y)) ∧ w' = W :=
  (compareL_ok W x y a c F a' c' F' hx hy).mono fun _ _ ⟨_, he, ⟨hv, hw⟩, _⟩ => ⟨he.trans (by rw [hv]), hw⟩

theorem choices_ok (w : World) (s : qK) (t : xu) (qx : Option Addr) (qp : Nat) (xn : List Nat) (qN : Option Addr) (qL : Nat) (xG : List Nat) (xB : Option Addr) (xx : Nat) (zy : List Nat) (xK : Option Addr) (xH : Nat) (zX : List Nat) (xg : Option Addr) (xf : Nat) (xW : List Nat) (xh : qE.rep w xn [.slice qx s.qf.length qp] s.qf) (xE : qE.rep w xG [.slice qN s.qh.length qL] s.qh) (zu : qE.rep w zy [.slice xB t.qo.length xx] t.qo) (zV : qE.rep w zX [.slice xK t.qy.length xH] t.qy) (xU : qE.rep w xW [.slice xg t.qm.length xf] t.qm) (p0 : yw s) (p1 : zS s t) : Calls Tryz.prog 64 #[.agg #[.int .i64 s.qH, .slice qx s.qf.length qp, .slice qN s.qh.length qL], .agg #[.slice xB t.qo.length xx, .slice xK t.qy.length xH, .slice xg t.qm.length xf]] w (Ret (fun v w' => ∃ (ra0 : Option Addr) (rn0 : Nat) (rc0 : Nat) (rx0 : List Value) (rF0 : List Nat), v = .tuple #[.slice ra0 rn0 rc0, .int .i64 ((yx s t).2)] ∧ Fresh w.heap.size [rF0] ∧ St w w' [.row (.slice ra0 rn0 rc0) 22 1 rn0 rx0] [zn true rF0 rx0 ((yx s t).1)]) w) := by
 refine en Tryz.func64 Tryz.ntmps64 ?_
 have H := (((((St.start w).arg xU).arg zV).arg zu).arg xE).arg xh
 have zU := qA xh
 have jD := qA xE
 have Xr := qA zu
 have nhtBags := qA zV
 have QA := qA xU
 clear xh xE zu zV xU
 have N := Fresh.nil w.heap.size
 have A := H.ltN (L := [xn, xG, zy, zX, xW]) [0, 1, 2, 3, 4]
 have p2 := p0.2.1
 have p3 := p0.1.2.1
 have p4 := p1.1
 have p5 := p1.2.1
 refine qi (ql ?_)
 refine sw (zh H [.int .i64 s.qH, .slice qx s.qf.length qp, .slice qN s.qh.length qL] fun b1 w2 H => ?_)
 refine sw (zh H [.slice xB t.qo.length xx, .slice xK t.qy.length xH, .slice xg t.qm.length xf] fun b3 w4 H => ?_)
 refine sps [.slice none 0 0, .int .i64 0] ?_
 refine qj (t_n (qi (ql ?_)))
 refine sw (zC [.int .i64 s.qH, .slice qx s.qf.length qp, .slice qN s.qh.length qL] Tryz.isAgg36 Tryz.sizeOf36 rfl (qI (H.cells 1 rfl) 0 3) ?_)
 refine sw (zC [.slice xB t.qo.length xx, .slice xK t.qy.length xH, .slice xg t.qm.length xf] Tryz.isAgg38 Tryz.sizeOf38 rfl (qI (H.cells 0 rfl) 0 3) ?_)
 refine sw (jf #[.agg #[.int .i64 s.qH, .slice qx s.qf.length qp, .slice qN s.qh.length qL], .agg #[.slice xB t.qo.length xx, .slice xK t.qy.length xH, .slice xg t.qm.length xf]] rfl rfl Tryz.call107 ?_)
 refine en Tryz.func107 Tryz.ntmps107 ?_
 refine qi (ql ?_)
 refine sw (zh H [.int .i64 s.qH, .slice qx s.qf.length qp, .slice qN s.qh.length qL] fun b5 w6 H => ?_)
 refine sw (zh H [.slice xB t.qo.length xx, .slice xK t.qy.length xH, .slice xg t.qm.length xf] fun b7 w8 H => ?_)
 refine sps [.slice none 0 0, .int .i64 0] ?_
 refine qj (t_n (qi (ql ?_)))
 refine oF rfl ?_
 refine oL rfl (H.cell 1 rfl rfl) ?_
 refine oN rfl ?_
 refine sw (o_makeZ (⟨[]⟩ : OwnI 2) H Tryz.underlying27 ti22 (by decide) (fun _ => ⟨.slice none 0 0, rfl, Or.inl ⟨rfl, rfl, rfl⟩⟩) s.qf.length rfl rfl (by omega) (by omega) (by omega) fun b9 w10 xs11 H => ?_)
 refine sp (.slice (aa b9 0) s.qf.length s.qf.length) ?_
 refine qj (t_n (qi (qi (ql ?_))))
 refine sw (zC [.int .i64 s.qH, .slice qx s.qf.length qp, .slice qN s.qh.length qL] Tryz.isAgg36 Tryz.sizeOf36 rfl (qI (H.cells 2 rfl) 0 3) ?_)
 refine sw (zC [.slice xB t.qo.length xx, .slice xK t.qy.length xH, .slice xg t.qm.length xf] Tryz.isAgg38 Tryz.sizeOf38 rfl (qI (H.cells 1 rfl) 0 3) ?_)
 have sz15 := H.base.size
 refine sw (oc (applicable_ok _ s t _ _ _ _ _ _ _ _ _ _ _ _ _ _ _ (H.get 1 rfl).1 (H.get 2 rfl).1 (H.get 3 rfl).1 (H.get 4 rfl).1 (H.get 5 rfl).1 (by first | assumption | omega) (by first | assumption | omega)) ?_)
 rintro _ w13 ⟨ra12, rn12, rc12, rfl, M, K⟩ _
 replace H := H.merge K M
 dsimp only [List.cons_append, List.nil_append] at H
 obtain rfl := H.rowNI 0 rfl
 have al : (appls s t).length ≤ s.qh.length := applL_le s t s.qh.length
 refine oN rfl ?_
 refine sp (.int .i64 0) ?_
 refine qj (t_n (qW ?_))
 refine zf (fun m' ρ w18 => ∃ (junk : Env) (k : Nat) (own : List (OwnI 2)) (x_own : List Value) (F_own : List Nat), ρ = upd (upd (upd (upd (upd (upd junk 2 (pp b5 0)) 3 (pp b7 0)) 6 (.slice (aa b9 0) s.qf.length s.qf.length)) 24 (.slice ra12 ((appls s t).length) rc12)) 25 (.int .i64 ((appls s t).length))) 26 (.int .i64 k) ∧ own = (ownL 2 s t s.qf.length k) ∧ ((k : Int) ≤ ((appls s t).length)) ∧ m' = (((appls s t).length) - (k : Int)).toNat ∧ Fresh w.heap.size [F_own] ∧ St w w18 [.row (.slice ra12 ((appls s t).length) rc12) 2 1 ((appls s t).length) ((appls s t).map (Value.int .i64)), .row (.slice (aa b9 0) s.qf.length s.qf.length) 22 1 s.qf.length x_own, .box b7 [.slice xB t.qo.length xx, .slice xK t.qy.length xH, .slice xg t.qm.length xf] 38, .box b5 [.int .i64 s.qH, .slice qx s.qf.length qp, .slice qN s.qh.length qL] 36, .box b3 [.slice xB t.qo.length xx, .slice xK t.qy.length xH, .slice xg t.qm.length xf] 38, .box b1 [.int .i64 s.qH, .slice qx s.qf.length qp, .slice qN s.qh.length qL] 36] [zn true F_own x_own own, isF false xn (.slice qx s.qf.length qp) s.qf, isF false xG (.slice qN s.qh.length qL) s.qh, isF false zy (.slice xB t.qo.length xx) t.qo, isF false zX (.slice xK t.qy.length xH) t.qy, isF false xW (.slice xg t.qm.length xf) t.qm]) ((((appls s t).length) - (0 : Int)).toNat) ⟨_, 0, (List.replicate s.qf.length (⟨[]⟩ : OwnI 2)), xs11, [], (by exact qg (qg (qg (qg (qg (qg (rfl) rfl) rfl) rfl) rfl) rfl) rfl), (by exact ownL_zero 2 s t _), (by omega), rfl, N.emp, H⟩ ?_
 clear H N
 rintro m' ρ w19 ⟨junk, k, own, x_own, F_own, rfl, rfl, i0, rfl, N, H⟩
 have hn_own := H.zK (α := OwnI 2) 1 rfl 0 rfl (by decide)
 have ol := ownL_len 2 s t s.qf.length k
 refine qi (ql ?_)
 refine sp (.bool (decide ((k : Int) < ((appls s t).length)))) ?_
 refine qj (t_n (qi ?_))
 refine qC (decide ((k : Int) < ((appls s t).length))) rfl (fun h20 => ?_) (fun h20 => ?_)
 ·skip
  replace h20 := of_decide_eq_true h20
  obtain ⟨a0, a1, a2⟩ := appls_inH (s := s) (t := t) (q := k) (by omega)
  have q := p0.rule (i := ((appls s t)[k]!).toNat) (by omega)
  have qc := q.1
  have qk : (s.qh[((appls s t)[k]!).toNat]!).qw.toNat < s.qf.length := q.cell
  have le := ownL_le (e := 2) (s := s) (t := t) (n := s.qf.length) (q := k) (c := (s.qh[((appls s t)[k]!).toNat]!).qw.toNat) (by omega)
  have sm := zo (p1.2.2.2.2 (s.qh[((appls s t)[k]!).toNat]!).qw.toNat (by omega)).1
  refine qM (t_n (qi (qW (qi (ql ?_)))))
  obtain ⟨b21, rfl⟩ := H.rowAddr 0 rfl (by omega)
  refine oI rfl rfl ?_
  refine oL rfl (H.rowInt 0 rfl (iv := k) (i := k) (by omega) (by omega)) ?_
  refine sp (.int .i64 ((appls s t)[k]!)) ?_
  refine qj (t_n (qi (ql ?_)))
  refine oF rfl ?_
  refine oL rfl (H.cell 3 rfl rfl) ?_
  refine sp (.int .i64 ((appls s t)[k]!)) ?_
  obtain ⟨b22, o23, rfl⟩ := H.addr 2 rfl (by omega)
  obtain ⟨ae25Need, ce25Need, Fe25Need, ae25Have, ce25Have, Fe25Have, ae25Lack, ce25Lack, Fe25Lack, ae25Here, ce25Here, Fe25Here, ae25Out, ce25Out, Fe25Out, ae25Into, ce25Into, Fe25Into, H⟩ := H.jK 2 rfl ((appls s t)[k]!) (((appls s t)[k]!).toNat) (by omega) (by omega) (by omega)
  refine oI rfl rfl ?_
  refine oF rfl ?_
  refine oL rfl (H.xJ 6 rfl 0 rfl) ?_
  refine sp (.int .i64 ((s.qh[((appls s t)[k]!).toNat]!).qw)) ?_
  refine qj (t_n (qi (qi (ql ?_))))
  refine oF rfl ?_
  refine oL rfl (H.cell 2 rfl rfl) ?_
  refine sp (.int .i64 ((s.qh[((appls s t)[k]!).toNat]!).qw)) ?_
  obtain ⟨b26, o27, rfl⟩ := H.addr 11 rfl (by omega)
  obtain ⟨ae29, ce29, Fe29, H⟩ := H.jo 11 rfl ((s.qh[((appls s t)[k]!).toNat]!).qw) (((s.qh[((appls s t)[k]!).toNat]!).qw).toNat) (by omega) (by omega) (by omega)
  refine oI rfl rfl ?_
  refine oL rfl (H.xJ 1 rfl 0 rfl) ?_
  refine sw (oc (QV _ (t.qy[((s.qh[((appls s t)[k]!).toNat]!).qw).toNat]!) _ _ _ (H.get 0 rfl).1 (by first | assumption | exact zo (by assumption) | exact jw (by assumption))) ?_)
  rintro _ w30 rfl x31
  replace H := H.ext x31
  refine sp (.bool (decide ((Qz (t.qy[((s.qh[((appls s t)[k]!).toNat]!).qw).toNat]!) : Int) > 16))) ?_
  refine qj (t_n ?_)
  refine qC (decide ((Qz (t.qy[((s.qh[((appls s t)[k]!).toNat]!).qw).toNat]!) : Int) > 16)) rfl (fun h32 => ?_) (fun h32 => ?_)
  ·skip
   replace h32 := of_decide_eq_true h32
   refine qi (ql ?_)
   refine sps [.slice none 0 0, .int .i64 3] ?_
   refine qj (t_n (qV (t_r (b_r (t_r (t_r (b_r (t_r ?_))))))))
   refine ret2 (.slice none 0 0) (.int .i64 3) rfl rfl rfl ⟨_, rfl, ?_⟩
   replace H := H.erases [3, 2, 1, 0]
   dsimp only [Qv, List.eraseIdx] at H
   refine sps [.tuple #[.slice none 0 0, .int .i64 3], .slice none 0 0, .int .i64 3, .slice none 0 0, .int .i64 3] ?_
   refine qj (t_n (qi (qi (ql ?_))))
   refine sps [.int .i64 3, .bool true] ?_
   refine qj (t_n ?_)
   refine qC true rfl (fun _ => ?_) (fun h => absurd h (by decide))
   refine qi (ql ?_)
   refine sps [.int .i64 3, .slice none 0 0, .int .i64 3] ?_
   refine qj (t_n (qV (t_r ?_)))
   replace H := H.nilRow 22 1
   replace H := H.jq (α := List Int)
   refine ret2 (.slice none 0 0) (.int .i64 3) rfl rfl rfl ⟨_, rfl, ?_, H.base⟩
   first | rw [cho_3 (.inl (own_bad p0 (q := k) (by omega) (by omega)))] | rw [cho_3 (.inr (prod_stop (G := (zF s.qh.length (qQ s t s.qf.length) (qZ s t s.qf.length) k_1)) (r := ((qQ s t s.qf.length)[k_1]!)) (k := k_51 + 1) (i := k_1) kn (by omega) (QO _) (by omega) (by rw [← nextX_end (x := k_52) (by omega) (by omega)]; omega)))]
   exact ⟨none, 0, 0, [], [], rfl, (N.emp.pick [0]), H.pick [0] [0]⟩
  replace h32 := of_decide_eq_false h32
  refine qM (t_n (ql ?_))
  refine sps [.slice (aa b9 0) s.qf.length s.qf.length, .int .i64 ((s.qh[((appls s t)[k]!).toNat]!).qw), .slice (aa b9 0) s.qf.length s.qf.length, .int .i64 ((s.qh[((appls s t)[k]!).toNat]!).qw)] ?_
  refine oI rfl rfl ?_
  replace N : Fresh w.heap.size [F_own] := N
  obtain ⟨a33, c34, F35, h36, N, H⟩ := H.openI 1 rfl 9 rfl N (iv := (s.qh[((appls s t)[k]!).toNat]!).qw) (((s.qh[((appls s t)[k]!).toNat]!).qw).toNat) (by omega) (by omega) [isF false xn (.slice qx s.qf.length qp) s.qf, isF false xG (.slice (aa b22 o23) s.qh.length qL) s.qh, isF false zy (.slice xB t.qo.length xx) t.qo, isF false zX (.slice (aa b26 o27) t.qy.length xH) t.qy, isF false xW (.slice xg t.qm.length xf) t.qm] (keepA A N [10, 11, 12, 13, 14] rfl rfl)
  refine oL rfl h36 ?_
  refine sp (.int .i64 ((appls s t)[k]!)) ?_
  refine sw (vJ H Tryz.underlying22 ti2 [.int .i64 ((appls s t)[k]!)] fun b37 w38 H => ?_)
  refine sw (jh H 1 rfl 0 rfl Tryz.underlying22 ti2 rfl (by decide) rfl rfl rfl (by simp [Value.oneCell', Value.cells]) (by unfold maxLen; omega) (by omega) fun a39 c40 w41 H => ?_)
  rw [snocI] at H
  try dsimp only [List.set] at H
  refine oI rfl rfl ?_
  refine sw (o_closeI H 3 rfl 1 (by decide) rfl 0 rfl (c := (((s.qh[((appls s t)[k]!).toNat]!).qw).toNat)) (N : Fresh w.heap.size [F35]) (H.awayN []) Tryz.sizeOf22 rfl rfl (by omega) (by omega) fun w42 F43 N H => ?_)
  try dsimp only [List.set] at H
  refine qj (b_n (t_n (ql ?_)))
  refine sw (zk k 1 rfl rfl (by omega) ?_)
  refine sp (.int .i64 (k + 1)) ?_
  refine qj ?_
  refine xk (m' := (((appls s t).length) - ((k + 1) : Int)).toNat) (by omega) ⟨_, k + 1, (((ownL 2 s t s.qf.length k).set (((s.qh[((appls s t)[k]!).toNat]!).qw).toNat) ⟨[]⟩).set (((s.qh[((appls s t)[k]!).toNat]!).qw).toNat) ⟨(((ownL 2 s t s.qf.length k)[((s.qh[((appls s t)[k]!).toNat]!).qw).toNat]!).l ++ [(appls s t)[k]!])⟩), (x_own.set (((s.qh[((appls s t)[k]!).toNat]!).qw).toNat) (.slice a39 ((((ownL 2 s t s.qf.length k)[((s.qh[((appls s t)[k]!).toNat]!).qw).toNat]!).l.length) + 1) c40)), F43, (by exact qg (qg (qg (qg (qg (qg (rfl) rfl) rfl) rfl) rfl) rfl) rfl), ?_, ?_, rfl, N, H.pick [2, 3, 4, 5, 6, 7] [0, 2, 3, 4, 5, 6]⟩
  · exact ownL_set (by omega) rfl (by omega) (by omega) (by rw [List.set_set])
  · omega
 replace h20 := of_decide_eq_false h20
 refine xQ (t_x (t_x (b_x (t_n (qi (ql ?_))))))
 refine sw (jm H Tryz.underlying125 ti129 fun b44 w45 H => ?_)
 refine sp (.slice (aa b44 0) 0 0) ?_
 refine qj (t_n (qi (qi (ql ?_))))
 refine sp (.slice (aa b9 0) s.qf.length s.qf.length) ?_
 refine oN rfl ?_
 refine sp (.int .i64 0) ?_
 refine qj (t_n (qW ?_))
 replace H := H.ofOwn 0 rfl
 rw [ownL_end (by omega)] at H
 have cl := cellsR_len s t s.qf.length
 replace H := H.boxRow 0 rfl 2 0 rfl (by decide)
 try dsimp only [List.set] at H
 replace H := H.jq (α := inCellD)
 replace H : St _ _ [.row (.slice (aa b44 0) 0 0) 129 2 0 [], .row (.slice ra12 ((appls s t).length) rc12) 2 1 ((appls s t).length) ((appls s t).map (Value.int .i64)), .row (.slice (aa b9 0) s.qf.length s.qf.length) 22 1 s.qf.length x_own, .box b7 [.slice xB t.qo.length xx, .slice xK t.qy.length xH, .slice xg t.qm.length xf] 38, .box b5 [.int .i64 s.qH, .slice qx s.qf.length qp, .slice qN s.qh.length qL] 36, .box b3 [.slice xB t.qo.length xx, .slice xK t.qy.length xH, .slice xg t.qm.length xf] 38, .box b1 [.int .i64 s.qH, .slice qx s.qf.length qp, .slice qN s.qh.length qL] 36] [zn true [] [] ([] : List inCellD), zn true F_own x_own (cellsR s t s.qf.length), zn true F_own x_own (ownL 2 s t s.qf.length k), isF false xn (.slice qx s.qf.length qp) s.qf, isF false xG (.slice qN s.qh.length qL) s.qh, isF false zy (.slice xB t.qo.length xx) t.qo, isF false zX (.slice xK t.qy.length xH) t.qy, isF false xW (.slice xg t.qm.length xf) t.qm] := H
 refine zf (fun m' ρ w46 => ∃ (junk : Env) (vH : Option Addr) (xX : Nat) (zQ : Nat) (out : List inCellD) (x_out : List Value) (Q5 : List Nat) (c : Nat), ρ = upd (upd (upd (upd (upd (upd junk 2 (pp b5 0)) 3 (pp b7 0)) 10 (.slice vH xX zQ)) 55 (.slice (aa b9 0) s.qf.length s.qf.length)) 56 (.int .i64 s.qf.length)) 57 (.int .i64 c) ∧ out = (jZ s t c) ∧ ((c : Int) ≤ s.qf.length) ∧ (GoodP s t c) ∧ m' = (s.qf.length - (c : Int)).toNat ∧ Fresh w.heap.size [F_own] ∧ St w w46 [.row (.slice vH xX zQ) 129 2 xX x_out, .row (.slice ra12 ((appls s t).length) rc12) 2 1 ((appls s t).length) ((appls s t).map (Value.int .i64)), .row (.slice (aa b9 0) s.qf.length s.qf.length) 22 1 s.qf.length x_own, .box b7 [.slice xB t.qo.length xx, .slice xK t.qy.length xH, .slice xg t.qm.length xf] 38, .box b5 [.int .i64 s.qH, .slice qx s.qf.length qp, .slice qN s.qh.length qL] 36, .box b3 [.slice xB t.qo.length xx, .slice xK t.qy.length xH, .slice xg t.qm.length xf] 38, .box b1 [.int .i64 s.qH, .slice qx s.qf.length qp, .slice qN s.qh.length qL] 36] [zn true Q5 x_out out, zn true F_own x_own (cellsR s t s.qf.length), zn true F_own x_own (ownL 2 s t s.qf.length k), isF false xn (.slice qx s.qf.length qp) s.qf, isF false xG (.slice qN s.qh.length qL) s.qh, isF false zy (.slice xB t.qo.length xx) t.qo, isF false zX (.slice xK t.qy.length xH) t.qy, isF false xW (.slice xg t.qm.length xf) t.qm]) ((s.qf.length - (0 : Int)).toNat) ⟨_, (aa b44 0), 0, 0, ([] : List inCellD), [], [], 0, (by exact qg (qg (qg (qg (qg (qg (rfl) rfl) rfl) rfl) rfl) rfl) rfl), (by rfl), (by omega), (by exact fun j hj => by omega), rfl, N, H⟩ ?_
 clear H N
 rintro m' ρ w47 ⟨junk, vH, xX, zQ, out, x_out, Q5, c, rfl, rfl, i0, gp, rfl, N, H⟩
 have hn_out := H.zK (α := inCellD) 0 rfl 0 rfl (by decide)
 have ce := cells_len s t c
 have rl := rules_le s t c
 refine qi (ql ?_)
 refine sp (.bool (decide ((c : Int) < s.qf.length))) ?_
 refine qj (t_n (qi ?_))
 refine qC (decide ((c : Int) < s.qf.length)) rfl (fun h48 => ?_) (fun h48 => ?_)
 ·skip
  replace h48 := of_decide_eq_true h48
  refine qM (t_n (qi (qW (qi (ql ?_)))))
  refine sp (.int .i64 c) ?_
  refine oI rfl rfl ?_
  obtain ⟨a49, c50, G51, s52, h53, H⟩ := H.rowElemL 2 rfl 1 rfl (iv := c) c (by omega) (by omega)
  refine oL rfl (h53) ?_
  refine sps [.int .i64 c, .slice a49 (((cellsR s t s.qf.length)[c]!).length) c50] ?_
  refine qj (t_n (qi (qi (ql ?_))))
  refine sp (.slice a49 (((cellsR s t s.qf.length)[c]!).length) c50) ?_
  refine oN rfl ?_
  refine sp (.bool ((((cellsR s t s.qf.length)[c]!).length : Int) == 0)) ?_
  refine qj (t_n ?_)
  refine qC ((((cellsR s t s.qf.length)[c]!).length : Int) == 0) rfl (fun h54 => ?_) (fun h54 => ?_)
  ·skip
   replace h54 := eq_of_beq h54
   rw [cellsR_get (s := s) (t := t) (n := s.qf.length) (c := c) (by omega)] at H h54 ⊢
   refine xQ (t_x (b_x (t_n (ql ?_))))
   refine sw (zk c 1 rfl rfl (by omega) ?_)
   refine sp (.int .i64 (c + 1)) ?_
   refine qj ?_
   refine xk (m' := (s.qf.length - ((c + 1) : Int)).toNat) (by omega) ⟨_, vH, xX, zQ, (jZ s t c), x_out, Q5, c + 1, (by exact qg (qg (qg (qg (qg (qg (rfl) rfl) rfl) rfl) rfl) rfl) rfl), ?_, ?_, ?_, rfl, N, H.pick [0, 1, 2, 3, 4, 5, 6] [1, 2, 3, 4, 5, 6, 7, 8]⟩
   · first | exact cells_yes (by omega) | exact cells_no (by omega)
   · omega
   · exact gp.succ (by first | exact .inl (by omega) | exact .inr (show (xY _ _).2 = 0 from ‹_›))
  replace h54 := ne_of_beq_false h54
  rw [cellsR_get (s := s) (t := t) (n := s.qf.length) (c := c) (by omega)] at H h54 ⊢
  refine qM (t_n (qi (ql ?_)))
  refine sw (jm H Tryz.underlying27 ti22 fun b55 w56 H => ?_)
  refine sp (.slice (aa b55 0) 0 0) ?_
  refine qj (t_n (qi (qi (ql ?_))))
  refine sp (.slice a49 ((xP s t c).length) c50) ?_
  refine oN rfl ?_
  refine sp (.int .i64 0) ?_
  refine qj (t_n (qW ?_))
  replace H := H.boxRow 0 rfl 1 0 rfl (by decide)
  try dsimp only [List.set] at H
  replace H := H.jq (α := List Int)
  replace H := H.unfree 0 rfl
  refine zf (fun m' ρ w57 => ∃ (junk : Env) (je : Option Addr) (zM : Nat) (vY : Nat) (needs : List (List Int)) (QD : List Value) (XB : List Nat) (k_1 : Nat), ρ = upd (upd (upd (upd (upd (upd (upd (upd (upd (upd (upd (upd junk 2 (pp b5 0)) 3 (pp b7 0)) 10 (.slice vH xX zQ)) 11 (.int .i64 c)) 12 (.slice a49 ((xP s t c).length) c50)) 13 (.slice je zM vY)) 55 (.slice (aa b9 0) s.qf.length s.qf.length)) 56 (.int .i64 s.qf.length)) 57 (.int .i64 c)) 66 (.slice a49 ((xP s t c).length) c50)) 67 (.int .i64 ((xP s t c).length))) 68 (.int .i64 k_1) ∧ needs = (xC s ((xP s t c).take k_1)) ∧ ((k_1 : Int) ≤ ((xP s t c).length)) ∧ m' = (((xP s t c).length) - (k_1 : Int)).toNat ∧ Fresh w.heap.size [F_own] ∧ St w w57 [.row (.slice je zM vY) 22 1 zM QD, .row (.slice vH xX zQ) 129 2 xX x_out, .row (.slice ra12 ((appls s t).length) rc12) 2 1 ((appls s t).length) ((appls s t).map (Value.int .i64)), .row (.slice (aa b9 0) s.qf.length s.qf.length) 22 1 s.qf.length x_own, .box b7 [.slice xB t.qo.length xx, .slice xK t.qy.length xH, .slice xg t.qm.length xf] 38, .box b5 [.int .i64 s.qH, .slice qx s.qf.length qp, .slice qN s.qh.length qL] 36, .box b3 [.slice xB t.qo.length xx, .slice xK t.qy.length xH, .slice xg t.qm.length xf] 38, .box b1 [.int .i64 s.qH, .slice qx s.qf.length qp, .slice qN s.qh.length qL] 36] [zn false XB QD needs, isF true G51 (.slice a49 ((xP s t c).length) c50) (xP s t c), zn true Q5 x_out (jZ s t c), zn true F_own x_own (cellsR s t s.qf.length), zn true F_own x_own (ownL 2 s t s.qf.length k), isF false xn (.slice qx s.qf.length qp) s.qf, isF false xG (.slice qN s.qh.length qL) s.qh, isF false zy (.slice xB t.qo.length xx) t.qo, isF false zX (.slice xK t.qy.length xH) t.qy, isF false xW (.slice xg t.qm.length xf) t.qm]) ((((xP s t c).length) - (0 : Int)).toNat) ⟨_, (aa b55 0), 0, 0, ([] : List (List Int)), [], [], 0, (by exact qg (qg (qg (qg (qg (qg (qg (qg (qg (qg (qg (qg (rfl) rfl) rfl) rfl) rfl) rfl) rfl) rfl) rfl) rfl) rfl) rfl) rfl), (by rfl), (by omega), rfl, N, H.pick [0, 1, 2, 3, 4, 5, 6, 7] [0, 2, 3, 4, 5, 6, 7, 8, 9, 10]⟩ ?_
  clear H N
  rintro m' ρ w58 ⟨junk, je, zM, vY, needs, QD, XB, k_1, rfl, rfl, i0, rfl, N, H⟩
  have hn_needs := H.zK (α := List Int) 0 rfl 0 rfl (by decide)
  have nl := Q8 s ((xP s t c).take k_1)
  have tl := List.length_take_le k_1 (xP s t c)
  have cl8 := cellR_len (t := t) p0 c
  refine qi (ql ?_)
  refine sp (.bool (decide ((k_1 : Int) < ((xP s t c).length)))) ?_
  refine qj (t_n (qi ?_))
  refine qC (decide ((k_1 : Int) < ((xP s t c).length))) rfl (fun h59 => ?_) (fun h59 => ?_)
  ·skip
   replace h59 := of_decide_eq_true h59
   obtain ⟨e1, e2, e3, e4⟩ := cellR_at (s := s) (t := t) (c := c) (j := k_1) (by omega)
   refine qM (t_n (qi (qW (qi (ql ?_)))))
   obtain ⟨b60, o61, rfl⟩ := H.addr 1 rfl (by omega)
   refine oI rfl rfl ?_
   refine oL rfl (H.vT 1 rfl k_1 (by omega) (by omega)) ?_
   refine sp (.int .i64 ((xP s t c)[k_1]!)) ?_
   refine qj (t_n (ql ?_))
   refine sp (.slice je zM vY) ?_
   refine oF rfl ?_
   refine oL rfl (H.cell 5 rfl rfl) ?_
   refine sp (.int .i64 ((xP s t c)[k_1]!)) ?_
   obtain ⟨b63, o64, rfl⟩ := H.addr 6 rfl (by omega)
   obtain ⟨ae66Need, ce66Need, Fe66Need, ae66Have, ce66Have, Fe66Have, ae66Lack, ce66Lack, Fe66Lack, ae66Here, ce66Here, Fe66Here, ae66Out, ce66Out, Fe66Out, ae66Into, ce66Into, Fe66Into, H⟩ := H.jK 6 rfl ((xP s t c)[k_1]!) (((xP s t c)[k_1]!).toNat) (by omega) (by omega) (by omega)
   refine oI rfl rfl ?_
   refine oF rfl ?_
   refine oL rfl (H.xJ 6 rfl 2 rfl) ?_
   refine sw (vJ H Tryz.underlying27 ti22 [.slice ae66Need (((s.qh[((xP s t c)[k_1]!).toNat]!).qO).length) ce66Need] fun b67 w68 H => ?_)
   refine sw (jh H 1 rfl 0 rfl Tryz.underlying27 ti22 rfl (by decide) rfl rfl rfl (by simp [Value.oneCell', Value.cells]) (by unfold maxLen; omega) (by omega) fun a69 c70 w71 H => ?_)
   try dsimp only [List.set] at H
   replace H := H.QF 7 rfl 0 rfl
   refine sp (.slice a69 (zM + 1) c70) ?_
   refine qj (b_n (t_n (ql ?_)))
   refine sw (zk k_1 1 rfl rfl (by omega) ?_)
   refine sp (.int .i64 (k_1 + 1)) ?_
   refine qj ?_
   refine xk (m' := (((xP s t c).length) - ((k_1 + 1) : Int)).toNat) (by omega) ⟨_, a69, zM + 1, c70, ((xC s ((xP s t c).take k_1)) ++ [(s.qh[((xP s t c)[k_1]!).toNat]!).qO]), QD ++ [.slice ae66Need (((s.qh[((xP s t c)[k_1]!).toNat]!).qO).length) ce66Need], (XB ++ Fe66Need), k_1 + 1, (by exact qg (qg (qg (qg (qg (qg (qg (qg (qg (qg (qg (qg (rfl) rfl) rfl) rfl) rfl) rfl) rfl) rfl) rfl) rfl) rfl) rfl) rfl), ?_, ?_, rfl, N, H.pick [1, 2, 3, 4, 5, 6, 7, 8] [0, 9, 10, 11, 12, 13, 14, 15, 16, 17]⟩
   · exact needs_take (by omega)
   · omega
  replace h59 := of_decide_eq_false h59
  rw [List.take_of_length_le (l := xP s t c) (i := k_1) (by omega)] at H
  refine xQ (t_x (t_x (b_x (t_n (qi (ql ?_))))))
  refine oF rfl ?_
  refine oL rfl (H.cell 4 rfl rfl) ?_
  refine sp (.int .i64 c) ?_
  obtain ⟨b72, o73, rfl⟩ := H.addr 8 rfl (by omega)
  obtain ⟨ae75, ce75, Fe75, H⟩ := H.jo 8 rfl c c (by omega) (by omega) (by omega)
  refine oI rfl rfl ?_
  refine oL rfl (H.xJ 1 rfl 0 rfl) ?_
  refine sp (.slice je zM vY) ?_
  obtain ⟨G76, hn77, h78⟩ := H.rowIsR (α := List Int) 0 rfl 2 rfl (by decide)
  have cp := cell_pack p0 p1 (c := c) (by omega)
  have nl2 := Q8 s (xP s t c)
  have sz82 := H.base.size
  have lt83 := H.ltN (L := [F_own]) [5]
  refine sw (oc (args_eq (by rw [← hn77]) (maxPack_ok _ (t.qy[c]!) (xC s (xP s t c)) _ _ _ _ _ _ (H.get 0 rfl).1 (hn77 ▸ h78) (by first | assumption | omega) (by first | assumption | omega))) ?_)
  rintro _ w80 ⟨ra79a, rn79a, rc79a, rx79a, rF79a, rfl, M, K⟩ _
  replace N := N.merge sz82 lt83 M
  replace H := H.merge K M
  dsimp only [List.cons_append, List.nil_append] at H
  obtain rfl := H.zK (α := List Int) 0 rfl 0 rfl (by decide)
  refine sps [.tuple #[.slice ra79a (((xY (t.qy[c]!) (xC s (xP s t c))).1).length) rc79a, .int .i64 ((xY (t.qy[c]!) (xC s (xP s t c))).2)], .slice ra79a (((xY (t.qy[c]!) (xC s (xP s t c))).1).length) rc79a, .int .i64 ((xY (t.qy[c]!) (xC s (xP s t c))).2), .slice ra79a (((xY (t.qy[c]!) (xC s (xP s t c))).1).length) rc79a, .int .i64 ((xY (t.qy[c]!) (xC s (xP s t c))).2)] ?_
  refine qj (t_n (qi (qi (ql ?_))))
  refine sps [.int .i64 ((xY (t.qy[c]!) (xC s (xP s t c))).2), .bool (((xY (t.qy[c]!) (xC s (xP s t c))).2 : Int) != 0)] ?_
  refine qj (t_n ?_)
  refine qC (((xY (t.qy[c]!) (xC s (xP s t c))).2 : Int) != 0) rfl (fun h85 => ?_) (fun h85 => ?_)
  ·skip
   replace h85 := bne_iff_ne.1 h85
   refine qi (ql ?_)
   refine sps [.int .i64 ((xY (t.qy[c]!) (xC s (xP s t c))).2), .slice none 0 0, .int .i64 ((xY (t.qy[c]!) (xC s (xP s t c))).2)] ?_
   refine qj (t_n (qV (t_r (b_r (t_r (t_r (b_r (t_r ?_))))))))
   refine ret2 (.slice none 0 0) (.int .i64 ((xY (t.qy[c]!) (xC s (xP s t c))).2)) rfl rfl rfl ⟨_, rfl, ?_⟩
   replace H := H.erases [6, 5, 4, 3, 2, 1, 0]
   dsimp only [Qv, List.eraseIdx] at H
   refine sps [.tuple #[.slice none 0 0, .int .i64 ((xY (t.qy[c]!) (xC s (xP s t c))).2)], .slice none 0 0, .int .i64 ((xY (t.qy[c]!) (xC s (xP s t c))).2), .slice none 0 0, .int .i64 ((xY (t.qy[c]!) (xC s (xP s t c))).2)] ?_
   refine qj (t_n (qi (qi (ql ?_))))
   refine sps [.int .i64 ((xY (t.qy[c]!) (xC s (xP s t c))).2), .bool (((xY (t.qy[c]!) (xC s (xP s t c))).2 : Int) != 0)] ?_
   refine qj (t_n ?_)
   refine qC (((xY (t.qy[c]!) (xC s (xP s t c))).2 : Int) != 0) rfl (fun h86 => ?_) (fun h => absurd (xw h) h85)
   replace h86 := bne_iff_ne.1 h86
   refine qi (ql ?_)
   refine sps [.int .i64 ((xY (t.qy[c]!) (xC s (xP s t c))).2), .slice none 0 0, .int .i64 ((xY (t.qy[c]!) (xC s (xP s t c))).2)] ?_
   refine qj (t_n (qV (t_r ?_)))
   replace H := H.nilRow 22 1
   replace H := H.jq (α := List Int)
   refine ret2 (.slice none 0 0) (.int .i64 ((xY (t.qy[c]!) (xC s (xP s t c))).2)) rfl rfl rfl ⟨_, rfl, ?_, H.base⟩
   rw [cho_code (bad_code (c := c) (by omega) (by omega) ‹_›) ‹_›]
   exact ⟨none, 0, 0, [], [], rfl, (N.emp.pick [0]), H.pick [0] [0]⟩
  replace h85 := xw h85
  refine qM (t_n (ql ?_))
  refine sps [.slice vH xX zQ, .slice a49 ((xP s t c).length) c50, .slice ra79a (((xY (t.qy[c]!) (xC s (xP s t c))).1).length) rc79a] ?_
  refine sw (Qs [.slice a49 ((xP s t c).length) c50, .slice ra79a (((xY (t.qy[c]!) (xC s (xP s t c))).1).length) rc79a] [(0, .slice a49 ((xP s t c).length) c50), (1, .slice ra79a (((xY (t.qy[c]!) (xC s (xP s t c))).1).length) rc79a)] ?_)
  refine sw (vJ H Tryz.underlying125 ti129 [.slice a49 ((xP s t c).length) c50, .slice ra79a (((xY (t.qy[c]!) (xC s (xP s t c))).1).length) rc79a] fun b87 w88 H => ?_)
  have H0 := H
  obtain ⟨G92, hg94, hn93, H⟩ := H.freezeR (α := List Int) 1 rfl 0 rfl (by decide)
  replace N : Fresh w.heap.size [G92, F_own] := Fresh.ice N H0 1 hg94.1 hg94.2 (H0.awayN [6])
  clear H0
  try dsimp only [List.set] at H
  refine sw (jh H 3 rfl 0 rfl Tryz.underlying125 ti129 rfl (by decide) rfl rfl rfl (by simp [Value.oneCell', Value.cells]) (by unfold maxLen; omega) (by omega) fun a89 c90 w91 H => ?_)
  try dsimp only [List.set] at H
  replace H := H.snoc_inCellD 6 rfl 5 rfl 0 rfl
  refine sp (.slice a89 (xX + 1) c90) ?_
  refine qj (b_n (t_n (ql ?_)))
  refine sw (zk c 1 rfl rfl (by omega) ?_)
  refine sp (.int .i64 (c + 1)) ?_
  refine qj ?_
  refine xk (m' := (s.qf.length - ((c + 1) : Int)).toNat) (by omega) ⟨_, a89, xX + 1, c90, ((jZ s t c) ++ [⟨xP s t c, (xY (t.qy[c]!) (xC s (xP s t c))).1⟩]), x_out ++ [.slice a49 ((xP s t c).length) c50, .slice ra79a (((xY (t.qy[c]!) (xC s (xP s t c))).1).length) rc79a], (Q5 ++ (G51 ++ G92)), c + 1, (by exact qg (qg (qg (qg (qg (qg (rfl) rfl) rfl) rfl) rfl) rfl) rfl), ?_, ?_, ?_, rfl, (N.pick [1]), H.pick [3, 4, 5, 6, 7, 8, 9] [0, 8, 9, 10, 11, 12, 13, 14]⟩
  · first | exact cells_yes (by omega) | exact cells_no (by omega)
  · omega
  · exact gp.succ (by first | exact .inl (by omega) | exact .inr (show (xY _ _).2 = 0 from ‹_›))
 replace h48 := of_decide_eq_false h48
 refine xQ (t_x (t_x (b_x (t_n (qi (ql ?_))))))
 refine sps [.slice vH xX zQ, .slice vH xX zQ, .int .i64 0] ?_
 refine qj (t_n (qV ?_))
 refine ret2 (.slice vH xX zQ) (.int .i64 0) rfl rfl rfl ⟨_, rfl, ?_⟩
 replace H := H.erases [4, 3, 2, 1]
 dsimp only [Qv, List.eraseIdx] at H
 obtain rfl : c = s.qf.length := by omega
 have kn := packsL_ne p0 p1 (k := s.qf.length) (by omega) gp
 have kr := rules_le s t s.qf.length
 have kl := packsL_le s t s.qf.length
 have ce := cells_len s t s.qf.length
 refine sps [.tuple #[.slice vH xX zQ, .int .i64 0], .slice vH xX zQ, .int .i64 0, .slice vH xX zQ, .int .i64 0] ?_
 refine qj (t_n (qi (qi (ql ?_))))
 refine sps [.int .i64 0, .bool false] ?_
 refine qj (t_n ?_)
 refine qC false rfl (fun h => absurd h (by decide)) (fun _ => ?_)
 refine qM (t_n (qi (ql ?_)))
 refine oF rfl ?_
 refine oL rfl (H.cell 2 rfl rfl) ?_
 refine oN rfl ?_
 refine sw (zt H Tryz.underlying22 ti2 s.qh.length rfl rfl (by omega) (by omega) (by omega) fun b95 w96 H => ?_)
 refine sw (vJ H Tryz.underlying27 ti22 [.slice (aa b95 0) s.qh.length s.qh.length] fun b97 w98 H => ?_)
 refine sp (.slice (aa b97 0) 1 1) ?_
 refine qj (t_n (qi (qi (ql ?_))))
 refine sp (.slice vH xX zQ) ?_
 refine oN rfl ?_
 refine sp (.int .i64 0) ?_
 refine qj (t_n (qW ?_))
 obtain ⟨G99, hg101, hn100, H⟩ := H.freezeR (α := inCellD) 2 rfl 0 rfl (by decide)
 try dsimp only [List.set] at H
 replace H := H.boxRow 0 rfl 1 1 rfl (by decide)
 try dsimp only [List.set] at H
 replace H := H.jq (α := List Int)
 obtain ⟨G102, N, hn103, H⟩ := H.Xx 1 rfl N (H.awayN [3])
 try dsimp only [List.set] at H
 replace H := H.Xq true 0 rfl 1 rfl (by simp)
 replace N : Fresh w.heap.size [(G102 ++ []), F_own] := (N.emp.pick [1, 0, 2]).join
 refine zf (fun m' ρ w104 => ∃ (junk : Env) (a_out_1 : Option Addr) (jv : Nat) (Q3 : Nat) (out_1 : List (List Int)) (Xu : List Value) (QS : List Nat) (k_1 : Nat), ρ = upd (upd (upd (upd junk 8 (.slice a_out_1 jv Q3)) 33 (.slice vH xX zQ)) 34 (.int .i64 xX)) 35 (.int .i64 k_1) ∧ out_1 = (zF s.qh.length (qQ s t s.qf.length) (qZ s t s.qf.length) k_1) ∧ ((k_1 : Int) ≤ xX) ∧ ((zF s.qh.length (qQ s t s.qf.length) (qZ s t s.qf.length) k_1).length ≤ 300) ∧ m' = (xX - (k_1 : Int)).toNat ∧ Fresh w.heap.size [QS] ∧ St w w104 [.row (.slice a_out_1 jv Q3) 22 1 jv Xu, .box b3 [.slice xB t.qo.length xx, .slice xK t.qy.length xH, .slice xg t.qm.length xf] 38, .box b1 [.int .i64 s.qH, .slice qx s.qf.length qp, .slice qN s.qh.length qL] 36] [zn true QS Xu out_1, isF true G99 (.slice vH xX zQ) (jZ s t s.qf.length), isF false xn (.slice qx s.qf.length qp) s.qf, isF false xG (.slice qN s.qh.length qL) s.qh, isF false zy (.slice xB t.qo.length xx) t.qo, isF false zX (.slice xK t.qy.length xH) t.qy, isF false xW (.slice xg t.qm.length xf) t.qm]) ((xX - (0 : Int)).toNat) ⟨_, (aa b97 0), 1, 1, [(List.replicate s.qh.length (0 : Int))], [.slice (aa b95 0) s.qh.length s.qh.length], (G102 ++ []), 0, (by exact qg (qg (qg (qg (rfl) rfl) rfl) rfl) rfl), (by rfl), (by omega), (by rw [QO]; show 1 ≤ 300; omega), rfl, (N.pick [0]), H.pick [0, 3, 4] [0, 3, 7, 8, 9, 10, 11]⟩ ?_
 clear H N
 rintro m' ρ w105 ⟨junk, a_out_1, jv, Q3, out_1, Xu, QS, k_1, rfl, rfl, i0, g3, rfl, N, H⟩
 have hn_out := H.zK (α := List Int) 0 rfl 0 rfl (by decide)
 refine qi (ql ?_)
 refine sp (.bool (decide ((k_1 : Int) < xX))) ?_
 refine qj (t_n (qi ?_))
 refine qC (decide ((k_1 : Int) < xX)) rfl (fun h106 => ?_) (fun h106 => ?_)
 ·skip
  replace h106 := of_decide_eq_true h106
  obtain ⟨gb, gc⟩ := cell_few (s := s) (t := t) (n := s.qf.length) (i := k_1) p0 (by omega)
  refine qM (t_n (qi (qW (qi (ql ?_)))))
  have hl109 := H.isLen 1 rfl
  obtain ⟨b107, o108, rfl⟩ := H.addr 1 rfl (by omega)
  obtain ⟨ae110rules, ce110rules, Fe110rules, ae110packings, ce110packings, Fe110packings, H⟩ := H.elem_inCellD 1 rfl k_1 k_1 (by omega) (by omega) (by omega)
  refine oI rfl rfl ?_
  refine sw (zC [.slice ae110rules ((((jZ s t s.qf.length)[k_1]!).frules).length) ce110rules, .slice ae110packings ((((jZ s t s.qf.length)[k_1]!).fpackings).length) ce110packings] Tryz.isAgg129 Tryz.sizeOf129 rfl (qI (H.get 2 rfl) 0 2) ?_)
  refine sw (xy H ti129 [.slice none 0 0, .slice none 0 0] fun b111 w112 H => ?_)
  refine sw (o_storeC H 0 [.slice ae110rules ((((jZ s t s.qf.length)[k_1]!).frules).length) ce110rules, .slice ae110packings ((((jZ s t s.qf.length)[k_1]!).fpackings).length) ce110packings] Tryz.sizeOf129 fun w113 H => ?_)
  try dsimp only [List.set] at H
  refine qj (t_n (qi (ql ?_)))
  refine sw (jm H Tryz.underlying27 ti22 fun b114 w115 H => ?_)
  refine sp (.slice (aa b114 0) 0 0) ?_
  refine qj (t_n (qi (qi (ql ?_))))
  refine sp (.slice a_out_1 jv Q3) ?_
  refine oN rfl ?_
  refine sp (.int .i64 0) ?_
  refine qj (t_n (qW ?_))
  obtain ⟨ce1, ce2⟩ := cells_at (s := s) (t := t) (k := s.qf.length) (i := k_1) (by omega)
  rw [ce1, ce2] at H
  replace H := H.boxRow 0 rfl 1 0 rfl (by decide)
  try dsimp only [List.set] at H
  replace H := H.jq (α := List Int)
  refine zf (fun m' ρ w116 => ∃ (junk : Env) (a_next : Option Addr) (n_next : Nat) (c_next : Nat) (next : List (List Int)) (x_next : List Value) (F_next : List Nat) (k_51 : Nat), ρ = upd (upd (upd (upd (upd (upd (upd (upd junk 10 (pp b111 0)) 11 (.slice a_next n_next c_next)) 33 (.slice (aa b107 o108) xX zQ)) 34 (.int .i64 xX)) 35 (.int .i64 k_1)) 40 (.slice a_out_1 jv Q3)) 41 (.int .i64 jv)) 42 (.int .i64 k_51) ∧ next = (nextK (zF s.qh.length (qQ s t s.qf.length) (qZ s t s.qf.length) k_1) ((qQ s t s.qf.length)[k_1]!) ((qZ s t s.qf.length)[k_1]!) k_51) ∧ ((k_51 : Int) ≤ jv) ∧ ((nextK (zF s.qh.length (qQ s t s.qf.length) (qZ s t s.qf.length) k_1) ((qQ s t s.qf.length)[k_1]!) ((qZ s t s.qf.length)[k_1]!) k_51).length ≤ 300) ∧ m' = (jv - (k_51 : Int)).toNat ∧ Fresh w.heap.size [QS, F_next] ∧ St w w116 [.row (.slice a_next n_next c_next) 22 1 n_next x_next, .box b111 [.slice ae110rules (((qQ s t s.qf.length)[k_1]!).length) ce110rules, .slice ae110packings (((qZ s t s.qf.length)[k_1]!).length) ce110packings] 129, .row (.slice a_out_1 jv Q3) 22 1 jv Xu, .box b3 [.slice xB t.qo.length xx, .slice xK t.qy.length xH, .slice xg t.qm.length xf] 38, .box b1 [.int .i64 s.qH, .slice qx s.qf.length qp, .slice qN s.qh.length qL] 36] [zn true F_next x_next next, isF true Fe110rules (.slice ae110rules (((qQ s t s.qf.length)[k_1]!).length) ce110rules) ((qQ s t s.qf.length)[k_1]!), isF true Fe110packings (.slice ae110packings (((qZ s t s.qf.length)[k_1]!).length) ce110packings) ((qZ s t s.qf.length)[k_1]!), atF b107 (o108 + (k_1 : Int).toNat * 2) [.slice ae110rules (((qQ s t s.qf.length)[k_1]!).length) ce110rules, .slice ae110packings (((qZ s t s.qf.length)[k_1]!).length) ce110packings], zn true QS Xu (zF s.qh.length (qQ s t s.qf.length) (qZ s t s.qf.length) k_1), isF true G99 (.slice (aa b107 o108) xX zQ) (jZ s t s.qf.length), isF false xn (.slice qx s.qf.length qp) s.qf, isF false xG (.slice qN s.qh.length qL) s.qh, isF false zy (.slice xB t.qo.length xx) t.qo, isF false zX (.slice xK t.qy.length xH) t.qy, isF false xW (.slice xg t.qm.length xf) t.qm]) ((jv - (0 : Int)).toNat) ⟨_, (aa b114 0), 0, 0, ([] : List (List Int)), [], [], 0, (by exact qg (qg (qg (qg (qg (qg (qg (qg (rfl) rfl) rfl) rfl) rfl) rfl) rfl) rfl) rfl), (by rfl), (by omega), (by show 0 ≤ 300; omega), rfl, (N.emp.pick [1, 0]), H⟩ ?_
  clear H N
  rintro m' ρ w117 ⟨junk, a_next, n_next, c_next, next, x_next, F_next, k_51, rfl, rfl, i0, n3, rfl, N, H⟩
  have hn_next := H.zK (α := List Int) 0 rfl 0 rfl (by decide)
  refine qi (ql ?_)
  refine sp (.bool (decide ((k_51 : Int) < jv))) ?_
  refine qj (t_n (qi ?_))
  refine qC (decide ((k_51 : Int) < jv)) rfl (fun h118 => ?_) (fun h118 => ?_)
  ·skip
   replace h118 := of_decide_eq_true h118
   refine qM (t_n (qi (qW (qi (ql ?_)))))
   obtain ⟨b119, rfl⟩ := H.rowAddr 2 rfl (by omega)
   refine oI rfl rfl ?_
   obtain ⟨a120, c121, G122, s123, h124, H⟩ := H.rowElemL 2 rfl 4 rfl (iv := k_51) k_51 (by omega) (by omega)
   refine oL rfl (h124) ?_
   refine sp (.slice a120 (((zF s.qh.length (qQ s t s.qf.length) (qZ s t s.qf.length) k_1)[k_51]!).length) c121) ?_
   refine qj (t_n (qi (qi (ql ?_))))
   refine oF rfl ?_
   refine oL rfl (H.cell 1 rfl rfl) ?_
   refine oN rfl ?_
   refine sp (.int .i64 0) ?_
   refine qj (t_n (qW ?_))
   refine zf (fun m' ρ w125 => ∃ (junk : Env) (yR : Option Addr) (vO : Nat) (yQ : Nat) (next_1 : List (List Int)) (Qp : List Value) (yc : List Nat) (k_52 : Nat), ρ = upd (upd (upd (upd (upd (upd (upd (upd (upd (upd (upd (upd junk 10 (pp b111 0)) 11 (.slice yR vO yQ)) 13 (.slice a120 (((zF s.qh.length (qQ s t s.qf.length) (qZ s t s.qf.length) k_1)[k_51]!).length) c121)) 33 (.slice (aa b107 o108) xX zQ)) 34 (.int .i64 xX)) 35 (.int .i64 k_1)) 40 (.slice (aa b119 0) jv Q3)) 41 (.int .i64 jv)) 42 (.int .i64 k_51)) 47 (.slice ae110packings (((qZ s t s.qf.length)[k_1]!).length) ce110packings)) 48 (.int .i64 (((qZ s t s.qf.length)[k_1]!).length))) 49 (.int .i64 k_52) ∧ next_1 = (nextX (zF s.qh.length (qQ s t s.qf.length) (qZ s t s.qf.length) k_1) ((qQ s t s.qf.length)[k_1]!) ((qZ s t s.qf.length)[k_1]!) k_51 k_52) ∧ ((k_52 : Int) ≤ (((qZ s t s.qf.length)[k_1]!).length)) ∧ m' = ((((qZ s t s.qf.length)[k_1]!).length) - (k_52 : Int)).toNat ∧ Fresh w.heap.size [QS, yc] ∧ St w w125 [.row (.slice yR vO yQ) 22 1 vO Qp, .box b111 [.slice ae110rules (((qQ s t s.qf.length)[k_1]!).length) ce110rules, .slice ae110packings (((qZ s t s.qf.length)[k_1]!).length) ce110packings] 129, .row (.slice (aa b119 0) jv Q3) 22 1 jv Xu, .box b3 [.slice xB t.qo.length xx, .slice xK t.qy.length xH, .slice xg t.qm.length xf] 38, .box b1 [.int .i64 s.qH, .slice qx s.qf.length qp, .slice qN s.qh.length qL] 36] [isF true G122 (.slice a120 (((zF s.qh.length (qQ s t s.qf.length) (qZ s t s.qf.length) k_1)[k_51]!).length) c121) ((zF s.qh.length (qQ s t s.qf.length) (qZ s t s.qf.length) k_1)[k_51]!), zn true yc Qp next_1, isF true Fe110rules (.slice ae110rules (((qQ s t s.qf.length)[k_1]!).length) ce110rules) ((qQ s t s.qf.length)[k_1]!), isF true Fe110packings (.slice ae110packings (((qZ s t s.qf.length)[k_1]!).length) ce110packings) ((qZ s t s.qf.length)[k_1]!), atF b107 (o108 + (k_1 : Int).toNat * 2) [.slice ae110rules (((qQ s t s.qf.length)[k_1]!).length) ce110rules, .slice ae110packings (((qZ s t s.qf.length)[k_1]!).length) ce110packings], zn true QS Xu (zF s.qh.length (qQ s t s.qf.length) (qZ s t s.qf.length) k_1), isF true G99 (.slice (aa b107 o108) xX zQ) (jZ s t s.qf.length), isF false xn (.slice qx s.qf.length qp) s.qf, isF false xG (.slice qN s.qh.length qL) s.qh, isF false zy (.slice xB t.qo.length xx) t.qo, isF false zX (.slice xK t.qy.length xH) t.qy, isF false xW (.slice xg t.qm.length xf) t.qm]) (((((qZ s t s.qf.length)[k_1]!).length) - (0 : Int)).toNat) ⟨_, a_next, n_next, c_next, (nextK (zF s.qh.length (qQ s t s.qf.length) (qZ s t s.qf.length) k_1) ((qQ s t s.qf.length)[k_1]!) ((qZ s t s.qf.length)[k_1]!) k_51), x_next, F_next, 0, (by exact qg (qg (qg (qg (qg (qg (qg (qg (qg (qg (qg (qg (rfl) rfl) rfl) rfl) rfl) rfl) rfl) rfl) rfl) rfl) rfl) rfl) rfl), (by exact nextX_zero _ _ _ _), (by omega), rfl, N, H⟩ ?_
   clear H N
   rintro m' ρ w126 ⟨junk, yR, vO, yQ, next_1, Qp, yc, k_52, rfl, rfl, i0, rfl, N, H⟩
   have hn_next := H.zK (α := List Int) 0 rfl 1 rfl (by decide)
   refine qi (ql ?_)
   refine sp (.bool (decide ((k_52 : Int) < (((qZ s t s.qf.length)[k_1]!).length)))) ?_
   refine qj (t_n (qi ?_))
   refine qC (decide ((k_52 : Int) < (((qZ s t s.qf.length)[k_1]!).length))) rfl (fun h127 => ?_) (fun h127 => ?_)
   ·skip
    replace h127 := of_decide_eq_true h127
    have nx := nextX_len (r := ((qQ s t s.qf.length)[k_1]!)) (show k_51 < (zF s.qh.length (qQ s t s.qf.length) (qZ s t s.qf.length) k_1).length by omega) (show k_52 ≤ ((qZ s t s.qf.length)[k_1]!).length by omega)
    have nk := nextK_len (r := ((qQ s t s.qf.length)[k_1]!)) (P := ((qZ s t s.qf.length)[k_1]!)) (show k_51 ≤ (zF s.qh.length (qQ s t s.qf.length) (qZ s t s.qf.length) k_1).length by omega)
    have g1 := prodG_at (n := s.qh.length) (rs := (qQ s t s.qf.length)) (all := (qZ s t s.qf.length)) (i := k_1) (k := k_51) (by omega)
    have g2 := pack_at (s := s) (t := t) (n := s.qf.length) (i := k_1) (x := k_52) (by omega) (by omega)
    refine qM (t_n (qi (qW (qi (ql ?_)))))
    obtain ⟨b128, o129, rfl⟩ := H.addr 3 rfl (by omega)
    obtain ⟨ae131, ce131, Fe131, H⟩ := H.jo 3 rfl k_52 k_52 (by omega) (by omega) (by omega)
    refine oI rfl rfl ?_
    refine oL rfl (H.xJ 1 rfl 0 rfl) ?_
    refine sp (.slice ae131 ((((qZ s t s.qf.length)[k_1]!)[k_52]!).length) ce131) ?_
    refine qj (t_n (qi (ql ?_)))
    refine sp (.slice a120 (((zF s.qh.length (qQ s t s.qf.length) (qZ s t s.qf.length) k_1)[k_51]!).length) c121) ?_
    have sz132 := H.base.size
    have lt133 := H.ltN (L := [QS, yc]) [7, 3]
    refine sw (oc (cloneI_ok _ ((zF s.qh.length (qQ s t s.qf.length) (qZ s t s.qf.length) k_1)[k_51]!) _ _ _ (H.get 2 rfl).1 (by first | assumption | omega)) ?_)
    rintro v137 w135 r137 x136
    replace H := H.yM x136 r137
    obtain ⟨a138, c139, rfl, hc140, hm141⟩ := H.rowForm 0 rfl
    refine sp (.slice a138 (((zF s.qh.length (qQ s t s.qf.length) (qZ s t s.qf.length) k_1)[k_51]!).length) c139) ?_
    refine qj (t_n (qi (qi (ql ?_))))
    refine oF rfl ?_
    refine oL rfl (H.cell 2 rfl rfl) ?_
    refine oN rfl ?_
    refine sp (.int .i64 0) ?_
    refine qj (t_n (qW ?_))
    refine zf (fun m' ρ w142 => ∃ (junk : Env) (k_53 : Nat) (own_1 : List Int), ρ = upd (upd (upd (upd (upd (upd (upd (upd (upd (upd (upd (upd (upd (upd (upd (upd (upd junk 10 (pp b111 0)) 11 (.slice yR vO yQ)) 13 (.slice a120 (((zF s.qh.length (qQ s t s.qf.length) (qZ s t s.qf.length) k_1)[k_51]!).length) c121)) 15 (.slice ae131 ((((qZ s t s.qf.length)[k_1]!)[k_52]!).length) ce131)) 16 (.slice a138 (((zF s.qh.length (qQ s t s.qf.length) (qZ s t s.qf.length) k_1)[k_51]!).length) c139)) 33 (.slice (aa b107 o108) xX zQ)) 34 (.int .i64 xX)) 35 (.int .i64 k_1)) 40 (.slice (aa b119 0) jv Q3)) 41 (.int .i64 jv)) 42 (.int .i64 k_51)) 47 (.slice (aa b128 o129) (((qZ s t s.qf.length)[k_1]!).length) ce110packings)) 48 (.int .i64 (((qZ s t s.qf.length)[k_1]!).length))) 49 (.int .i64 k_52)) 56 (.slice ae110rules (((qQ s t s.qf.length)[k_1]!).length) ce110rules)) 57 (.int .i64 (((qQ s t s.qf.length)[k_1]!).length))) 58 (.int .i64 k_53) ∧ own_1 = (setTo ((zF s.qh.length (qQ s t s.qf.length) (qZ s t s.qf.length) k_1)[k_51]!) ((qQ s t s.qf.length)[k_1]!) (((qZ s t s.qf.length)[k_1]!)[k_52]!) k_53) ∧ ((k_53 : Int) ≤ (((qQ s t s.qf.length)[k_1]!).length)) ∧ m' = ((((qQ s t s.qf.length)[k_1]!).length) - (k_53 : Int)).toNat ∧ Fresh w.heap.size [QS, yc] ∧ St w w142 [.row (.slice a138 (((zF s.qh.length (qQ s t s.qf.length) (qZ s t s.qf.length) k_1)[k_51]!).length) c139) 2 1 (((zF s.qh.length (qQ s t s.qf.length) (qZ s t s.qf.length) k_1)[k_51]!).length) (own_1.map (Value.int .i64)), .row (.slice yR vO yQ) 22 1 vO Qp, .box b111 [.slice ae110rules (((qQ s t s.qf.length)[k_1]!).length) ce110rules, .slice (aa b128 o129) (((qZ s t s.qf.length)[k_1]!).length) ce110packings] 129, .row (.slice (aa b119 0) jv Q3) 22 1 jv Xu, .box b3 [.slice xB t.qo.length xx, .slice xK t.qy.length xH, .slice xg t.qm.length xf] 38, .box b1 [.int .i64 s.qH, .slice qx s.qf.length qp, .slice qN s.qh.length qL] 36] [isF true Fe131 (.slice ae131 ((((qZ s t s.qf.length)[k_1]!)[k_52]!).length) ce131) (((qZ s t s.qf.length)[k_1]!)[k_52]!), atF b128 (o129 + (k_52 : Int).toNat * 1) [.slice ae131 ((((qZ s t s.qf.length)[k_1]!)[k_52]!).length) ce131], isF true G122 (.slice a120 (((zF s.qh.length (qQ s t s.qf.length) (qZ s t s.qf.length) k_1)[k_51]!).length) c121) ((zF s.qh.length (qQ s t s.qf.length) (qZ s t s.qf.length) k_1)[k_51]!), zn true yc Qp (nextX (zF s.qh.length (qQ s t s.qf.length) (qZ s t s.qf.length) k_1) ((qQ s t s.qf.length)[k_1]!) ((qZ s t s.qf.length)[k_1]!) k_51 k_52), isF true Fe110rules (.slice ae110rules (((qQ s t s.qf.length)[k_1]!).length) ce110rules) ((qQ s t s.qf.length)[k_1]!), isF true Fe110packings (.slice (aa b128 o129) (((qZ s t s.qf.length)[k_1]!).length) ce110packings) ((qZ s t s.qf.length)[k_1]!), atF b107 (o108 + (k_1 : Int).toNat * 2) [.slice ae110rules (((qQ s t s.qf.length)[k_1]!).length) ce110rules, .slice (aa b128 o129) (((qZ s t s.qf.length)[k_1]!).length) ce110packings], zn true QS Xu (zF s.qh.length (qQ s t s.qf.length) (qZ s t s.qf.length) k_1), isF true G99 (.slice (aa b107 o108) xX zQ) (jZ s t s.qf.length), isF false xn (.slice qx s.qf.length qp) s.qf, isF false xG (.slice qN s.qh.length qL) s.qh, isF false zy (.slice xB t.qo.length xx) t.qo, isF false zX (.slice xK t.qy.length xH) t.qy, isF false xW (.slice xg t.qm.length xf) t.qm]) (((((qQ s t s.qf.length)[k_1]!).length) - (0 : Int)).toNat) ⟨_, 0, ((zF s.qh.length (qQ s t s.qf.length) (qZ s t s.qf.length) k_1)[k_51]!), (by exact qg (qg (qg (qg (qg (qg (qg (qg (qg (qg (qg (qg (qg (qg (qg (qg (qg (rfl) rfl) rfl) rfl) rfl) rfl) rfl) rfl) rfl) rfl) rfl) rfl) rfl) rfl) rfl) rfl) rfl) rfl), (by rfl), (by omega), rfl, N, H⟩ ?_
    clear H N
    rintro m' ρ w143 ⟨junk, k_53, own_1, rfl, rfl, i0, rfl, N, H⟩
    have hn_own := H.rowNI 0 rfl
    have sl := setTo_len ((zF s.qh.length (qQ s t s.qf.length) (qZ s t s.qf.length) k_1)[k_51]!) ((qQ s t s.qf.length)[k_1]!) (((qZ s t s.qf.length)[k_1]!)[k_52]!) k_53
    refine qi (ql ?_)
    refine sp (.bool (decide ((k_53 : Int) < (((qQ s t s.qf.length)[k_1]!).length)))) ?_
    refine qj (t_n (qi ?_))
    refine qC (decide ((k_53 : Int) < (((qQ s t s.qf.length)[k_1]!).length))) rfl (fun h144 => ?_) (fun h144 => ?_)
    ·skip
     replace h144 := of_decide_eq_true h144
     obtain ⟨g3', g4⟩ := choice_at (s := s) (t := t) (n := s.qf.length) (i := k_1) (r := k_53) (by omega) (by omega)
     refine qM (t_n (qi (qW (qi (ql ?_)))))
     refine sp (.int .i64 k_53) ?_
     obtain ⟨b145, o146, rfl⟩ := H.addr 4 rfl (by omega)
     refine oI rfl rfl ?_
     refine oL rfl (H.vT 4 rfl k_53 (by omega) (by omega)) ?_
     refine sps [.int .i64 k_53, .int .i64 (((qQ s t s.qf.length)[k_1]!)[k_53]!)] ?_
     refine qj (t_n (ql ?_))
     refine sps [.slice a138 (((zF s.qh.length (qQ s t s.qf.length) (qZ s t s.qf.length) k_1)[k_51]!).length) c139, .int .i64 (((qQ s t s.qf.length)[k_1]!)[k_53]!), .slice ae131 ((((qZ s t s.qf.length)[k_1]!)[k_52]!).length) ce131, .int .i64 k_53] ?_
     obtain ⟨b148, o149, rfl⟩ := H.addr 0 rfl (by omega)
     refine oI rfl rfl ?_
     refine oL rfl (H.vT 0 rfl k_53 (by omega) (by omega)) ?_
     obtain ⟨b151, rfl⟩ := H.rowAddr 0 rfl (by omega)
     refine oI rfl rfl ?_
     refine sw (o_storeInt H 0 rfl ((((qZ s t s.qf.length)[k_1]!)[k_52]!)[k_53]!) Tryz.sizeOf2 rfl rfl (i := ((((qQ s t s.qf.length)[k_1]!)[k_53]!).toNat)) (by omega) (by omega) fun w152 H => ?_)
     try dsimp only [List.set] at H
     refine qj (b_n (t_n (ql ?_)))
     refine sw (zk k_53 1 rfl rfl (by omega) ?_)
     refine sp (.int .i64 (k_53 + 1)) ?_
     refine qj ?_
     refine xk (m' := ((((qQ s t s.qf.length)[k_1]!).length) - ((k_53 + 1) : Int)).toNat) (by omega) ⟨_, k_53 + 1, ((setTo ((zF s.qh.length (qQ s t s.qf.length) (qZ s t s.qf.length) k_1)[k_51]!) ((qQ s t s.qf.length)[k_1]!) (((qZ s t s.qf.length)[k_1]!)[k_52]!) k_53).set ((((qQ s t s.qf.length)[k_1]!)[k_53]!).toNat) ((((qZ s t s.qf.length)[k_1]!)[k_52]!)[k_53]!)), (by exact qg (qg (qg (qg (qg (qg (qg (qg (qg (qg (qg (qg (qg (qg (qg (qg (qg (rfl) rfl) rfl) rfl) rfl) rfl) rfl) rfl) rfl) rfl) rfl) rfl) rfl) rfl) rfl) rfl) rfl) rfl), ?_, ?_, rfl, N, H⟩
     · rfl
     · omega
    replace h144 := of_decide_eq_false h144
    refine xQ (t_x (t_x (b_x (t_n (ql ?_)))))
    refine sps [.slice yR vO yQ, .slice a138 (((zF s.qh.length (qQ s t s.qf.length) (qZ s t s.qf.length) k_1)[k_51]!).length) c139] ?_
    refine sw (vJ H Tryz.underlying27 ti22 [.slice a138 (((zF s.qh.length (qQ s t s.qf.length) (qZ s t s.qf.length) k_1)[k_51]!).length) c139] fun b153 w154 H => ?_)
    obtain ⟨G158, N, hn159, H⟩ := H.Xx 1 rfl N (H.awayN [7, 3])
    try dsimp only [List.set] at H
    refine sw (jh H 2 rfl 0 rfl Tryz.underlying27 ti22 rfl (by decide) rfl rfl rfl (by simp [Value.oneCell', Value.cells]) (by unfold maxLen; omega) (by omega) fun a155 c156 w157 H => ?_)
    try dsimp only [List.set] at H
    replace H := H.QF 4 rfl 0 rfl
    replace N : Fresh w.heap.size [(yc ++ G158), QS] := (N.pick [2, 0, 1]).join
    refine sp (.slice a155 (vO + 1) c156) ?_
    refine qj (b_n (t_n (ql ?_)))
    refine sw (zk k_52 1 rfl rfl (by omega) ?_)
    refine sp (.int .i64 (k_52 + 1)) ?_
    refine qj ?_
    refine xk (m' := ((((qZ s t s.qf.length)[k_1]!).length) - ((k_52 + 1) : Int)).toNat) (by omega) ⟨_, a155, vO + 1, c156, ((nextX (zF s.qh.length (qQ s t s.qf.length) (qZ s t s.qf.length) k_1) ((qQ s t s.qf.length)[k_1]!) ((qZ s t s.qf.length)[k_1]!) k_51 k_52) ++ [(setTo ((zF s.qh.length (qQ s t s.qf.length) (qZ s t s.qf.length) k_1)[k_51]!) ((qQ s t s.qf.length)[k_1]!) (((qZ s t s.qf.length)[k_1]!)[k_52]!) k_53)]), Qp ++ [.slice a138 (((zF s.qh.length (qQ s t s.qf.length) (qZ s t s.qf.length) k_1)[k_51]!).length) c139], (yc ++ G158), k_52 + 1, (by exact qg (qg (qg (qg (qg (qg (qg (qg (qg (qg (qg (qg (rfl) rfl) rfl) rfl) rfl) rfl) rfl) rfl) rfl) rfl) rfl) rfl) rfl), ?_, ?_, rfl, (N.pick [1, 0]), H.pick [2, 3, 4, 5, 6] [4, 0, 6, 7, 8, 9, 10, 11, 12, 13, 14, 15]⟩
    · exact nextX_succ (by omega) (by rw [show k_53 = ((qQ s t s.qf.length)[k_1]!).length by omega]; rfl)
    · omega
   replace h127 := of_decide_eq_false h127
   refine xQ (t_x (t_x (b_x (t_n (qi (ql ?_))))))
   refine sp (.slice yR vO yQ) ?_
   refine oN rfl ?_
   refine sp (.bool (decide ((vO : Int) > 300))) ?_
   refine qj (t_n ?_)
   refine qC (decide ((vO : Int) > 300)) rfl (fun h160 => ?_) (fun h160 => ?_)
   ·skip
    replace h160 := of_decide_eq_true h160
    refine qi (ql ?_)
    refine sps [.slice none 0 0, .int .i64 3] ?_
    refine qj (t_n (qV (b_r (t_r (t_r (b_r (t_r (b_r (t_r (t_r (b_r (t_r ?_))))))))))))
    replace H := H.nilRow 22 1
    replace H := H.jq (α := List Int)
    refine ret2 (.slice none 0 0) (.int .i64 3) rfl rfl rfl ⟨_, rfl, ?_, H.base⟩
    first | rw [cho_3 (.inl (own_bad p0 (q := k) (by omega) (by omega)))] | rw [cho_3 (.inr (prod_stop (G := (zF s.qh.length (qQ s t s.qf.length) (qZ s t s.qf.length) k_1)) (r := ((qQ s t s.qf.length)[k_1]!)) (k := k_51 + 1) (i := k_1) kn (by omega) (QO _) (by omega) (by rw [← nextX_end (x := k_52) (by omega) (by omega)]; omega)))]
    exact ⟨none, 0, 0, [], [], rfl, (N.emp.pick [0]), H.pick [0] [0]⟩
   replace h160 := of_decide_eq_false h160
   refine qM (b_n (t_n (ql ?_)))
   refine sw (zk k_51 1 rfl rfl (by omega) ?_)
   refine sp (.int .i64 (k_51 + 1)) ?_
   refine qj ?_
   refine xk (m' := (jv - ((k_51 + 1) : Int)).toNat) (by omega) ⟨_, yR, vO, yQ, (nextX (zF s.qh.length (qQ s t s.qf.length) (qZ s t s.qf.length) k_1) ((qQ s t s.qf.length)[k_1]!) ((qZ s t s.qf.length)[k_1]!) k_51 k_52), Qp, yc, k_51 + 1, (by exact qg (qg (qg (qg (qg (qg (qg (qg (rfl) rfl) rfl) rfl) rfl) rfl) rfl) rfl) rfl), ?_, ?_, ?_, rfl, N, H.pick [0, 1, 2, 3, 4] [1, 2, 3, 4, 5, 6, 7, 8, 9, 10, 11]⟩
   · exact nextX_end (by omega) (by omega)
   · omega
   · rw [← nextX_end (x := k_52) (by omega) (by omega)]; omega
  replace h118 := of_decide_eq_false h118
  refine xQ (t_x (t_x (b_x (t_n (ql ?_)))))
  refine sps [.slice a_next n_next c_next, .slice a_next n_next c_next] ?_
  refine qj (b_n (t_n (ql ?_)))
  refine sw (zk k_1 1 rfl rfl (by omega) ?_)
  refine sp (.int .i64 (k_1 + 1)) ?_
  refine qj ?_
  refine xk (m' := (xX - ((k_1 + 1) : Int)).toNat) (by omega) ⟨_, a_next, n_next, c_next, (nextK (zF s.qh.length (qQ s t s.qf.length) (qZ s t s.qf.length) k_1) ((qQ s t s.qf.length)[k_1]!) ((qZ s t s.qf.length)[k_1]!) k_51), x_next, F_next, k_1 + 1, (by exact qg (qg (qg (qg (rfl) rfl) rfl) rfl) rfl), ?_, ?_, ?_, rfl, (N.pick [1]), H.pick [0, 3, 4] [0, 5, 6, 7, 8, 9, 10]⟩
  · rw [show k_51 = (zF s.qh.length (qQ s t s.qf.length) (qZ s t s.qf.length) k_1).length by omega]; rfl
  · omega
  · show (nextK (zF s.qh.length (qQ s t s.qf.length) (qZ s t s.qf.length) k_1) ((qQ s t s.qf.length)[k_1]!) ((qZ s t s.qf.length)[k_1]!) (zF s.qh.length (qQ s t s.qf.length) (qZ s t s.qf.length) k_1).length).length ≤ 300; rw [← show k_51 = (zF s.qh.length (qQ s t s.qf.length) (qZ s t s.qf.length) k_1).length by omega]; exact n3
 replace h106 := of_decide_eq_false h106
 obtain rfl : k_1 = (qZ s t s.qf.length).length := by omega
 have on : 0 < (zF s.qh.length (qQ s t s.qf.length) (qZ s t s.qf.length) (qZ s t s.qf.length).length).length := by rw [QO]; exact prod_mono kn (Nat.zero_le _) (Nat.le_refl _)
 have kc : ¬ yA (qZ s t s.qf.length) (qZ s t s.qf.length).length > 300 := by rw [QO] at g3; omega
 refine xQ (t_x (t_x (b_x (t_n (qi (ql ?_))))))
 refine sp (.slice a_out_1 jv Q3) ?_
 obtain ⟨b161, rfl⟩ := H.rowAddr 0 rfl (by omega)
 refine sw (o_callF #[.slice (aa b161 0) jv Q3, .func (.func 94) #[] #[]] rfl rfl Tryz.call93 (sortRow sortL Tryz.call94 cmpSort H 0 rfl 0 rfl (by omega) (by omega)) ?_)
 rintro _ w162 ⟨xs163, F164, l165, rfl, hF166, hp167, hs168, H⟩
 replace N : Fresh w.heap.size [F164] := Fresh.perm N hF166
 try dsimp only [List.set] at H
 refine qj (t_n (qi (ql ?_)))
 refine sps [.slice (aa b161 0) jv Q3, .slice (aa b161 0) jv Q3, .int .i64 0] ?_
 refine qj (t_n (qV ?_))
 refine ret2 (.slice (aa b161 0) jv Q3) (.int .i64 0) rfl rfl rfl ⟨_, rfl, ?_, H.base⟩
 rw [cho_0 gp kc hp167 (in_order (Nat.le_refl _) fun a b h1 h2 h3 => hs168 a b h1 h2 ((cmpL_ahead ((perm_rows hp167 b (by omega)).trans (perm_rows hp167 a (by omega)).symm)).2 h3))]
 exact ⟨(aa b161 0), jv, Q3, xs163, F164, rfl, N, H.pick [0] [0]⟩

end Go.Proofs.YtgjnaocffdhnbaaGreat
