/- Walks, printed by program (wip/tools/gv.py): what each function comes to, for all arguments. -/
import Derived.Test.YtkmlihdacnfhdaaG9
namespace Go.Proofs.Ytkmlihdacnfhdaa
open Go.Proofs.Ytkmlihdacnfhdaa.Tot (tot)
open Go.Proofs.Ytkmlihdacnfhdaa.Mark (cnt mrk mkd mkd_mark cnt_mark)
open Go.RowKit
set_option linter.unusedVariables false
set_option linter.unusedSimpArgs false
set_option maxRecDepth 100000
set_option maxHeartbeats 4000000



theorem l03First_ok (w : World) (s : qV) (t : qQ) (bs os : Nat) (qw : Option Addr) (qm : Nat) (qM : List Nat) (qG : Option Addr) (qC : Nat) (xu : List Nat) (bt ot : Nat) (qP : Option Addr) (qJ : Nat) (xJ : List Nat) (xG : Option Addr) (xA : Nat) (zF : List Nat) (qL : Option Addr) (qK : Nat) (xI : List Nat) (hs : jd w bs os [.int .i64 s.qI, .slice qw s.qf.length qm, .slice qG s.qg.length qC]) (xx : qW.rep w qM [.slice qw s.qf.length qm] s.qf) (xN : qW.rep w xu [.slice qG s.qg.length qC] s.qg) (ht : jd w bt ot [.slice qP t.qh.length qJ, .slice xG t.qp.length xA, .slice qL t.ql.length qK]) (zA : qW.rep w xJ [.slice qP t.qh.length qJ] t.qh) (vC : qW.rep w zF [.slice xG t.qp.length xA] t.qp) (xZ : qW.rep w xI [.slice qL t.ql.length qK] t.ql) (p0 : yP s) (p1 : zJ s t) : Calls Try.prog 58 #[pp bs os, pp bt ot] w (Ret (fun v w' => ∃ (ra : Option Addr) (rn : Nat) (rc : Nat), v = .slice ra rn rc ∧ Fresh w.heap.size [] ∧ St w w' [.row (.slice ra rn rc) 2 1 rn ((xY s t).map (Value.int .i64))] []) w) := by
 refine enter (n := 91) Try.func58 rfl Try.ntmps58 (Nat.le_of_ble_eq_true rfl) ?_
 have H := (((((((St.start w).arg xZ).arg vC).arg zA).argAt ht).arg xN).arg xx).argAt hs
 have vW := qN xx
 have yh := qN xN
 have QU := qN zA
 have XA := qN vC
 have Qa := qN xZ
 clear hs xx xN ht zA vC xZ
 have N := Fresh.nil w.heap.size
 have p3 := p0.2.1
 have p7 := p1.2.1
 have p8 := kinds_le p0
 have p9 := p0.1.2.1
 have p11 : jg s = s.qf.length := rfl
 refine qo (qB ?_)
 refine sp (.slice none 0 0) ?_
 refine qA (t_n (qo (qB ?_)))
 refine sps [pp bs os, pp bt ot] ?_
 have sz4 := H.base.size
 refine sw (xf #[pp bs os, pp bt ot] rfl rfl Try.call86 (l03Applicable_ok w s t bs os qw qm qM qG qC xu bt ot qP qJ xJ xG xA zF qL qK xI (qH (H.get 0 rfl) 0 3) (H.get 1 rfl).1 (H.get 2 rfl).1 (qH (H.get 3 rfl) 0 3) (H.get 4 rfl).1 (H.get 5 rfl).1 (H.get 6 rfl).1 (by first | assumption | omega) (by first | assumption | omega)) ?_)
 rintro _ w2 ⟨ra1, rn1, rc1, rfl, M, K⟩ _
 replace H := H.merge K M
 dsimp only [List.cons_append, List.nil_append] at H
 obtain rfl := H.QE 0 rfl
 have al := appl_len s t
 refine sp (.slice ra1 ((appl s t).length) rc1) ?_
 refine qA (t_n (qo (qB ?_)))
 refine sw (XQ H Try.underlying37 ti22 fun b7 w8 H => ?_)
 refine sp (.slice (aa b7 0) 0 0) ?_
 refine qA (t_n (qo (qo (qB ?_))))
 refine sp (.int .i64 0) ?_
 refine qA (t_n (xC ?_))
 replace H := H.boxRow 0 rfl 1 0 rfl (by decide)
 try dsimp only [List.set] at H
 replace H := H.Xh (α := List Int)
 refine vw (fun m' ρ w9 => ∃ (junk : Env) (QB : Option Addr) (vZ : Nat) (yf : Nat) (rest : List (List Int)) (Vg : List Value) (Xx : List Nat) (c : Nat), ρ = upd (upd (upd (upd (upd junk 0 (pp bs os)) 1 (pp bt ot)) 5 (.slice ra1 ((appl s t).length) rc1)) 6 (.slice QB vZ yf)) 7 (.int .i64 c) ∧ rest = t.qp.take c ∧ ((c : Int) ≤ t.qp.length) ∧ m' = (t.qp.length - (c : Int)).toNat ∧ Fresh w.heap.size [Xx] ∧ St w w9 [.row (.slice QB vZ yf) 22 1 vZ Vg, .row (.slice ra1 ((appl s t).length) rc1) 4 1 ((appl s t).length) ((appl s t).map (Value.bool))] [jl true Xx Vg rest, atF bs os [.int .i64 s.qI, .slice qw s.qf.length qm, .slice qG s.qg.length qC], isF false qM (.slice qw s.qf.length qm) s.qf, isF false xu (.slice qG s.qg.length qC) s.qg, atF bt ot [.slice qP t.qh.length qJ, .slice xG t.qp.length xA, .slice qL t.ql.length qK], isF false xJ (.slice qP t.qh.length qJ) t.qh, isF false zF (.slice xG t.qp.length xA) t.qp, isF false xI (.slice qL t.ql.length qK) t.ql]) ((t.qp.length - (0 : Int)).toNat) ⟨_, (aa b7 0), 0, 0, ([] : List (List Int)), [], [], 0, (by exact qj (qj (qj (qj (qj (rfl) rfl) rfl) rfl) rfl) rfl), (by rfl), (by omega), rfl, N.emp, H⟩ ?_
 clear H N
 rintro m' ρ w10 ⟨junk, QB, vZ, yf, rest, Vg, Xx, c, rfl, rfl, i0, rfl, N, H⟩
 have hn_rest := H.zx (α := List Int) 0 rfl 0 rfl (by decide)
 have p4 := (p1.bagLen (k := c))
 rw [List.length_take_of_le (by omega)] at hn_rest
 refine qo (qo (qB ?_))
 refine sps [.int .i64 c, pp bt ot, pp bt ot] ?_
 refine sw (qO bt (ot) 1 Try.underlying41 rfl rfl Try.sizeOf37 rfl ?_)
 refine sw (qF (.slice xG t.qp.length xA) Try.isAgg37 rfl (H.zh 4 rfl 1 rfl) ?_)
 refine sw (vI Try.underlying37 xG t.qp.length xA rfl ?_)
 refine sp (.bool (decide ((c : Int) < t.qp.length))) ?_
 refine qA (t_n ?_)
 refine qX (decide ((c : Int) < t.qp.length)) rfl (fun h11 => ?_) (fun h11 => ?_)
 ·skip
  replace h11 := of_decide_eq_true h11
  refine xy (t_n (qo (xC (qB ?_))))
  refine sps [.slice QB vZ yf, pp bt ot, pp bt ot] ?_
  refine sw (qO bt (ot) 1 Try.underlying41 rfl rfl Try.sizeOf37 rfl ?_)
  refine sw (qF (.slice xG t.qp.length xA) Try.isAgg37 rfl (H.zh 4 rfl 1 rfl) ?_)
  refine sp (.int .i64 c) ?_
  obtain ⟨b12, o13, rfl⟩ := H.addr 6 rfl (by omega)
  obtain ⟨ae15, ce15, Fe15, H⟩ := H.yY 6 rfl c c (by omega) (by omega) (by omega)
  refine sw (xO c Try.underlying37 ti22 rfl rfl (by omega) (by omega) ?_)
  refine sw (qF (.slice ae15 ((t.qp[c]!).length) ce15) Try.isAgg22 rfl (H.zh 1 rfl 0 rfl) ?_)
  have p5 := (p1.bagLen (k := c) (by omega)).len
  have sz16 := H.base.size
  have lt17 := H.ltN (L := [Xx]) [2]
  refine sw (xf #[.slice ae15 ((t.qp[c]!).length) ce15] rfl rfl Try.call77 (l00Own_ok w10 (t.qp[c]!) ae15 ce15 Fe15 (H.get 0 rfl).1 (by first | assumption | omega)) ?_)
  rintro v21 w19 r21 x20
  replace H := H.zI x20 r21
  obtain ⟨a22, c23, rfl, hc24, hm25⟩ := H.jW 0 rfl
  refine sw (QQ H Try.underlying37 ti22 [.slice a22 ((t.qp[c]!).length) c23] fun b26 w27 H => ?_)
  obtain ⟨G31, N, hn32, H⟩ := H.yN 1 rfl N (H.Vb [2])
  try dsimp only [List.set] at H
  refine sw (QR H 2 rfl 0 rfl Try.underlying37 ti22 rfl (by decide) rfl rfl rfl (by simp [Value.oneCell', Value.cells]) (by unfold maxLen; omega) (by omega) fun a28 c29 w30 H => ?_)
  try dsimp only [List.set] at H
  replace H := H.Vl 3 rfl 0 rfl
  replace N : Fresh w.heap.size [(Xx ++ G31)] := (N.pick [1, 0]).join
  refine sp (.slice a28 (vZ + 1) c29) ?_
  refine qA (b_n (t_n (qB ?_)))
  refine sp (.int .i64 c) ?_
  refine sw (vz c 1 rfl rfl (by (first | omega | (have u8 := firstC_bd p0 p1 (k := i) (by omega); rw [Xz ‹_›] at u8; omega))) ?_)
  refine sp (.int .i64 (c + 1)) ?_
  refine qA ?_
  refine xH (m' := (t.qp.length - ((c + 1) : Int)).toNat) (by omega) ⟨_, a28, vZ + 1, c29, ((t.qp.take c) ++ [(t.qp[c]!)]), Vg ++ [.slice a22 ((t.qp[c]!).length) c23], (Xx ++ G31), c + 1, (by exact qj (qj (qj (qj (qj (rfl) rfl) rfl) rfl) rfl) rfl), ?_, ?_, rfl, N, H.pick [2, 3] [0, 5, 6, 7, 8, 9, 10, 11]⟩
  · exact take_snoc (by omega)
  · omega
 replace h11 := of_decide_eq_false h11
 refine ve (t_x (t_x (b_x (t_n (qo (qB ?_))))))
 refine sw (XQ H Try.underlying22 ti2 fun b33 w34 H => ?_)
 refine sp (.slice (aa b33 0) 0 0) ?_
 refine qA (t_n (qo (qo (qB ?_))))
 refine sp (.int .i64 0) ?_
 refine qA (t_n (xC ?_))
 replace H := H.boxRowI 0 [] 0
 try dsimp only [List.set] at H
 refine vw (fun m' ρ w35 => ∃ (junk : Env) (Vf : Option Addr) (Qz : Nat) (XC : Nat) (out : List Int) (i : Nat) (rest_1 : List (List Int)) (Xp : List Value) (QX : List Nat), ρ = upd (upd (upd (upd (upd junk 0 (pp bs os)) 5 (.slice ra1 ((appl s t).length) rc1)) 6 (.slice QB vZ yf)) 8 (.slice Vf Qz XC)) 9 (.int .i64 i) ∧ out = firstTo s t i i ∧ rest_1 = zX s t i ∧ ((i : Int) ≤ ((appl s t).length)) ∧ m' = (((appl s t).length) - (i : Int)).toNat ∧ Fresh w.heap.size [QX] ∧ St w w35 [.row (.slice Vf Qz XC) 2 1 Qz (out.map (Value.int .i64)), .row (.slice QB vZ yf) 22 1 vZ Xp, .row (.slice ra1 ((appl s t).length) rc1) 4 1 ((appl s t).length) ((appl s t).map (Value.bool))] [jl true QX Xp rest_1, atF bs os [.int .i64 s.qI, .slice qw s.qf.length qm, .slice qG s.qg.length qC], isF false qM (.slice qw s.qf.length qm) s.qf, isF false xu (.slice qG s.qg.length qC) s.qg]) ((((appl s t).length) - (0 : Int)).toNat) ⟨_, (aa b33 0), 0, 0, ([] : List Int), 0, (t.qp.take c), Vg, Xx, (by exact qj (qj (qj (qj (qj (rfl) rfl) rfl) rfl) rfl) rfl), (by rfl), (by rw [List.take_of_length_le (by omega)]; rfl), (by omega), rfl, N, H.pick [0, 1, 2] [0, 1, 2, 3]⟩ ?_
 clear H N
 rintro m' ρ w36 ⟨junk, Vf, Qz, XC, out, i, rest_1, Xp, QX, rfl, rfl, rfl, i0, rfl, N, H⟩
 have hn_out := H.QD 0 rfl
 have hn_rest := H.zx (α := List Int) 1 rfl 0 rfl (by decide)
 have fl := jA s t i i
 have rl := (firstR_box p0 p1 i (by omega)).1
 refine qo (qo (qB ?_))
 refine sps [.int .i64 i, .slice ra1 ((appl s t).length) rc1] ?_
 refine sw (vI Try.underlying36 ra1 ((appl s t).length) rc1 rfl ?_)
 refine sp (.bool (decide ((i : Int) < ((appl s t).length)))) ?_
 refine qA (t_n ?_)
 refine qX (decide ((i : Int) < ((appl s t).length))) rfl (fun h37 => ?_) (fun h37 => ?_)
 ·skip
  replace h37 := of_decide_eq_true h37
  have q := p0.rule (i := i) (by omega)
  have qc := q.1
  have qk := q.cell
  have qr := q.2.1
  have b1 := q.2.2.2.2.1
  refine xy (t_n (qo (xC (qo (qB ?_)))))
  refine sp (.int .i64 0) ?_
  refine qA (t_n (qo (qo (qB ?_))))
  refine sps [.slice ra1 ((appl s t).length) rc1, .int .i64 i] ?_
  obtain ⟨b38, rfl⟩ := H.XI 2 rfl (by omega)
  refine sw (xO i Try.underlying36 ti4 rfl rfl (by omega) (by omega) ?_)
  refine sw (qF (.bool ((appl s t)[i]!)) Try.isAgg4 rfl (H.rowBool 2 rfl (iv := i) (i := i) (by omega) (by omega)) ?_)
  refine qA (t_n ?_)
  refine qX ((appl s t)[i]!) rfl (fun h39 => ?_) (fun h39 => ?_)
  ·skip
   replace h39 := appl_true (by omega) h39
   refine qo (qB ?_)
   refine sps [pp bs os, pp bs os] ?_
   refine sw (qO bs (os) 2 Try.underlying30 rfl rfl Try.sizeOf28 rfl ?_)
   refine sw (qF (.slice qG s.qg.length qC) Try.isAgg28 rfl (H.zh 1 rfl 2 rfl) ?_)
   refine sp (.int .i64 i) ?_
   obtain ⟨b40, o41, rfl⟩ := H.addr 3 rfl (by omega)
   obtain ⟨ae43Need, ce43Need, Fe43Need, ae43Have, ce43Have, Fe43Have, ae43Lack, ce43Lack, Fe43Lack, ae43Here, ce43Here, Fe43Here, ae43Out, ce43Out, Fe43Out, ae43Into, ce43Into, Fe43Into, H⟩ := H.yD 3 rfl i i (by omega) (by omega) (by omega)
   refine sw (xO i Try.underlying28 ti92 rfl rfl (by omega) (by omega) ?_)
   refine sw (qO b40 (o41 + (i : Int).toNat * 9) 0 Try.underlying92 rfl rfl Try.sizeOf2 rfl ?_)
   refine sw (qF (.int .i64 ((s.qg[i]!).qy)) Try.isAgg2 rfl (H.zh 6 rfl 0 rfl) ?_)
   refine sp (.int .i64 ((s.qg[i]!).qy)) ?_
   refine qA (t_n (qo ?_))
   refine yg rfl H fun H => ?_
   refine rtp 0 (pp bs os) H ?_
   refine rtp 1 (pp bs os) H ?_
   refine rt 2 (pp bs (os + 2)) (xF bs (os) 2 Try.underlying30 rfl rfl Try.sizeOf28 rfl) H ?_
   refine rt 3 (.slice (aa b40 o41) s.qg.length qC) (xm Try.isAgg28 rfl (fun _ h => h.zh 8 rfl 2 rfl)) H ?_
   refine rtp 4 (.int .i64 i) H ?_
   refine rt 5 (pp b40 (o41 + (i : Int).toNat * 9)) (xK b40 (o41) s.qg.length qC i Try.underlying28 ti92 rfl rfl (by omega) (by omega)) H ?_
   refine rt 6 (pp b40 (o41 + (i : Int).toNat * 9 + 2)) (xF b40 (o41 + (i : Int).toNat * 9) 2 Try.underlying92 rfl rfl Try.sizeOf22 rfl) H ?_
   refine rt 7 (.slice ae43Need (((s.qg[i]!).qR).length) ce43Need) (xm Try.isAgg22 rfl (fun _ h => h.zh 6 rfl 2 rfl)) H ?_
   refine rtp 8 (.slice QB vZ yf) H ?_
   refine rtp 9 (.int .i64 ((s.qg[i]!).qy)) H ?_
   obtain ⟨b45, rfl⟩ := H.XI 1 rfl (by omega)
   refine rt 10 (pp b45 (0 + ((s.qg[i]!).qy : Int).toNat * 1)) (xK b45 (0) vZ yf ((s.qg[i]!).qy) Try.underlying37 ti22 rfl rfl (by omega) (by omega)) H ?_
   refine xn [11] (by kernel_rfl) (by simp) (zg rfl ?_ xq)
   obtain ⟨a46, c47, G48, s49, h50, H⟩ := H.jD 1 rfl 7 rfl (iv := (s.qg[i]!).qy) (((s.qg[i]!).qy).toNat) (by omega) (by omega)
   refine qF (.slice a46 (((zX s t i)[((s.qg[i]!).qy).toNat]!).length) c47) Try.isAgg22 rfl (h50) ?_
   refine ⟨H.pick [0, 1, 2] [1, 2, 3, 4, 5, 6, 7, 8, 9, 10, 11], ?_⟩
   refine xn [12] (by kernel_rfl) (by simp) (zg rfl ?_ xq)
   obtain ⟨u1, u2, u5⟩ := firstR_row (c := (s.qg[i]!).qy.toNat) p0 p1 (show i ≤ _ by omega) qk
   have u3 := b1.len
   have u6 : ∀ k, k < ((s.qg[i]!).qR).length → 0 ≤ ((zX s t i)[(s.qg[i]!).qy.toNat]!)[k]! ∧ ((zX s t i)[(s.qg[i]!).qy.toNat]!)[k]! ≤ 1000 := fun k hk => u5 k (by omega)
   have u7 := sum_pos b1.1 q.2.2.2.2.2.2.2.2.2.1
   refine xf #[.slice ae43Need (((s.qg[i]!).qR).length) ce43Need, .slice a46 (((zX s t i)[((s.qg[i]!).qy).toNat]!).length) c47] rfl rfl Try.call88 (l01Times_ok w36.drew ((s.qg[i]!).qR) ((zX s t i)[((s.qg[i]!).qy).toNat]!) ae43Need ce43Need Fe43Need a46 c47 G48 (H.get 1 rfl).1 (H.get 0 rfl).1 (by first | assumption | omega) (by first | assumption | omega) (by first | assumption | omega)) ?_
   rintro _ w52 rfl x53
   replace H := H.ext x53
   refine ⟨H.pick [0, 1, 2] [1, 2, 3, 4, 5, 6, 7, 8, 9, 10, 11], ?_⟩
   refine rtp 13 (.int .i64 (yR ((s.qg[i]!).qR) ((zX s t i)[((s.qg[i]!).qy).toNat]!))) (H.pick [0, 1, 2] [1, 2, 3, 4, 5, 6, 7, 8, 9, 10, 11]) ?_
   refine xM (by kernel_rfl) (t_n ?_)
   refine yT rfl H [0, 2] fun H => ?_
   have S := H.jP [0, 2] [0, 1, 2, 3, 4, 5, 6, 7, 8, 9, 10, 11]
   refine rtp 0 (.slice (aa b45 0) vZ yf) S ?_
   refine rtp 1 (.int .i64 ((s.qg[i]!).qy)) S ?_
   refine rtp 2 (.slice (aa b45 0) vZ yf) S ?_
   refine rtp 3 (.int .i64 ((s.qg[i]!).qy)) S ?_
   refine rt 4 (pp b45 (0 + ((s.qg[i]!).qy : Int).toNat * 1)) (xK b45 (0) vZ yf ((s.qg[i]!).qy) Try.underlying37 ti22 rfl rfl (by omega) (by omega)) S ?_
   refine rtp 6 (pp bs os) S ?_
   refine rtp 7 (pp bs os) S ?_
   refine rt 8 (pp bs (os + 2)) (xF bs (os) 2 Try.underlying30 rfl rfl Try.sizeOf28 rfl) S ?_
   refine rt 9 (.slice (aa b40 o41) s.qg.length qC) (xm Try.isAgg28 rfl (fun _ h => h.zh 9 rfl 2 rfl)) S ?_
   refine rtp 10 (.int .i64 i) S ?_
   refine rt 11 (pp b40 (o41 + (i : Int).toNat * 9)) (xK b40 (o41) s.qg.length qC i Try.underlying28 ti92 rfl rfl (by omega) (by omega)) S ?_
   refine rt 12 (pp b40 (o41 + (i : Int).toNat * 9 + 2)) (xF b40 (o41 + (i : Int).toNat * 9) 2 Try.underlying92 rfl rfl Try.sizeOf22 rfl) S ?_
   refine rt 13 (.slice ae43Need (((s.qg[i]!).qR).length) ce43Need) (xm Try.isAgg22 rfl (fun _ h => h.zh 7 rfl 2 rfl)) S ?_
   refine rtp 14 (.int .i64 (yR ((s.qg[i]!).qR) ((zX s t i)[((s.qg[i]!).qy).toNat]!))) S ?_
   refine rt 15 (.int .i64 (-(yR ((s.qg[i]!).qR) ((zX s t i)[((s.qg[i]!).qy).toNat]!)))) (y_neg (yR ((s.qg[i]!).qR) ((zX s t i)[((s.qg[i]!).qy).toNat]!)) rfl (by (first | omega | (have u8 := firstC_bd p0 p1 (k := i) (by omega); rw [Xz ‹_›] at u8; omega)))) S ?_
   refine xn [5] (by kernel_rfl) (by simp) (zg rfl ?_ xq)
   obtain ⟨a55, c56, G57, s58, h59, H⟩ := H.jD 1 rfl 8 rfl (iv := (s.qg[i]!).qy) (((s.qg[i]!).qy).toNat) (by omega) (by omega)
   refine qF (.slice a55 (((zX s t i)[((s.qg[i]!).qy).toNat]!).length) c56) Try.isAgg22 rfl (h59) ?_
   refine ⟨H.pick [0, 2] [1, 2, 3, 4, 5, 6, 7, 8, 9, 10, 11, 12], ?_⟩
   refine xn [16] (by kernel_rfl) (by simp) (zg rfl ?_ xq)
   obtain ⟨u1, u2, u5⟩ := firstR_row (c := (s.qg[i]!).qy.toNat) p0 p1 (show i ≤ _ by omega) qk
   have u3 := b1.len
   have u8 := firstC_bd p0 p1 (k := i) (by omega)
   rw [Xz ‹_›] at u8
   have u4 := b1.yz (t := -(yR (s.qg[i]!).qR ((zX s t i)[(s.qg[i]!).qy.toNat]!))) (by omega)
   have sz60 := H.base.size
   have lt61 := H.ltN (L := [QX]) [9]
   refine xf #[.slice a55 (((zX s t i)[((s.qg[i]!).qy).toNat]!).length) c56, .slice ae43Need (((s.qg[i]!).qR).length) ce43Need, .int .i64 (-(yR ((s.qg[i]!).qR) ((zX s t i)[((s.qg[i]!).qy).toNat]!)))] rfl rfl Try.call79 (Xy w52.drew ((zX s t i)[((s.qg[i]!).qy).toNat]!) ((s.qg[i]!).qR) (-(yR ((s.qg[i]!).qR) ((zX s t i)[((s.qg[i]!).qy).toNat]!))) a55 c56 G57 ae43Need ce43Need Fe43Need (H.get 0 rfl).1 (H.get 2 rfl).1 (by first | assumption | omega) (by first | assumption | omega) (by first | assumption | omega)) ?_
   rintro v65 w63 r65 x64
   replace H := H.zI x64 r65
   obtain ⟨a66, c67, rfl, hc68, hm69⟩ := H.jW 0 rfl
   refine ⟨H.pick [1, 3] [1, 2, 3, 4, 5, 6, 7, 8, 9, 10, 11, 12], ?_⟩
   refine rt 17 (pp b45 (0 + ((s.qg[i]!).qy : Int).toNat * 1)) (xK b45 (0) vZ yf ((s.qg[i]!).qy) Try.underlying37 ti22 rfl rfl (by omega) (by omega)) (H.pick [1, 3] [1, 2, 3, 4, 5, 6, 7, 8, 9, 10, 11, 12]) ?_
   refine xn [18] (by kernel_rfl) (by simp) (zg rfl ?_ xq)
   obtain ⟨G71, N, hn72, H⟩ := H.yN 0 rfl N (H.Vb [9])
   try dsimp only [List.set] at H
   refine jw true H 2 rfl 10 rfl (.slice a66 ((yj ((zX s t i)[((s.qg[i]!).qy).toNat]!) ((s.qg[i]!).qR) (-(yR ((s.qg[i]!).qR) ((zX s t i)[((s.qg[i]!).qy).toNat]!)))).length) c67) 0 rfl rfl Try.sizeOf22 rfl rfl (i := (((s.qg[i]!).qy).toNat)) (by omega) (by omega) (by simp) fun w70 xs73 F74 hs75 H => ?_
   replace N : Fresh w.heap.size [F74] := (N.pick [1, 0]).repl hs75
   try dsimp only [List.set] at H
   refine ⟨H.pick [1, 3] [3, 4, 5, 6, 7, 8, 9, 10, 11, 12, 13, 14], ?_⟩
   refine xM (by kernel_rfl) (t_n ?_)
   refine qB ?_
   refine sps [.slice Vf Qz XC, .int .i64 (yR ((s.qg[i]!).qR) ((zX s t i)[((s.qg[i]!).qy).toNat]!))] ?_
   refine sw (QQ H Try.underlying22 ti2 [.int .i64 (yR ((s.qg[i]!).qR) ((zX s t i)[((s.qg[i]!).qy).toNat]!))] fun b76 w77 H => ?_)
   refine sw (QR H 2 rfl 0 rfl Try.underlying22 ti2 rfl (by decide) rfl rfl rfl (by simp [Value.oneCell', Value.cells]) (by unfold maxLen; omega) (by omega) fun a78 c79 w80 H => ?_)
   rw [snocI] at H
   try dsimp only [List.set] at H
   refine sp (.slice a78 (Qz + 1) c79) ?_
   refine qA (b_n (t_n (qB ?_)))
   refine sp (.int .i64 i) ?_
   refine sw (vz i 1 rfl rfl (by (first | omega | (have u8 := firstC_bd p0 p1 (k := i) (by omega); rw [Xz ‹_›] at u8; omega))) ?_)
   refine sp (.int .i64 (i + 1)) ?_
   refine qA ?_
   refine xH (m' := (((appl s t).length) - ((i + 1) : Int)).toNat) (by omega) ⟨_, a78, Qz + 1, c79, ((firstTo s t i i) ++ [yR ((s.qg[i]!).qR) ((zX s t i)[((s.qg[i]!).qy).toNat]!)]), i + 1, ((zX s t i).set (((s.qg[i]!).qy).toNat) (yj ((zX s t i)[((s.qg[i]!).qy).toNat]!) ((s.qg[i]!).qR) (-(yR ((s.qg[i]!).qR) ((zX s t i)[((s.qg[i]!).qy).toNat]!))))), xs73, F74, (by exact qj (qj (qj (qj (qj (rfl) rfl) rfl) rfl) rfl) rfl), ?_, ?_, ?_, rfl, N, H.pick [2, 3, 4] [0, 12, 13, 14]⟩
   · exact firstTo_snoc' (by first | exact (Xz ‹_›).symm | exact (firstC_no ‹_›).symm)
   · first | exact (firstR_yes ‹_›).symm | exact (firstR_no ‹_›).symm
   · omega
  replace h39 := appl_false (by omega) h39
  refine xy (t_n (qB ?_))
  refine sps [.slice Vf Qz XC, .int .i64 0] ?_
  refine sw (QQ H Try.underlying22 ti2 [.int .i64 0] fun b81 w82 H => ?_)
  refine sw (QR H 1 rfl 0 rfl Try.underlying22 ti2 rfl (by decide) rfl rfl rfl (by simp [Value.oneCell', Value.cells]) (by unfold maxLen; omega) (by omega) fun a83 c84 w85 H => ?_)
  rw [snocI] at H
  try dsimp only [List.set] at H
  refine sp (.slice a83 (Qz + 1) c84) ?_
  refine qA (b_n (t_n (qB ?_)))
  refine sp (.int .i64 i) ?_
  refine sw (vz i 1 rfl rfl (by (first | omega | (have u8 := firstC_bd p0 p1 (k := i) (by omega); rw [Xz ‹_›] at u8; omega))) ?_)
  refine sp (.int .i64 (i + 1)) ?_
  refine qA ?_
  refine xH (m' := (((appl s t).length) - ((i + 1) : Int)).toNat) (by omega) ⟨_, a83, Qz + 1, c84, ((firstTo s t i i) ++ [0]), i + 1, (zX s t i), Xp, QX, (by exact qj (qj (qj (qj (qj (rfl) rfl) rfl) rfl) rfl) rfl), ?_, ?_, ?_, rfl, N, H.pick [1, 2, 3] [0, 1, 2, 3]⟩
  · exact firstTo_snoc' (by first | exact (Xz ‹_›).symm | exact (firstC_no ‹_›).symm)
  · first | exact (firstR_yes ‹_›).symm | exact (firstR_no ‹_›).symm
  · omega
 replace h37 := of_decide_eq_false h37
 refine ve (t_x (t_x (b_x (t_n (qo (qB ?_))))))
 refine sps [.slice Vf Qz XC, .slice Vf Qz XC] ?_
 refine qA (t_n (xE ?_))
 refine ret1 (.slice Vf Qz XC) rfl rfl ⟨_, rfl, ?_, H.base⟩
 obtain rfl : i = s.qg.length := by omega
 exact ⟨Vf, Qz, XC, rfl, (N.pick []), H.pick [0] []⟩

end Go.Proofs.Ytkmlihdacnfhdaa
